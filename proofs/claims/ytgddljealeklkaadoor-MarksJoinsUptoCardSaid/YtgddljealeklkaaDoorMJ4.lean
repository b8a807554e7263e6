/- Parts of a claim (MJ), packed by a program (pack.py) out of the texts that it names. -/
import Derived.Test.YtgddljealeklkaaDoorCards
import Derived.Test.YtgddljealeklkaaDoorTie
import Derived.WalkKit
import Derived.ProofKit
import Derived.OpenShut
import Derived.ShutString
import Derived.ChangeOld
import Derived.Below
import Derived.SizedLaws
import Derived.Deep.DeepHandedRow
import Derived.Lib.LaidTab
import Derived.Test.YtgddljealeklkaaDoorMJ3
-- PJx7
section
namespace Go.Proofs.YtgddljealeklkaaDoor.PJ
attribute [local go_sem] Go.Proofs.YtgddljealeklkaaDoorM.fieldBits0 Go.Proofs.YtgddljealeklkaaDoorM.fieldBits1
open Go.RowKit Go.Proofs.YtgddljealeklkaaDoorW.PrintWords Go.Proofs.YtgddljealeklkaaDoorW.PrintLast Go.Proofs.YtgddljealeklkaaDoorW.PrintMore
attribute [local go_sem] max2_int min2_int max_two min_two max_three min_three max_four min_four   -- for this text's walks alone
set_option linter.unusedVariables false
set_option linter.unusedSimpArgs false

section
open Go.Proofs.YtgddljealeklkaaDoorQ Go.Proofs.YtgddljealeklkaaDoorM Go.Shelf
open Go.Proofs.YtgddljealeklkaaDoorW.PrintWords
namespace MjF
/-- How many bits of a byte are set. -/
def mj_pcB (x : Nat) : Nat := x % 2 + x / 2 % 2 + x / 4 % 2 + x / 8 % 2 + x / 16 % 2 + x / 32 % 2 + x / 64 % 2 + x / 128 % 2
def mj_dig (a b c d e f g h : Nat) : Nat := a + 256 * (b + 256 * (c + 256 * (d + 256 * (e + 256 * (f + 256 * (g + 256 * h))))))
theorem mj_and_cons (a b c d : Nat) (ha : a < 256) (hc : c < 256) : (a + 256 * b) &&& (c + 256 * d) = (a &&& c) + 256 * (b &&& d) := by
  have h1 : ((a + 256 * b) &&& (c + 256 * d)) % 2 ^ 8 = ((a + 256 * b) % 2 ^ 8) &&& ((c + 256 * d) % 2 ^ 8) := Nat.and_mod_two_pow
  have h2 : ((a + 256 * b) &&& (c + 256 * d)) / 2 ^ 8 = ((a + 256 * b) / 2 ^ 8) &&& ((c + 256 * d) / 2 ^ 8) := Nat.and_div_two_pow
  rw [show (a + 256 * b) % 2 ^ 8 = a by omega, show (c + 256 * d) % 2 ^ 8 = c by omega] at h1
  rw [show (a + 256 * b) / 2 ^ 8 = b by omega, show (c + 256 * d) / 2 ^ 8 = d by omega] at h2
  omega
theorem mj_and_dig (m a b c d e f g h : Nat) (hm : m < 256) (ha : a < 256) (hb : b < 256) (hc : c < 256) (hd : d < 256) (he : e < 256) (hf : f < 256) (hg : g < 256) :
    mj_dig a b c d e f g h &&& mj_dig m m m m m m m m = mj_dig (a &&& m) (b &&& m) (c &&& m) (d &&& m) (e &&& m) (f &&& m) (g &&& m) (h &&& m) := by
  unfold mj_dig
  rw [mj_and_cons _ _ _ _ ha hm, mj_and_cons _ _ _ _ hb hm, mj_and_cons _ _ _ _ hc hm, mj_and_cons _ _ _ _ hd hm, mj_and_cons _ _ _ _ he hm, mj_and_cons _ _ _ _ hf hm, mj_and_cons _ _ _ _ hg hm]
def mj_g1 (x : Nat) : Nat := (x / 2 &&& 85) + (x &&& 85)
def mj_g2 (x : Nat) : Nat := (x / 4 &&& 51) + (x &&& 51)
theorem mj_half_and : ∀ x, x < 256 → ∀ p, p < 2 → (x / 2 + 128 * p) &&& 85 = x / 2 &&& 85 := by decide +kernel
theorem mj_quarter_and : ∀ x, x < 256 → ∀ p, p < 4 → (x / 4 + 64 * p) &&& 51 = x / 4 &&& 51 := by decide +kernel
theorem mj_step1 (a b c d e f g h : Nat) (ha : a < 256) (hb : b < 256) (hc : c < 256) (hd : d < 256) (he : e < 256) (hf : f < 256) (hg : g < 256) (hh : h < 256) :
    (mj_dig a b c d e f g h / 2 &&& 6148914691236517205) + (mj_dig a b c d e f g h &&& 6148914691236517205) = mj_dig (mj_g1 a) (mj_g1 b) (mj_g1 c) (mj_g1 d) (mj_g1 e) (mj_g1 f) (mj_g1 g) (mj_g1 h) := by
  rw [show (6148914691236517205 : Nat) = mj_dig 85 85 85 85 85 85 85 85 by decide]
  have e1 : mj_dig a b c d e f g h / 2 = mj_dig (a / 2 + 128 * (b % 2)) (b / 2 + 128 * (c % 2)) (c / 2 + 128 * (d % 2)) (d / 2 + 128 * (e % 2)) (e / 2 + 128 * (f % 2)) (f / 2 + 128 * (g % 2)) (g / 2 + 128 * (h % 2)) (h / 2 + 128 * 0) := by unfold mj_dig; omega
  rw [e1, mj_and_dig _ _ _ _ _ _ _ _ _ (by decide) (by omega) (by omega) (by omega) (by omega) (by omega) (by omega) (by omega), mj_and_dig _ _ _ _ _ _ _ _ _ (by decide) ha hb hc hd he hf hg,
    mj_half_and a ha _ (by omega), mj_half_and b hb _ (by omega), mj_half_and c hc _ (by omega), mj_half_and d hd _ (by omega), mj_half_and e he _ (by omega), mj_half_and f hf _ (by omega), mj_half_and g hg _ (by omega), mj_half_and h hh _ (by omega)]
  unfold mj_dig mj_g1
  omega
theorem mj_step2 (a b c d e f g h : Nat) (ha : a < 256) (hb : b < 256) (hc : c < 256) (hd : d < 256) (he : e < 256) (hf : f < 256) (hg : g < 256) (hh : h < 256) :
    (mj_dig a b c d e f g h / 4 &&& 3689348814741910323) + (mj_dig a b c d e f g h &&& 3689348814741910323) = mj_dig (mj_g2 a) (mj_g2 b) (mj_g2 c) (mj_g2 d) (mj_g2 e) (mj_g2 f) (mj_g2 g) (mj_g2 h) := by
  rw [show (3689348814741910323 : Nat) = mj_dig 51 51 51 51 51 51 51 51 by decide]
  have e1 : mj_dig a b c d e f g h / 4 = mj_dig (a / 4 + 64 * (b % 4)) (b / 4 + 64 * (c % 4)) (c / 4 + 64 * (d % 4)) (d / 4 + 64 * (e % 4)) (e / 4 + 64 * (f % 4)) (f / 4 + 64 * (g % 4)) (g / 4 + 64 * (h % 4)) (h / 4 + 64 * 0) := by unfold mj_dig; omega
  rw [e1, mj_and_dig _ _ _ _ _ _ _ _ _ (by decide) (by omega) (by omega) (by omega) (by omega) (by omega) (by omega) (by omega), mj_and_dig _ _ _ _ _ _ _ _ _ (by decide) ha hb hc hd he hf hg,
    mj_quarter_and a ha _ (by omega), mj_quarter_and b hb _ (by omega), mj_quarter_and c hc _ (by omega), mj_quarter_and d hd _ (by omega), mj_quarter_and e he _ (by omega), mj_quarter_and f hf _ (by omega), mj_quarter_and g hg _ (by omega), mj_quarter_and h hh _ (by omega)]
  unfold mj_dig mj_g2
  omega
theorem mj_nib : ∀ u, u ≤ 4 → ∀ v, v ≤ 4 → ∀ p, p ≤ 4 → ((16 * u + v) / 16 + 16 * p + (16 * u + v)) &&& 15 = u + v := by decide +kernel
theorem mj_step3 (a b c d e f g h : Nat) (ha : a / 16 ≤ 4 ∧ a % 16 ≤ 4) (hb : b / 16 ≤ 4 ∧ b % 16 ≤ 4) (hc : c / 16 ≤ 4 ∧ c % 16 ≤ 4) (hd : d / 16 ≤ 4 ∧ d % 16 ≤ 4) (he : e / 16 ≤ 4 ∧ e % 16 ≤ 4) (hf : f / 16 ≤ 4 ∧ f % 16 ≤ 4) (hg : g / 16 ≤ 4 ∧ g % 16 ≤ 4) (hh : h / 16 ≤ 4 ∧ h % 16 ≤ 4) :
    (mj_dig a b c d e f g h / 16 + mj_dig a b c d e f g h) &&& 1085102592571150095 = mj_dig (a / 16 + a % 16) (b / 16 + b % 16) (c / 16 + c % 16) (d / 16 + d % 16) (e / 16 + e % 16) (f / 16 + f % 16) (g / 16 + g % 16) (h / 16 + h % 16) := by
  rw [show (1085102592571150095 : Nat) = mj_dig 15 15 15 15 15 15 15 15 by decide]
  have k : ∀ x p, x / 16 ≤ 4 ∧ x % 16 ≤ 4 → p ≤ 4 → (x / 16 + 16 * p + x) &&& 15 = x / 16 + x % 16 := fun x p hx hp => by
    have := mj_nib (x / 16) hx.1 (x % 16) hx.2 p hp
    rwa [show 16 * (x / 16) + x % 16 = x by omega] at this
  have e1 : mj_dig a b c d e f g h / 16 + mj_dig a b c d e f g h = mj_dig (a / 16 + 16 * (b % 16) + a) (b / 16 + 16 * (c % 16) + b) (c / 16 + 16 * (d % 16) + c) (d / 16 + 16 * (e % 16) + d) (e / 16 + 16 * (f % 16) + e) (f / 16 + 16 * (g % 16) + f) (g / 16 + 16 * (h % 16) + g) (h / 16 + 16 * 0 + h) := by unfold mj_dig; omega
  rw [e1, mj_and_dig _ _ _ _ _ _ _ _ _ (by decide) (by omega) (by omega) (by omega) (by omega) (by omega) (by omega) (by omega),
    k a _ ha hb.2, k b _ hb hc.2, k c _ hc hd.2, k d _ hd he.2, k e _ he hf.2, k f _ hf hg.2, k g _ hg hh.2, k h _ hh (by omega)]
theorem mj_nibs : ∀ x, x < 256 → mj_g1 x < 256 ∧ mj_g2 (mj_g1 x) / 16 ≤ 4 ∧ mj_g2 (mj_g1 x) % 16 ≤ 4 ∧ mj_g2 (mj_g1 x) / 16 + mj_g2 (mj_g1 x) % 16 = mj_pcB x ∧ mj_pcB x ≤ 8 := by decide +kernel
theorem mj_step4 (a b c d e f g h : Nat) (ha : a ≤ 8) (hb : b ≤ 8) (hc : c ≤ 8) (hd : d ≤ 8) (he : e ≤ 8) (hf : f ≤ 8) (hg : g ≤ 8) (hh : h ≤ 8) (C D E : Nat) (hC : C = mj_dig a b c d e f g h) (hD : D = C + C / 256) (hE : E = D + D / 65536) :
    D < 18446744073709551616 ∧ E < 18446744073709551616 ∧ E + E / 4294967296 < 9223372036854775808 ∧ (E + E / 4294967296) % 128 = a + b + c + d + e + f + g + h := by
  have h1 : C / 256 = mj_dig b c d e f g h 0 := by rw [hC]; unfold mj_dig; omega
  have hD' : D = mj_dig (a + b) (b + c) (c + d) (d + e) (e + f) (f + g) (g + h) h := by rw [hD, h1, hC]; unfold mj_dig; omega
  clear hD h1 hC
  have h2 : D / 65536 = mj_dig (c + d) (d + e) (e + f) (f + g) (g + h) h 0 0 := by rw [hD']; unfold mj_dig; omega
  have hE' : E = mj_dig (a + b + c + d) (b + c + d + e) (c + d + e + f) (d + e + f + g) (e + f + g + h) (f + g + h) (g + h) h := by rw [hE, h2, hD']; unfold mj_dig; omega
  clear hE h2
  have h3 : E / 4294967296 = mj_dig (e + f + g + h) (f + g + h) (g + h) h 0 0 0 0 := by rw [hE']; unfold mj_dig; omega
  have hF : E + E / 4294967296 = mj_dig (a + b + c + d + (e + f + g + h)) (b + c + d + e + (f + g + h)) (c + d + e + f + (g + h)) (d + e + f + g + h) (e + f + g + h) (f + g + h) (g + h) h := by rw [h3, hE']; unfold mj_dig; omega
  refine ⟨by rw [hD']; unfold mj_dig; omega, by rw [hE']; unfold mj_dig; omega, by rw [hF]; unfold mj_dig; omega, ?_⟩
  rw [hF]
  unfold mj_dig
  omega
def mj_cnt (q : Nat → Bool) : Nat → Nat
  | 0 => 0
  | n + 1 => mj_cnt q n + (q n).toNat
theorem mj_bit_nat (N i : Nat) : (N.testBit i).toNat = N / 2 ^ i % 2 := by
  rw [Nat.testBit_eq_decide_div_mod_eq]
  by_cases h : N / 2 ^ i % 2 = 1
  · rw [decide_eq_true h, h]; rfl
  · rw [decide_eq_false h]
    show 0 = _
    omega
theorem mj_cnt_byte (N k : Nat) : mj_cnt (fun i => N.testBit i) (8 * (k + 1)) = mj_cnt (fun i => N.testBit i) (8 * k) + mj_pcB (N / 256 ^ k % 256) := by
  have h : ∀ j, N / 2 ^ (8 * k + j) = N / 256 ^ k / 2 ^ j := fun j => by
    rw [Nat.pow_add, Nat.pow_mul, Nat.div_div_eq_div_mul]
  rw [show 8 * (k + 1) = 8 * k + 7 + 1 by omega]
  simp only [mj_cnt, mj_bit_nat]
  rw [h 7, h 6, h 5, h 4, h 3, h 2, h 1, show 8 * k = 8 * k + 0 by omega, h 0]
  unfold mj_pcB
  generalize N / 256 ^ k = y
  omega
theorem mj_dig_of (N : Nat) (h : N < 18446744073709551616) : N = mj_dig (N % 256) (N / 256 % 256) (N / 65536 % 256) (N / 16777216 % 256) (N / 4294967296 % 256) (N / 1099511627776 % 256) (N / 281474976710656 % 256) (N / 72057594037927936 % 256) := by
  unfold mj_dig
  omega
theorem mj_dig_lt (a b c d e f g h : Nat) (ha : a < 256) (hb : b < 256) (hc : c < 256) (hd : d < 256) (he : e < 256) (hf : f < 256) (hg : g < 256) (hh : h < 256) : mj_dig a b c d e f g h < 18446744073709551616 := by
  unfold mj_dig
  omega
set_option maxHeartbeats 4000000 in
/-- The sum of the bits, as it is reckoned. -/
theorem mj_pop_nat (N a b c d e : Nat) (hN : N < 18446744073709551616)
    (ha : a = (N / 2 &&& 6148914691236517205) + (N &&& 6148914691236517205))
    (hb : b = (a / 4 &&& 3689348814741910323) + (a &&& 3689348814741910323))
    (hc : c = (b / 16 + b) &&& 1085102592571150095)
    (hd : d = c + c / 256) (he : e = d + d / 65536) :
    a < 18446744073709551616 ∧ b < 18446744073709551616 ∧ b / 16 + b < 18446744073709551616 ∧ c < 18446744073709551616 ∧ d < 18446744073709551616 ∧ e < 18446744073709551616 ∧ e + e / 4294967296 < 9223372036854775808 ∧ (e + e / 4294967296) % 128 = mj_cnt (fun i => N.testBit i) 64 := by
  have l0 : N % 256 < 256 := by omega
  have l1 : N / 256 % 256 < 256 := by omega
  have l2 : N / 65536 % 256 < 256 := by omega
  have l3 : N / 16777216 % 256 < 256 := by omega
  have l4 : N / 4294967296 % 256 < 256 := by omega
  have l5 : N / 1099511627776 % 256 < 256 := by omega
  have l6 : N / 281474976710656 % 256 < 256 := by omega
  have l7 : N / 72057594037927936 % 256 < 256 := by omega
  have hcnt : mj_cnt (fun i => N.testBit i) 64 = mj_pcB (N % 256) + mj_pcB (N / 256 % 256) + mj_pcB (N / 65536 % 256) + mj_pcB (N / 16777216 % 256) + mj_pcB (N / 4294967296 % 256) + mj_pcB (N / 1099511627776 % 256) + mj_pcB (N / 281474976710656 % 256) + mj_pcB (N / 72057594037927936 % 256) := by
    have h0 := mj_cnt_byte N 0
    have h1 := mj_cnt_byte N 1
    have h2 := mj_cnt_byte N 2
    have h3 := mj_cnt_byte N 3
    have h4 := mj_cnt_byte N 4
    have h5 := mj_cnt_byte N 5
    have h6 := mj_cnt_byte N 6
    have h7 := mj_cnt_byte N 7
    simp only [Nat.reduceMul, Nat.reduceAdd, Nat.reducePow, Nat.div_one] at h0 h1 h2 h3 h4 h5 h6 h7
    have z : mj_cnt (fun i => N.testBit i) 0 = 0 := rfl
    omega
  have hNd := mj_dig_of N hN
  rw [hcnt]
  generalize N % 256 = x0 at *
  generalize N / 256 % 256 = x1 at *
  generalize N / 65536 % 256 = x2 at *
  generalize N / 16777216 % 256 = x3 at *
  generalize N / 4294967296 % 256 = x4 at *
  generalize N / 1099511627776 % 256 = x5 at *
  generalize N / 281474976710656 % 256 = x6 at *
  generalize N / 72057594037927936 % 256 = x7 at *
  obtain ⟨p0, q0, r0, s0, t0⟩ := mj_nibs x0 l0
  obtain ⟨p1, q1, r1, s1, t1⟩ := mj_nibs x1 l1
  obtain ⟨p2, q2, r2, s2, t2⟩ := mj_nibs x2 l2
  obtain ⟨p3, q3, r3, s3, t3⟩ := mj_nibs x3 l3
  obtain ⟨p4, q4, r4, s4, t4⟩ := mj_nibs x4 l4
  obtain ⟨p5, q5, r5, s5, t5⟩ := mj_nibs x5 l5
  obtain ⟨p6, q6, r6, s6, t6⟩ := mj_nibs x6 l6
  obtain ⟨p7, q7, r7, s7, t7⟩ := mj_nibs x7 l7
  rw [hNd, mj_step1 _ _ _ _ _ _ _ _ l0 l1 l2 l3 l4 l5 l6 l7] at ha
  have la := mj_dig_lt _ _ _ _ _ _ _ _ p0 p1 p2 p3 p4 p5 p6 p7
  rw [ha, mj_step2 _ _ _ _ _ _ _ _ p0 p1 p2 p3 p4 p5 p6 p7] at hb
  have m : ∀ y, y / 16 ≤ 4 ∧ y % 16 ≤ 4 → y < 69 := fun y hy => by omega
  have lb := mj_dig_lt _ _ _ _ _ _ _ _ (Nat.lt_trans (m _ ⟨q0, r0⟩) (by decide)) (Nat.lt_trans (m _ ⟨q1, r1⟩) (by decide)) (Nat.lt_trans (m _ ⟨q2, r2⟩) (by decide)) (Nat.lt_trans (m _ ⟨q3, r3⟩) (by decide)) (Nat.lt_trans (m _ ⟨q4, r4⟩) (by decide)) (Nat.lt_trans (m _ ⟨q5, r5⟩) (by decide)) (Nat.lt_trans (m _ ⟨q6, r6⟩) (by decide)) (Nat.lt_trans (m _ ⟨q7, r7⟩) (by decide))
  have lb2 : b / 16 + b < 18446744073709551616 := by
    have k : b < 69 * 72057594037927936 := by
      have k0 := m _ ⟨q0, r0⟩
      have k1 := m _ ⟨q1, r1⟩
      have k2 := m _ ⟨q2, r2⟩
      have k3 := m _ ⟨q3, r3⟩
      have k4 := m _ ⟨q4, r4⟩
      have k5 := m _ ⟨q5, r5⟩
      have k6 := m _ ⟨q6, r6⟩
      have k7 := m _ ⟨q7, r7⟩
      rw [hb]
      unfold mj_dig
      omega
    omega
  rw [hb] at lb2
  rw [hb, mj_step3 _ _ _ _ _ _ _ _ ⟨q0, r0⟩ ⟨q1, r1⟩ ⟨q2, r2⟩ ⟨q3, r3⟩ ⟨q4, r4⟩ ⟨q5, r5⟩ ⟨q6, r6⟩ ⟨q7, r7⟩, s0, s1, s2, s3, s4, s5, s6, s7] at hc
  have lc := mj_dig_lt _ _ _ _ _ _ _ _ (Nat.lt_of_le_of_lt t0 (by decide)) (Nat.lt_of_le_of_lt t1 (by decide)) (Nat.lt_of_le_of_lt t2 (by decide)) (Nat.lt_of_le_of_lt t3 (by decide)) (Nat.lt_of_le_of_lt t4 (by decide)) (Nat.lt_of_le_of_lt t5 (by decide)) (Nat.lt_of_le_of_lt t6 (by decide)) (Nat.lt_of_le_of_lt t7 (by decide))
  obtain ⟨g1', g2', g3', g4'⟩ := mj_step4 _ _ _ _ _ _ _ _ t0 t1 t2 t3 t4 t5 t6 t7 c d e hc hd he
  refine ⟨by rw [ha]; exact la, by rw [hb]; exact lb, by rw [hb]; exact lb2, by rw [hc]; exact lc, g1', g2', g3', g4'⟩
theorem mj_size_eq (n : Nat) (h : n ≤ 281474976710656) : bitmap_size.f (n : Int) = some ((nwords n : Nat) : Int) := by
  unfold bitmap_size.f
  have e1 : Int.tmod (n : Int) 64 = ((n % 64 : Nat) : Int) := rfl
  have e2 : Int.tdiv (n : Int) 64 = ((n / 64 : Nat) : Int) := rfl
  have e3 : wrap64 ((n / 64 : Nat) : Int) = ((n / 64 : Nat) : Int) := by unfold wrap64; omega
  rw [e1, e2, e3]
  have e4 : wrap64 (((n / 64 : Nat) : Int) + 1) = ((n / 64 : Nat) : Int) + 1 := by unfold wrap64; omega
  rw [e4]
  unfold nwords
  by_cases h : n % 64 = 0
  · rw [if_pos (by omega)]; congr 1; omega
  · rw [if_neg (by omega)]; congr 1; omega
/-- The bits that the last word of a row may have. -/
def mj_tailW (n : Nat) : BitVec 64 := if n % 64 = 0 then 18446744073709551615#64 else BitVec.ofNat 64 (2 ^ (n % 64) - 1)
theorem mj_shl_one (m : Nat) (h : m < 64) : shl .u64 1 (m : Int) = ((2 ^ m : Nat) : Int) := by
  have : ∀ m : Fin 64, shl .u64 1 ((m.val : Nat) : Int) = ((2 ^ m.val : Nat) : Int) := by decide
  exact this ⟨m, h⟩
theorem mj_tail_eq (n : Nat) : bitmap_tail.f (n : Int) = some (iv (mj_tailW n)) := by
  unfold bitmap_tail.f mj_tailW
  have e1 : Int.tmod (n : Int) 64 = ((n % 64 : Nat) : Int) := rfl
  rw [e1]
  by_cases h : n % 64 = 0
  · rw [if_pos (by omega), if_pos h]; rfl
  · rw [if_neg (by omega), if_neg h, if_pos (by omega), mj_shl_one _ (by omega)]
    have hp : 0 < 2 ^ (n % 64) := Nat.pow_pos (by decide)
    have hq : 2 ^ (n % 64) < 2 ^ 64 := Nat.pow_lt_pow_right (by decide) (by omega)
    have : ((2 ^ (n % 64) : Nat) : Int) - 1 = ((2 ^ (n % 64) - 1 : Nat) : Int) := by omega
    rw [this, wrap_nat]
    unfold iv
    rw [BitVec.toNat_ofNat]
theorem mj_rd_words (n : Nat) (p : Nat → Bool) (k : Nat) (h : k < nwords n) : rd (wordsOf n p) (k : Int) = iv (wordAt n p k) := by
  unfold rd
  rw [Int.toNat_natCast]
  exact wordsOf_get n p k h
/-- What is told of a row of bits is well formed. -/
theorem mj_formed_eq (n : Nat) (p : Nat → Bool) (h : n ≤ 281474976710656) : bitmap_Formed.f (n : Int) (wordsOf n p) = some true := by
  unfold bitmap_Formed.f
  rw [if_neg (by omega), mj_size_eq n h, Option.bind_some, wordsOf_length, if_pos rfl]
  by_cases h0 : n = 0
  · rw [if_pos (by omega)]
  · have hw : 0 < nwords n := by unfold nwords; omega
    have hb : nwords n ≤ 281474976710656 := by unfold nwords; omega
    have e : wrap64 (((nwords n : Nat) : Int) - 1) = ((nwords n - 1 : Nat) : Int) := by unfold wrap64; omega
    rw [if_neg (by omega), e, if_pos (by omega), if_pos (by omega), mj_tail_eq, Option.bind_some, mj_rd_words n p _ (by omega), bits_andNot]
    have hz : wordAt n p (nwords n - 1) &&& ~~~mj_tailW n = 0#64 := by
      refine BitVec.eq_of_getLsbD_eq fun i hi => ?_
      rw [BitVec.getLsbD_and, BitVec.getLsbD_not]
      unfold wordAt
      rw [word_bit]
      unfold mj_tailW
      have hn : nwords n = (n + 63) / 64 := rfl
      by_cases g : n % 64 = 0
      · rw [if_pos g]
        have : (18446744073709551615#64).getLsbD i = true := by
          have : ∀ i : Fin 64, (18446744073709551615#64).getLsbD i.val = true := by decide
          exact this ⟨i, hi⟩
        rw [this]; simp
      · rw [if_neg g, BitVec.getLsbD_ofNat, Nat.testBit_two_pow_sub_one]
        by_cases mj_g2 : i < n % 64
        · simp [mj_g2, hi]
        · have : ¬ (64 * (nwords n - 1) + i < n) := by omega
          simp [this]
    rw [hz]
    rfl
theorem mj_cnt_le (q : Nat → Bool) : ∀ n, mj_cnt q n ≤ n
  | 0 => Nat.le_refl _
  | n + 1 => by
    have := mj_cnt_le q n
    have : (q n).toNat ≤ 1 := by cases q n <;> simp
    simp only [mj_cnt]
    omega
theorem mj_cnt_add (q : Nat → Bool) (m : Nat) : ∀ n, mj_cnt q (m + n) = mj_cnt q m + mj_cnt (fun i => q (m + i)) n
  | 0 => rfl
  | n + 1 => by
    show mj_cnt q (m + n) + (q (m + n)).toNat = mj_cnt q m + (mj_cnt (fun i => q (m + i)) n + (q (m + n)).toNat)
    rw [mj_cnt_add q m n, Nat.add_assoc]
theorem mj_cnt_congr {q r : Nat → Bool} : ∀ n, (∀ i, i < n → q i = r i) → mj_cnt q n = mj_cnt r n
  | 0, _ => rfl
  | n + 1, h => by
    show mj_cnt q n + (q n).toNat = mj_cnt r n + (r n).toNat
    rw [mj_cnt_congr n fun i hi => h i (by omega), h n (by omega)]
theorem mj_cnt_none (q : Nat → Bool) : ∀ n, (∀ i, i < n → q i = false) → mj_cnt q n = 0
  | 0, _ => rfl
  | n + 1, h => by
    show mj_cnt q n + (q n).toNat = 0
    rw [mj_cnt_none q n fun i hi => h i (by omega), h n (by omega)]
    rfl
theorem mj_bits_and_i64_127 (f : Nat) (h : f < 9223372036854775808) : bits .and .i64 (f : Int) 127 = ((f % 128 : Nat) : Int) := by
  show IntKind.i64.wrap ((BitVec.ofInt 64 (f : Int) &&& BitVec.ofInt 64 127).toNat : Int) = _
  have e1 : (BitVec.ofInt 64 (f : Int) &&& BitVec.ofInt 64 127).toNat = f % 128 := by
    rw [BitVec.toNat_and, BitVec.ofInt_natCast, BitVec.toNat_ofNat, show (BitVec.ofInt 64 127).toNat = 2 ^ 7 - 1 by decide, Nat.and_two_pow_sub_one_eq_mod]
    omega
  rw [e1, IntKind.wrap_i64]
  omega
theorem mj_wrap_next (i : Nat) (h : i ≤ 281474976710656) : wrap64 ((i : Int) + 1) = ((i + 1 : Nat) : Int) := by
  unfold wrap64
  omega
theorem mj_wrap_sum (a b m : Nat) (h1 : a ≤ m) (h2 : b ≤ 64) (hm : m ≤ 281474976710656) : wrap64 ((a : Int) + (b : Int)) = ((a + b : Nat) : Int) := by
  unfold wrap64
  omega
theorem mj_ones_eq (v : BitVec 64) : bits_OnesCount64.f (iv v) = some ((mj_cnt (fun i => v.getLsbD i) 64 : Nat) : Int) := by
  obtain ⟨N, hN⟩ : ∃ N, N = v.toNat := ⟨_, rfl⟩
  have hl : N < 18446744073709551616 := hN ▸ v.isLt
  have hv : iv v = (N : Int) := by rw [hN]; rfl
  have hc : mj_cnt (fun i => v.getLsbD i) 64 = mj_cnt (fun i => N.testBit i) 64 := mj_cnt_congr _ fun i _ => by rw [hN]; rfl
  rw [hv, hc]
  obtain ⟨a, ha⟩ : ∃ a, a = (N / 2 &&& 6148914691236517205) + (N &&& 6148914691236517205) := ⟨_, rfl⟩
  obtain ⟨b, hb⟩ : ∃ b, b = (a / 4 &&& 3689348814741910323) + (a &&& 3689348814741910323) := ⟨_, rfl⟩
  obtain ⟨c, hcc⟩ : ∃ c, c = (b / 16 + b) &&& 1085102592571150095 := ⟨_, rfl⟩
  obtain ⟨d, hd⟩ : ∃ d, d = c + c / 256 := ⟨_, rfl⟩
  obtain ⟨e, he⟩ : ∃ e, e = d + d / 65536 := ⟨_, rfl⟩
  obtain ⟨la, lb, lb2, lc, ld, le, lf, hr⟩ := mj_pop_nat N a b c d e hl ha hb hcc hd he
  have w : ∀ x : Nat, x < 18446744073709551616 → IntKind.u64.wrap (x : Int) = (x : Int) := fun x hx => by rw [wrap_nat, Nat.mod_eq_of_lt hx]
  have e1 : Go.bits .and .u64 ((N : Int) / 2) 6148914691236517205 = ((N / 2 &&& 6148914691236517205 : Nat) : Int) := bits_and_u64_nat (N / 2) 6148914691236517205 (by omega) (by decide)
  have e2 : Go.bits .and .u64 (N : Int) 6148914691236517205 = ((N &&& 6148914691236517205 : Nat) : Int) := bits_and_u64_nat N 6148914691236517205 hl (by decide)
  have e3 : IntKind.u64.wrap (Go.bits .and .u64 ((N : Int) / 2) 6148914691236517205 + Go.bits .and .u64 (N : Int) 6148914691236517205) = (a : Int) := by
    rw [e1, e2, ← w a la, ha]
    rfl
  have e4 : Go.bits .and .u64 ((a : Int) / 4) 3689348814741910323 = ((a / 4 &&& 3689348814741910323 : Nat) : Int) := bits_and_u64_nat (a / 4) 3689348814741910323 (by omega) (by decide)
  have e5 : Go.bits .and .u64 (a : Int) 3689348814741910323 = ((a &&& 3689348814741910323 : Nat) : Int) := bits_and_u64_nat a 3689348814741910323 la (by decide)
  have e6 : IntKind.u64.wrap (Go.bits .and .u64 ((a : Int) / 4) 3689348814741910323 + Go.bits .and .u64 (a : Int) 3689348814741910323) = (b : Int) := by
    rw [e4, e5, ← w b lb, hb]
    rfl
  have e7 : IntKind.u64.wrap ((b : Int) / 16 + (b : Int)) = ((b / 16 + b : Nat) : Int) := by
    rw [← w (b / 16 + b) lb2]
    rfl
  have e8 : Go.bits .and .u64 ((b / 16 + b : Nat) : Int) 1085102592571150095 = (c : Int) := by
    rw [hcc]
    exact bits_and_u64_nat (b / 16 + b) 1085102592571150095 lb2 (by decide)
  have e9 : IntKind.u64.wrap ((c : Int) + (c : Int) / 256) = (d : Int) := by
    rw [← w d ld, hd]
    rfl
  have e10 : IntKind.u64.wrap ((d : Int) + (d : Int) / 65536) = (e : Int) := by
    rw [← w e le, he]
    rfl
  have e11 : IntKind.u64.wrap ((e : Int) + (e : Int) / 4294967296) = ((e + e / 4294967296 : Nat) : Int) := by
    rw [← w (e + e / 4294967296) (by omega)]
    rfl
  have e12 : wrap64 ((e + e / 4294967296 : Nat) : Int) = ((e + e / 4294967296 : Nat) : Int) := by
    unfold wrap64
    omega
  unfold bits_OnesCount64.f
  rw [e3, e6, e7, e8, e9, e10, e11, e12, mj_bits_and_i64_127 _ lf, hr]
theorem mj_rank_all (v : BitVec 64) : words_Rank.f (iv v) 64 = some ((mj_cnt (fun i => v.getLsbD i) 64 : Nat) : Int) := by
  unfold words_Rank.f
  rw [if_neg (by omega), if_neg (by omega), mj_ones_eq]
  rfl
theorem mj_rank_eq (v : BitVec 64) (k : Nat) (h : k < 64) : words_Rank.f (iv v) (k : Int) = some ((mj_cnt (fun i => v.getLsbD i) k : Nat) : Int) := by
  unfold words_Rank.f
  by_cases h0 : k = 0
  · subst h0
    rfl
  have hp : 0 < 2 ^ k := Nat.pow_pos (by decide)
  have hq : 2 ^ k < 2 ^ 64 := Nat.pow_lt_pow_right (by decide) h
  have em : IntKind.u64.wrap (((2 ^ k : Nat) : Int) - 1) = iv (BitVec.ofNat 64 (2 ^ k - 1)) := by
    have : ((2 ^ k : Nat) : Int) - 1 = ((2 ^ k - 1 : Nat) : Int) := by omega
    rw [this, wrap_nat]
    unfold iv
    rw [BitVec.toNat_ofNat]
  rw [if_neg (by omega), if_pos (by omega), if_pos (by omega), mj_shl_one _ h, em, bits_and, mj_ones_eq, Option.bind_some]
  congr 2
  have e : 64 = k + (64 - k) := by omega
  rw [show mj_cnt (fun i => (v &&& BitVec.ofNat 64 (2 ^ k - 1)).getLsbD i) 64 = mj_cnt (fun i => (v &&& BitVec.ofNat 64 (2 ^ k - 1)).getLsbD i) (k + (64 - k)) by rw [← e], mj_cnt_add, mj_cnt_none _ (64 - k), Nat.add_zero]
  · exact mj_cnt_congr _ fun i hi => by
      rw [BitVec.getLsbD_and, BitVec.getLsbD_ofNat, Nat.testBit_two_pow_sub_one]
      simp [hi, show i < 64 by omega]
  · intro i hi
    rw [BitVec.getLsbD_and, BitVec.getLsbD_ofNat, Nat.testBit_two_pow_sub_one]
    simp [show ¬ (k + i < k) by omega]
theorem mj_cnt_word (n : Nat) (p : Nat → Bool) (k m : Nat) (hm : m ≤ 64) (h : 64 * k + m ≤ n) : mj_cnt (fun i => (wordAt n p k).getLsbD i) m = mj_cnt (fun i => p (64 * k + i)) m := mj_cnt_congr _ fun i hi => by
  unfold wordAt
  rw [word_bit]
  simp [show i < 64 by omega, show 64 * k + i < n by omega]
theorem mj_below_room (i d m n : Nat) (hn : n ≤ 281474976710656) (hm : m ≤ n) (hi : i + (d + 1) = m / 64) : i ≤ 281474976710656 ∧ 64 * i ≤ 281474976710656 ∧ i < m / 64 ∧ 64 * i + 64 ≤ n ∧ i + 1 + d = m / 64 := by
  refine ⟨?_, ?_, ?_, ?_, ?_⟩ <;> omega
theorem mj_below_eq (n : Nat) (p : Nat → Bool) (m k : Nat) (hn : n ≤ 281474976710656) (hm : m ≤ n) (hk : m / 64 < k) : bitmap_below.f k (n : Int) (wordsOf n p) (m : Int) = some ((mj_cnt p m : Nat) : Int) := by
  have e1 : Int.tmod (m : Int) 64 = ((m % 64 : Nat) : Int) := rfl
  have e2 : Int.tdiv (m : Int) 64 = ((m / 64 : Nat) : Int) := rfl
  have e3 : wrap64 ((m / 64 : Nat) : Int) = ((m / 64 : Nat) : Int) := by unfold wrap64; omega
  have hw : nwords n = (n + 63) / 64 := rfl
  have hle := mj_cnt_le p
  unfold bitmap_below.f
  rw [e2, e3, if_pos (by omega), wordsOf_length, if_pos (by omega), Int.toNat_natCast]
  have hlen : ((wordsOf n p).take (m / 64)).length = m / 64 := by rw [List.length_take, wordsOf_length]; omega
  have hrd : ∀ i, i < m / 64 → rd ((wordsOf n p).take (m / 64)) (i : Int) = iv (wordAt n p i) := fun i hi => by
    rw [← mj_rd_words n p i (by omega)]
    unfold rd
    rw [Int.toNat_natCast, List.getD_eq_getElem?_getD, List.getD_eq_getElem?_getD, List.getElem?_take_of_lt hi]
  generalize hL : (wordsOf n p).take (m / 64) = L at hlen hrd ⊢
  have key : ∀ (d i k : Nat), i + d = m / 64 → d < k → bitmap_below.l0 k (m : Int) ((mj_cnt p (64 * i) : Nat) : Int) L (L.length : Int) (i : Int) (n : Int) (wordsOf n p) = some ((mj_cnt p m : Nat) : Int) := by
    intro d
    induction d with
    | zero =>
      intro i k hi hk
      obtain ⟨k, rfl⟩ : ∃ k', k = k' + 1 := ⟨k - 1, by omega⟩
      unfold bitmap_below.l0
      rw [if_neg (by rw [hlen]; omega), e1]
      have hm2 : m = 64 * i + m % 64 := by omega
      by_cases g : m % 64 = 0
      · rw [if_neg (by omega)]
        congr 3
        omega
      · have h6 : m % 64 ≤ 64 := by omega
        have h7 : 64 * i ≤ 281474976710656 := by omega
        have h1 := hle (64 * i)
        have h2 := mj_cnt_le (fun j => p (64 * i + j)) (m % 64)
        have e4 : mj_cnt p m = mj_cnt p (64 * i) + mj_cnt (fun j => p (64 * i + j)) (m % 64) := by
          rw [← mj_cnt_add, ← hm2]
        rw [if_pos (by omega), e2, e3, if_pos (by omega), wordsOf_length, if_pos (by omega), mj_rd_words n p _ (by omega), mj_rank_eq _ _ (by omega), Option.bind_some, show m / 64 = i by omega,
          mj_cnt_word n p i (m % 64) (by omega) (by omega), e4, mj_wrap_sum _ _ _ h1 (Nat.le_trans h2 h6) h7]
    | succ d ih =>
      intro i k hi hk
      obtain ⟨k, rfl⟩ : ∃ k', k = k' + 1 := ⟨k - 1, by omega⟩
      obtain ⟨l0, h7, l1, l2, l3⟩ := mj_below_room i d m n hn hm hi
      have e6 := mj_wrap_next i l0
      have l4 : d < k := Nat.lt_of_succ_lt_succ hk
      have l5 : (i : Int) < (L.length : Int) := by
        rw [hlen]
        exact Int.ofNat_lt.mpr l1
      have h1 := hle (64 * i)
      have h2 := mj_cnt_le (fun j => p (64 * i + j)) 64
      have h3 : mj_cnt p (64 * (i + 1)) = mj_cnt p (64 * i) + mj_cnt (fun j => p (64 * i + j)) 64 := by
        rw [show 64 * (i + 1) = 64 * i + 64 from rfl]
        rw [← mj_cnt_add]
      have e5 : wrap64 (((mj_cnt p (64 * i) : Nat) : Int) + ((mj_cnt (fun j => p (64 * i + j)) 64 : Nat) : Int)) = ((mj_cnt p (64 * (i + 1)) : Nat) : Int) := by
        rw [h3]
        exact mj_wrap_sum _ _ _ h1 h2 h7
      unfold bitmap_below.l0
      rw [if_pos l5, if_pos (Int.natCast_nonneg i), if_pos l5, hrd i l1, mj_rank_all, Option.bind_some, mj_cnt_word n p i 64 (Nat.le_refl _) l2, e5, e6]
      exact ih (i + 1) k l3 l4
  exact key (m / 64) 0 k (by omega) hk
theorem mj_count_all (n : Nat) (p : Nat → Bool) (k : Nat) (hn : n ≤ 281474976710656) (hk : n / 64 < k) : bitmap_Count.f k (n : Int) (wordsOf n p) 0 (n : Int) = some ((mj_cnt p n : Nat) : Int) := by
  unfold bitmap_Count.f
  rw [mj_formed_eq n p hn, Option.bind_some, if_pos rfl]
  have e1 : mx (0 : Int) 0 = ((0 : Nat) : Int) := by unfold mx; simp
  have e2 : mn (n : Int) (n : Int) = (n : Int) := by unfold mn; simp
  have h := mj_cnt_le p n
  rw [e1, e2]
  by_cases h0 : n = 0
  · subst h0
    rfl
  · rw [if_neg (by omega), mj_below_eq n p n k hn (Nat.le_refl _) hk, mj_below_eq n p 0 k hn (by omega) (by omega), Option.bind_some, Option.bind_some]
    congr 1
    show wrap64 (_ - 0) = _
    unfold wrap64
    omega
theorem mj_cnt_par (q : Nat → Bool) : ∀ n, mj_cnt q n % 2 = (par q n).toNat
  | 0 => rfl
  | n + 1 => by
    have h := mj_cnt_par q n
    show (mj_cnt q n + (q n).toNat) % 2 = (par q n ^^ q n).toNat
    cases hp : par q n <;> cases hq : q n <;> rw [hp] at h <;> simp at h ⊢ <;> omega
theorem mj_tmod_par (q : Nat → Bool) (n : Nat) : (Int.tmod ((mj_cnt q n : Nat) : Int) 2 == 1) = par q n := by
  have h := mj_cnt_par q n
  have e : Int.tmod ((mj_cnt q n : Nat) : Int) 2 = ((mj_cnt q n % 2 : Nat) : Int) := by rw [Int.tmod_eq_emod_of_nonneg (by omega)]; omega
  rw [e, h]
  cases par q n <;> rfl
theorem mj_open_eq (s : ByteArray) (hn : s.size ≤ 140737488351232) (k : Nat) (hk : s.size + 1 < k) : quotes_Open.f k s = some (par (mkq s) s.size) := by
  unfold quotes_Open.f quotes_Marks.f
  rw [if_pos (by omega), Option.bind_some, mj_count_all s.size (mkq s) k (by omega) (by omega), Option.bind_some, mj_tmod_par]
/-- How many backslashes end ahead of a place. -/
def mj_runs (s : ByteArray) : Nat → Nat
  | 0 => 0
  | i + 1 => if bt s (i : Int) = 92 then mj_runs s i + 1 else 0
theorem mj_runs_le (s : ByteArray) : ∀ i, mj_runs s i ≤ i
  | 0 => Nat.le_refl _
  | i + 1 => by have := mj_runs_le s i; unfold mj_runs; split <;> omega
theorem mj_odd_loop (s : ByteArray) (a : Int) (ha0 : 0 ≤ a) (ha : a ≤ s.size) (hn : s.size ≤ 281474976702464) :
    ∀ (i k : Nat), (i : Int) ≤ a → i < k → escape_Odd.l0 k s a (i : Int) = some ((i : Int) - mj_runs s i, (Int.tmod (a - ((i : Int) - mj_runs s i)) 2 == 1)) := by
  intro i
  induction i with
  | zero =>
    intro k hi hk
    obtain ⟨k, rfl⟩ : ∃ m, k = m + 1 := ⟨k - 1, by omega⟩
    have e : wrap64 (a - ((0 : Nat) : Int)) = a - ((0 : Nat) : Int) := by unfold wrap64; omega
    simp only [escape_Odd.l0, mj_runs]
    rw [if_neg (by omega), e]
    simp
  | succ i ih =>
    intro k hi hk
    obtain ⟨k, rfl⟩ : ∃ m, k = m + 1 := ⟨k - 1, by omega⟩
    have e1 : wrap64 (((i + 1 : Nat) : Int) - 1) = (i : Int) := by unfold wrap64; omega
    have hr := mj_runs_le s i
    simp only [escape_Odd.l0, e1]
    rw [if_pos (by omega), if_pos (by omega), if_pos (by omega)]
    by_cases h : bt s (i : Int) = 92
    · rw [if_pos h, ih k (by omega) (by omega)]
      simp only [mj_runs, if_pos h]
      have : ((i : Int) - (mj_runs s i : Nat)) = ((i + 1 : Nat) : Int) - ((mj_runs s i + 1 : Nat) : Int) := by omega
      rw [this]
    · rw [if_neg h]
      simp only [mj_runs, if_neg h]
      have e : wrap64 (a - ((i + 1 : Nat) : Int)) = a - ((i + 1 : Nat) : Int) := by unfold wrap64; omega
      rw [e]
      simp
/-- An odd number of backslashes ahead, and the byte is escaped. -/
theorem mj_esc_runs (s : ByteArray) : ∀ i, esc s false i = decide (mj_runs s i % 2 = 1)
  | 0 => rfl
  | i + 1 => by
    have := mj_esc_runs s i
    show (decide (bt s (i : Int) = 92) && !esc s false i) = _
    by_cases h : bt s (i : Int) = 92
    · have e : mj_runs s (i + 1) = mj_runs s i + 1 := if_pos h
      rw [e, this, decide_eq_true h, Bool.true_and]
      by_cases g : mj_runs s i % 2 = 1
      · rw [decide_eq_true g, decide_eq_false (by omega)]; rfl
      · rw [decide_eq_false g, decide_eq_true (by omega)]; rfl
    · have e : mj_runs s (i + 1) = 0 := if_neg h
      rw [e, decide_eq_false h]; rfl
theorem mj_odd_eq (s : ByteArray) (hn : s.size ≤ 281474976702464) (i k : Nat) (hi : i ≤ s.size) (hk : s.size + 1 < k) :
    escape_Odd.f k s (i : Int) = some (((i - mj_runs s i : Nat) : Int), esc s false i) := by
  obtain ⟨k, rfl⟩ : ∃ m, k = m + 1 := ⟨k - 1, by omega⟩
  have hr := mj_runs_le s i
  unfold escape_Odd.f
  rw [if_neg (by omega)]
  simp only [escape_Odd.j0]
  rw [if_neg (by simpa using by omega), mj_odd_loop s (i : Int) (by omega) (by omega) hn i k (by omega) (by omega)]
  have e : (i : Int) - (mj_runs s i : Nat) = ((i - mj_runs s i : Nat) : Int) := by omega
  have e2 : (i : Int) - ((i - mj_runs s i : Nat) : Int) = ((mj_runs s i : Nat) : Int) := by omega
  rw [e, e2, mj_esc_runs]
  have e3 : Int.tmod ((mj_runs s i : Nat) : Int) 2 = ((mj_runs s i % 2 : Nat) : Int) := rfl
  rw [e3]
  by_cases g : mj_runs s i % 2 = 1
  · rw [g]; rfl
  · rw [show mj_runs s i % 2 = 0 by omega]; rfl
theorem mj_esc_first (s : ByteArray) (f : Bool) : ∀ i, esc s f i = (esc s false i ^^ (f && decide (mj_runs s i = i)))
  | 0 => by cases f <;> rfl
  | i + 1 => by
    have h := mj_esc_first s f i
    have hr := mj_runs_le s i
    show (decide (bt s (i : Int) = 92) && !esc s f i) = ((decide (bt s (i : Int) = 92) && !esc s false i) ^^ _)
    by_cases g : bt s (i : Int) = 92
    · have e : mj_runs s (i + 1) = mj_runs s i + 1 := if_pos g
      have e2 : decide (mj_runs s i + 1 = i + 1) = decide (mj_runs s i = i) := decide_eq_decide.mpr (by omega)
      rw [e, e2, h, decide_eq_true g]
      cases esc s false i <;> cases (f && decide (mj_runs s i = i)) <;> rfl
    · have e : mj_runs s (i + 1) = 0 := if_neg g
      rw [e, decide_eq_false g, decide_eq_false (show ¬ 0 = i + 1 by omega)]
      cases f <;> rfl
/-- Behind: is what comes behind the text escaped. -/
theorem mj_behind_all (s : ByteArray) (hn : s.size ≤ 281474976702464) (f : Bool) (k : Nat) (hk : s.size + 1 < k) : escape_Behind.f k s f = some (esc s f s.size) := by
  have hr := mj_runs_le s s.size
  unfold escape_Behind.f
  rw [mj_odd_eq s hn s.size k (Nat.le_refl _) hk, Option.bind_some, mj_esc_first s f]
  by_cases h : ((s.size - mj_runs s s.size : Nat) : Int) = 0
  · rw [if_pos h, decide_eq_true (show mj_runs s s.size = s.size by omega)]
    cases f
    · rw [if_neg (by decide)]; simp
    · rw [if_pos rfl]; simp
  · rw [if_neg h, decide_eq_false (show ¬ mj_runs s s.size = s.size by intro g; exact h (by omega))]
    simp
/-- What a byte is. -/
def mj_kindB (s : ByteArray) (i : Nat) : Int := if mkq s i && insS s i then 3 else if mkq s i then 4 else if insS s i then 5 else if sgx (bt s (i : Int)).toNat then 1 else if blx (bt s (i : Int)).toNat then 2 else 6
theorem mj_kb_sg (s : ByteArray) (i : Nat) : sgq s i = decide (mj_kindB s i = 1) := by
  unfold mj_kindB sgq outq
  cases hm : mkq s i <;> cases hn : insS s i <;> cases hs : sgx (bt s (i : Int)).toNat <;> cases hb : blx (bt s (i : Int)).toNat <;> simp
theorem mj_kb_op (s : ByteArray) (i : Nat) : opq s i = decide (mj_kindB s i = 3) := by
  unfold mj_kindB opq
  cases hm : mkq s i <;> cases hn : insS s i <;> cases hs : sgx (bt s (i : Int)).toNat <;> cases hb : blx (bt s (i : Int)).toNat <;> simp
theorem mj_kb_wd (s : ByteArray) (i : Nat) : wdq s i = decide (mj_kindB s i = 6) := by
  unfold wdq sgq blq mj_kindB outq
  cases hm : mkq s i <;> cases hn : insS s i <;> cases hs : sgx (bt s (i : Int)).toNat <;> cases hb : blx (bt s (i : Int)).toNat <;> simp
theorem mj_shl_one' (m : Nat) (h : m < 64) : shl .u64 1 (m : Int) = iv (1#64 <<< m) := by
  rw [mj_shl_one m h]
  unfold iv
  rw [BitVec.toNat_shiftLeft, Nat.shiftLeft_eq]
  have : 2 ^ m < 2 ^ 64 := Nat.pow_lt_pow_right (by decide) h
  rw [show (1#64).toNat = 1 from rfl, Nat.one_mul, Nat.mod_eq_of_lt this]
theorem mj_and_bit (p : Nat → Bool) (m : Nat) (h : m < 64) : (bits .and .u64 (iv (word p)) (shl .u64 1 (m : Int)) = 0) ↔ p m = false := by
  rw [mj_shl_one' m h, bits_and, show (0 : Int) = iv 0#64 from rfl, iv_inj]
  have hb : ∀ j, j < 64 → (word p &&& 1#64 <<< m).getLsbD j = (p j && decide (j = m)) := fun j hj => by
    rw [BitVec.getLsbD_and, word_bit, BitVec.getLsbD_shiftLeft, decide_eq_true hj]
    by_cases g : j < m
    · simp [g, show ¬ j = m by omega]
    · by_cases mj_g2 : j = m
      · subst mj_g2
        simp
      · have : (1#64).getLsbD (j - m) = false := by
          have h1 : ∀ i : Fin 64, i.val ≠ 0 → (1#64).getLsbD i.val = false := by decide
          exact h1 ⟨j - m, by omega⟩ (by show j - m ≠ 0; omega)
        simp [g, mj_g2, this]
  constructor
  · intro e
    have := hb m h
    rw [e] at this
    simpa using this.symm
  · intro e
    apply BitVec.eq_of_getLsbD_eq
    intro j hj
    rw [hb j hj]
    by_cases g : j = m
    · subst g; rw [e]; simp
    · simp [g]
theorem mj_wordAt_fun (n : Nat) (q : Nat → Bool) (k : Nat) : wordAt n q k = word fun i => decide (64 * k + i < n) && q (64 * k + i) := rfl
theorem mj_ends_eq (n : Nat) (q : Nat → Bool) (k : Nat) (h : 64 * k + 63 < n) (a b c : Int) : marks_rows_ends.f a b c (iv (wordAt n q k)) = some (q (64 * k + 63)) := by
  unfold marks_rows_ends.f
  rw [mj_wordAt_fun, top_word, decide_eq_true h, Bool.true_and]
  cases q (64 * k + 63) <;> rfl
/-- Where words begin in a block. -/
def mj_startB (n : Nat) (q : Nat → Bool) (k : Nat) (c : Bool) (j : Nat) : Bool := (decide (64 * k + j < n) && q (64 * k + j)) && !(if j = 0 then c else decide (64 * k + (j - 1) < n) && q (64 * k + (j - 1)))
theorem mj_starts_eq (n : Nat) (q : Nat → Bool) (k : Nat) (c : Bool) (x y z : Int) : marks_rows_starts.f x y z (iv (wordAt n q k)) c = some (iv (word (mj_startB n q k c))) := by
  have e1 : IntKind.u64.wrap (iv (wordAt n q k) * 2) = iv (wordAt n q k <<< 1) := wrap_shl _ 1
  have e2 : (1 : Int) = iv 1#64 := rfl
  have h1 : ∀ i : Fin 64, (1#64).getLsbD i.val = decide (i.val = 0) := by decide
  unfold marks_rows_starts.f
  cases c with
  | true =>
    rw [if_pos rfl, e1, e2, bits_or, bits_andNot]
    apply congrArg (fun w => some (iv w))
    apply eq_word
    intro j hj
    rw [BitVec.getLsbD_and, BitVec.getLsbD_not, BitVec.getLsbD_or, BitVec.getLsbD_shiftLeft, mj_wordAt_fun, word_bit, word_bit, h1 ⟨j, hj⟩, decide_eq_true hj]
    unfold mj_startB
    by_cases g : j = 0
    · subst g; simp
    · rw [if_neg g, decide_eq_false (show ¬ j < 1 by omega), decide_eq_true (show j - 1 < 64 by omega), decide_eq_false (show ¬ (⟨j, hj⟩ : Fin 64).val = 0 from g)]
      simp
  | false =>
    rw [if_neg (by decide), e1, bits_andNot]
    apply congrArg (fun w => some (iv w))
    apply eq_word
    intro j hj
    rw [BitVec.getLsbD_and, BitVec.getLsbD_not, BitVec.getLsbD_shiftLeft, mj_wordAt_fun, word_bit, word_bit, decide_eq_true hj]
    unfold mj_startB
    by_cases g : j = 0
    · subst g; simp
    · rw [if_neg g, decide_eq_false (show ¬ j < 1 by omega), decide_eq_true (show j - 1 < 64 by omega)]
      simp
/-- What begins at a place. -/
def mj_kindR (s : ByteArray) (i : Nat) : Int := if mj_kindB s i = 1 ∨ mj_kindB s i = 3 then bt s (i : Int) else if mj_kindB s i = 6 ∧ (i = 0 ∨ mj_kindB s (i - 1) ≠ 6) then 119 else 0
theorem mj_rd_look (s : ByteArray) (k : Nat) (h : k < nwords s.size) : rd_T77 (lookL s) (k : Int) = rowS s k := by
  unfold rd_T77 lookL
  rw [Int.toNat_natCast, List.getD_eq_getElem?_getD, List.getElem?_map, List.getElem?_range h]
  rfl
theorem mj_kind_last (s : ByteArray) (i k : Nat) (hi : i < s.size) (c : Bool) (hc : c = if 64 ≤ i then wdq s (64 * (i / 64) - 1) else false) :
    marks_Kind.j1 (k + 1) s (i : Int) (shl .u64 1 ((i % 64 : Nat) : Int)) c (rowS s (i / 64)).f0 (rowS s (i / 64)).f1 (rowS s (i / 64)).f2 (rowS s (i / 64)).f3 = some (mj_kindR s i) := by
  have hm : i % 64 < 64 := Nat.mod_lt _ (by decide)
  have hd : 64 * (i / 64) + i % 64 = i := by omega
  have e0 : (rowS s (i / 64)).f0 = iv (wordAt s.size (sgq s) (i / 64)) := rfl
  have e2 : (rowS s (i / 64)).f2 = iv (wordAt s.size (opq s) (i / 64)) := rfl
  have e3 : (rowS s (i / 64)).f3 = iv (wordAt s.size (wdq s) (i / 64)) := rfl
  have hor : bits .or .u64 (iv (wordAt s.size (sgq s) (i / 64))) (iv (wordAt s.size (opq s) (i / 64))) = iv (word fun j => (decide (64 * (i / 64) + j < s.size) && sgq s (64 * (i / 64) + j)) || (decide (64 * (i / 64) + j < s.size) && opq s (64 * (i / 64) + j))) := mask_or _ _
  simp only [marks_Kind.j1]
  rw [e0, e2, hor]
  by_cases h : mj_kindB s i = 1 ∨ mj_kindB s i = 3
  · rw [if_neg (by
      rw [mj_and_bit _ _ hm]
      simp only [hd, decide_eq_true hi, Bool.true_and, mj_kb_sg, mj_kb_op]
      rcases h with h | h <;> simp [h]), if_pos (by omega), if_pos (by omega)]
    unfold mj_kindR
    rw [if_pos h]
  · have h1 : mj_kindB s i ≠ 1 := fun e => h (.inl e)
    have h3 : mj_kindB s i ≠ 3 := fun e => h (.inr e)
    rw [if_pos (by
      rw [mj_and_bit _ _ hm]
      simp only [hd, decide_eq_true hi, Bool.true_and, mj_kb_sg, mj_kb_op]
      simp [h1, h3]), e3, mj_starts_eq, Option.bind_some]
    unfold mj_kindR
    rw [if_neg h]
    have hst : mj_startB s.size (wdq s) (i / 64) c (i % 64) = decide (mj_kindB s i = 6 ∧ (i = 0 ∨ mj_kindB s (i - 1) ≠ 6)) := by
      unfold mj_startB
      rw [hd, decide_eq_true hi, Bool.true_and, mj_kb_wd, hc]
      by_cases g0 : i % 64 = 0
      · rw [if_pos g0]
        by_cases mj_g1 : 64 ≤ i
        · rw [if_pos mj_g1, show 64 * (i / 64) - 1 = i - 1 by omega, mj_kb_wd]
          by_cases a : mj_kindB s i = 6 <;> by_cases b : mj_kindB s (i - 1) = 6 <;> simp [a, b, show ¬ i = 0 by omega]
        · rw [if_neg mj_g1]
          have : i = 0 := by omega
          subst this
          simp
      · rw [if_neg g0, show 64 * (i / 64) + (i % 64 - 1) = i - 1 by omega, decide_eq_true (show i - 1 < s.size by omega), Bool.true_and, mj_kb_wd]
        by_cases a : mj_kindB s i = 6 <;> by_cases b : mj_kindB s (i - 1) = 6 <;> simp [a, b, show ¬ i = 0 by omega]
    by_cases hb : mj_kindB s i = 6 ∧ (i = 0 ∨ mj_kindB s (i - 1) ≠ 6)
    · rw [if_neg (by rw [mj_and_bit _ _ hm, hst, decide_eq_true hb]; decide), if_pos hb]
    · rw [if_pos (by rw [mj_and_bit _ _ hm, hst, decide_eq_false hb]), if_neg hb]
theorem mj_kind_eq (s : ByteArray) (hn : s.size ≤ 1048576) (i : Nat) (hi : i < s.size) (k : Nat) : marks_Kind.f (k + 2) s (i : Int) = some (mj_kindR s i) := by
  have e1 : Int.tmod (i : Int) 64 = ((i % 64 : Nat) : Int) := rfl
  have e2 : Int.tdiv (i : Int) 64 = ((i / 64 : Nat) : Int) := rfl
  have e3 : wrap64 ((i / 64 : Nat) : Int) = ((i / 64 : Nat) : Int) := by unfold wrap64; omega
  have hl : (lookL s).length = nwords s.size := by simp [lookL]
  have hw : i / 64 < nwords s.size := by unfold nwords; omega
  unfold marks_Kind.f
  rw [if_neg (by omega), decide_eq_false (by omega)]
  simp only [marks_Kind.j0, marks_look.f]
  rw [if_neg (by decide), if_pos (by omega), Option.bind_some, e1, e2, e3, hl, if_pos (by omega), if_pos (by omega), if_pos (by omega), mj_rd_look s _ hw]
  by_cases g : 64 ≤ i
  · have e4 : wrap64 (((i / 64 : Nat) : Int) - 1) = ((i / 64 - 1 : Nat) : Int) := by unfold wrap64; omega
    rw [if_pos (by omega), e4, if_pos (by omega), if_pos (by omega), mj_rd_look s _ (by omega)]
    have e5 : (rowS s (i / 64 - 1)).f3 = iv (wordAt s.size (wdq s) (i / 64 - 1)) := rfl
    rw [e5, mj_ends_eq _ _ _ (by omega), Option.bind_some]
    exact mj_kind_last s i k hi _ (by rw [if_pos g, show 64 * (i / 64 - 1) + 63 = 64 * (i / 64) - 1 by omega])
  · rw [if_neg (by omega)]
    exact mj_kind_last s i k hi _ (by rw [if_neg g])
theorem mj_sameints_loop (l : List Int) (hl : l.length ≤ 140737488355328) : ∀ (d i k : Nat), i + d = l.length → d < k → quarryref00_SameInts.l0 k l l (i : Int) = some true := by
  intro d
  induction d with
  | zero =>
    intro i k hi hk
    obtain ⟨k, rfl⟩ : ∃ m, k = m + 1 := ⟨k - 1, by omega⟩
    unfold quarryref00_SameInts.l0
    rw [if_neg (by omega)]
  | succ d ih =>
    intro i k hi hk
    obtain ⟨k, rfl⟩ : ∃ m, k = m + 1 := ⟨k - 1, by omega⟩
    have e : wrap64 ((i : Int) + 1) = ((i + 1 : Nat) : Int) := by unfold wrap64; omega
    unfold quarryref00_SameInts.l0
    rw [if_pos (by omega), if_pos (by omega), if_pos (by omega), if_pos rfl, e, ih (i + 1) k (by omega) (by omega)]
/-- A list is the same as itself. -/
theorem mj_sameints_refl (l : List Int) (hl : l.length ≤ 140737488355328) (k : Nat) (hk : l.length < k) : quarryref00_SameInts.f k l l = some true := by
  unfold quarryref00_SameInts.f
  rw [if_pos rfl]
  exact mj_sameints_loop l hl l.length 0 k (by omega) hk
theorem mj_copyi_loop (l : List Int) (hl : l.length ≤ 1099511627776) : ∀ (d i k : Nat), i + d = l.length → d < k → quarryref00_CopyInts.l0 k l (l.take i) (i : Int) = some l := by
  intro d
  induction d with
  | zero =>
    intro i k hi hk
    obtain ⟨k, rfl⟩ : ∃ m, k = m + 1 := ⟨k - 1, by omega⟩
    unfold quarryref00_CopyInts.l0
    rw [if_neg (by omega), List.take_of_length_le (by omega)]
  | succ d ih =>
    intro i k hi hk
    obtain ⟨k, rfl⟩ : ∃ m, k = m + 1 := ⟨k - 1, by omega⟩
    have e : wrap64 ((i : Int) + 1) = ((i + 1 : Nat) : Int) := by unfold wrap64; omega
    have hr : l.take i ++ [rd l (i : Int)] = l.take (i + 1) := by
      rw [List.take_add_one, List.getElem?_eq_getElem (show i < l.length by omega)]
      unfold rd
      rw [Int.toNat_natCast, List.getD_eq_getElem?_getD, List.getElem?_eq_getElem (show i < l.length by omega)]
      rfl
    unfold quarryref00_CopyInts.l0
    rw [if_pos (by omega), if_pos (by omega), if_pos (by rw [List.length_take]; omega), hr, e]
    exact ih (i + 1) k (by omega) (by omega)
theorem mj_copyi_eq (l : List Int) (hl : l.length ≤ 1099511627776) (k : Nat) (hk : l.length < k) : quarryref00_CopyInts.f k l = some l := by
  unfold quarryref00_CopyInts.f
  exact mj_copyi_loop l hl l.length 0 k (by omega) hk
theorem mj_index_eq (s : ByteArray) (hn : s.size ≤ 1048576) : marks_Index.f s = some (idxL s s.size) := by
  unfold marks_Index.f
  rw [if_pos (by omega)]
theorem mj_awake8 : ∃ k, quarrylaw08_awake.f k = some true := by
  refine ⟨100, ?_⟩
  decide +kernel
end MjF
attribute [local go_sem] Oper.semAt_some
theorem grown_belowH {w W W' : World} (hb : BelowH w W) {row : Option Nat} (hg : W.grownBy W' row) (hr : ∀ g, row = some g → w.heap.size ≤ g) : BelowH w W' :=
  ⟨⟨hg.os.trans hb.out.os, hg.tape.trans hb.out.tape, hg.output.trans hb.out.output, Nat.le_trans hb.out.size hg.size, fun k hk => (hg.block k (Nat.lt_of_lt_of_le hk hb.out.size) (fun e => by have := hr k e.symm; omega)).trans (hb.out.block k hk)⟩⟩
/-- What the calls answer. -/
structure MjC (s t : ByteArray) : Prop where mk ::
  aw : ∀ W, TabOk W → Calls Tryd.prog 17 #[] W fun e w' => e = .returned (.bool true) ∧ Below W.heap.size W w'
  o1 : ∀ W, Calls Tryd.prog 44 #[.string ⟨#[34]⟩] W fun e w' => e = .returned (.bool true) ∧ Below W.heap.size W w'
  b1 : ∀ W, Calls Tryd.prog 45 #[.string ⟨#[92]⟩, .bool false] W fun e w' => e = .returned (.bool true) ∧ Below W.heap.size W w'
  os : ∀ W, Calls Tryd.prog 44 #[.string s] W fun e w' => e = .returned (.bool (par (mkq s) s.size)) ∧ Below W.heap.size W w'
  bs : ∀ W, Calls Tryd.prog 45 #[.string s, .bool false] W fun e w' => e = .returned (.bool (esc s false s.size)) ∧ Below W.heap.size W w'
theorem drawn_below {n : FuncId} {args : Array Value} {W : World} {r : Bool} (h : Calls Tryd.prog n args W fun e w' => e = .returned (.bool r) ∧ Drawn0 W w') : Calls Tryd.prog n args W fun e w' => e = .returned (.bool r) ∧ Below W.heap.size W w' :=
  h.mono fun e w' ⟨h1, nd, h2⟩ => ⟨h1, by subst h2; exact ((BelowH.refl W).drewN nd).out⟩
theorem mjC (s t : ByteArray) (hs : s.size + t.size ≤ 1048576) : MjC s t where
  aw := fun W hT => by
    obtain ⟨k, hk⟩ := MjF.mj_awake8
    exact quarrylaw08_awake.calls k true W hT hk
  o1 := fun W => quotes_Open.calls 1000 _ true W (by decide +kernel)
  b1 := fun W => drawn_below (escape_Behind.calls 1000 _ false true W (by decide +kernel))
  os := fun W => quotes_Open.calls (s.size + 2) s _ W (MjF.mj_open_eq s (by omega) _ (by omega))
  bs := fun W => drawn_below (escape_Behind.calls (s.size + 2) s false _ W (MjF.mj_behind_all s (by omega) false _ (by omega)))
set_option maxHeartbeats 4000000 in
set_option maxRecDepth 100000 in
theorem quarrylaw08_MarksJoins.early (s t : ByteArray) (hs : s.size + t.size ≤ 1048576) (hc : par (mkq s) s.size = true ∨ esc s false s.size = true) (w : World) (hT : TabOk w) :
    Calls Tryd.prog 12 #[.string s, .string t] w fun e w' => e = .returned (.bool true) ∧ Below w.heap.size w w' := by
  have C := Aside0.mk (mjC s t hs)
  obtain ⟨F, hF⟩ : ∃ F, F = Fence.wide := ⟨_, rfl⟩
  have HF := Aside0.mk hF
  refine (callsIn_wide (n := 9)).1 ?_
  rw [← hF]
  clear hF
  have hro := wide_round HF
  have HB := BelowH.refl w
  have f1 := wide_fn HF 17
  have f2 := wide_fn HF 44
  have f3 := wide_fn HF 45
  have f4 := wide_fn HF 26
  have f5 := wide_fn HF 46
  have f6 := wide_fn HF 22
  have f7 := wide_fn HF 14
  have f8 := wide_fn HF 49
  have f9 := wide_fn HF 25
  have HT := Aside0.mk hT
  clear hT
  obtain ⟨pb, hpb⟩ : ∃ pb, pb = par (mkq s) s.size := ⟨_, rfl⟩
  obtain ⟨eb, heb⟩ : ∃ eb, eb = esc s false s.size := ⟨_, rfl⟩
  have OS : Aside0 (∀ W, Calls Tryd.prog 44 #[.string s] W fun e w' => e = .returned (.bool pb) ∧ Below W.heap.size W w') := ⟨by rw [hpb]; exact C.out.os⟩
  have BS : Aside0 (∀ W, Calls Tryd.prog 45 #[.string s, .bool false] W fun e w' => e = .returned (.bool eb) ∧ Below W.heap.size W w') := ⟨by rw [heb]; exact C.out.bs⟩
  rw [← hpb, ← heb] at hc
  clear hpb heb
  refine callsIn_of_wp_marks Tryd.func12 rfl (wide_fn HF _) ?_ hro
  simp only [Tryd.ntmps12, List.size_toArray, List.length_cons, List.length_nil, Nat.reduceAdd, Nat.reduceSub, Array.replicate_succ, Array.replicate_zero, List.push_toArray, List.append_toArray, List.nil_append, List.cons_append]
  gi_upto_region 1 with (first
    | ((with_reducible refine gate_dstIn (N := 2) rfl ?_); refine ev_allocIn HB rfl rfl (#[.string s]) 9 ?hr ?_; (case hr => first | (go_simp; done) | (go_simp; rfl)); intro g2 w2 G_g2 GE_g2 B_g2 HBn K_g2 KO_w2; clear HB; have HB := HBn; clear HBn))
  clear KO_w2 K_g2 G_g2 GE_g2
  have HT2 := HT.out.step HB.out
  gi_upto_region 3 with (first
    | (gi_at_call 17; refine (callsIn_of HF (C.out.aw _ HT2)).mono ?_; rintro e wx ⟨rfl, hb⟩; have HBn := HB.step hb; have g2n := B_g2.below hb; clear HB hb B_g2; have HB := HBn; have B_g2 := g2n; clear HBn g2n)
    | (gi_at_call 44; refine (callsIn_of HF (C.out.o1 _)).mono ?_; rintro e wx ⟨rfl, hb⟩; have HBn := HB.step hb; have g2n := B_g2.below hb; clear HB hb B_g2; have HB := HBn; have B_g2 := g2n; clear HBn g2n)
    | (gi_at_call 45; refine (callsIn_of HF (C.out.b1 _)).mono ?_; rintro e wx ⟨rfl, hb⟩; have HBn := HB.step hb; have g2n := B_g2.below hb; clear HB hb B_g2; have HB := HBn; have B_g2 := g2n; clear HBn g2n))
  clear HT2
  have c2 := B_g2.cell (i := 0) rfl
  cases pb with
  | true =>
    clear hc
    gi_wp2_with (first
      | (gi_at_call 44; clear c2; refine (callsIn_of HF (OS.out _)).mono ?_; rintro e wx ⟨rfl, hb⟩; have HBn := HB.step hb; have g2n := B_g2.below hb; clear HB hb B_g2; have HB := HBn; have B_g2 := g2n; have c2 := B_g2.cell (i := 0) rfl; clear HBn g2n))
    exact ⟨_, results_tmp rfl _ _ _, rfl, HB.out⟩
  | false =>
    cases eb with
    | false => exact absurd hc (by simp)
    | true =>
      clear hc
      gi_wp2_with (first
        | (gi_at_call 44; clear c2; refine (callsIn_of HF (OS.out _)).mono ?_; rintro e wx ⟨rfl, hb⟩; have HBn := HB.step hb; have g2n := B_g2.below hb; clear HB hb B_g2; have HB := HBn; have B_g2 := g2n; have c2 := B_g2.cell (i := 0) rfl; clear HBn g2n)
        | (gi_at_call 45; clear c2; refine (callsIn_of HF (BS.out _)).mono ?_; rintro e wx ⟨rfl, hb⟩; have HBn := HB.step hb; have g2n := B_g2.below hb; clear HB hb B_g2; have HB := HBn; have B_g2 := g2n; have c2 := B_g2.cell (i := 0) rfl; clear HBn g2n))
      exact ⟨_, results_tmp rfl _ _ _, rfl, HB.out⟩

theorem rg_pure {ops : Array Oper} {P : Program} {o : Oper} {a : Act} {K : Act → World → Prop} {Q : Exit → Act → World → Prop} {W : World} (hw : Region.wanted o (yielded ops a.tmps) = true) (v : Value) (hrun : (execOp a.eval o).run P W = .ok (.value v) W) (h : K (a.put o.dst v) W) :
    if Region.wanted o (yielded ops a.tmps) = true then Oper.wp P o a W K Q else K (a.put o.dst undef) W := by
  rw [if_pos hw]
  unfold Oper.wp
  rw [hrun]
  exact h
theorem kindR_wd (s : ByteArray) (i : Nat) (h : MjF.mj_kindR s i = 119) : wdq s i = true := by
  rw [MjF.mj_kb_wd]
  unfold MjF.mj_kindR at h
  by_cases h13 : MjF.mj_kindB s i = 1 ∨ MjF.mj_kindB s i = 3
  · rw [if_pos h13] at h
    exfalso
    have hm : mkq s i = false := by unfold mkq; rw [h]; rfl
    have h1 : sgx (119 : Int).toNat = false := by decide
    have h2 : blx (119 : Int).toNat = false := by decide
    unfold MjF.mj_kindB at h13
    rw [hm, h, h1, h2] at h13
    cases h9 : insS s i <;> rw [h9] at h13 <;> simp at h13
  · rw [if_neg h13] at h
    by_cases h6 : MjF.mj_kindB s i = 6
    · exact decide_eq_true h6
    · rw [if_neg (fun c => h6 c.1)] at h
      cases h
theorem kindR_w (t : ByteArray) : (MjF.mj_kindR t 0 == 119) = wdq t 0 := by
  rw [Bool.eq_iff_iff, beq_iff_eq]
  refine ⟨kindR_wd t 0, fun h => ?_⟩
  rw [MjF.mj_kb_wd] at h
  have h6 := of_decide_eq_true h
  unfold MjF.mj_kindR
  rw [if_neg (by rw [h6]; decide), if_pos ⟨h6, .inl rfl⟩]
theorem kindR_last (s : ByteArray) (h : (decide (0 < s.size) && (MjF.mj_kindR s (s.size - 1) == 119)) = true) : endsW s = true := by
  simp only [Bool.and_eq_true, decide_eq_true_eq, beq_iff_eq] at h
  unfold endsW
  rw [decide_eq_true h.1, kindR_wd s _ h.2]
  rfl
theorem marks_appended {m : Nat} {Ds : List Nat} {W W' : World} (h : Marks m Ds W) {base e k n : Nat} {v v' : Value} {xs ys : List Value} (hrow : W.ownsRow base e 1 v k xs) (hA : Appended W W' e v v' k n ys) : Marks m Ds W' := by
  refine h.same fun D hD => ?_
  rcases hA with ⟨g, cap, rfl, _, _, hg⟩ | ⟨cap, _, _, hg⟩
  · refine hg.block D (h.lt hD) (fun c => ?_)
    obtain ⟨cells, hc⟩ := own_typed hrow g rfl
    cases c
    rw [(h.at_ D hD).2] at hc
    cases hc
  · exact hg.block D (h.lt hD) (fun c => by cases c)

/-- The list that is wanted, behind some of the second text's places. -/
def xsJ (s t : ByteArray) (LS LT : List Int) (i : Nat) : List Int := LS ++ ((LT.take i).filter fun p => !skipJ s t p).map fun p => p + (s.size : Int)
theorem xsJ_skip (s t : ByteArray) (LS LT : List Int) (i : Nat) {p : Int} (h : LT[i]? = some p) (hp : skipJ s t p = true) : xsJ s t LS LT (i + 1) = xsJ s t LS LT i := by
  unfold xsJ
  rw [List.take_add_one, h, Option.toList_some, List.filter_append]
  simp [hp]
theorem xsJ_add (s t : ByteArray) (LS LT : List Int) (i : Nat) {p : Int} (h : LT[i]? = some p) (hp : skipJ s t p = false) : xsJ s t LS LT (i + 1) = xsJ s t LS LT i ++ [p + (s.size : Int)] := by
  unfold xsJ
  rw [List.take_add_one, h, Option.toList_some, List.filter_append]
  simp [hp]
theorem xsJ_len (s t : ByteArray) (LS LT : List Int) (i : Nat) : (xsJ s t LS LT i).length ≤ LS.length + i := by
  unfold xsJ
  rw [List.length_append, List.length_map]
  have h1 := List.length_filter_le (fun p => !skipJ s t p) (LT.take i)
  have h2 := List.length_take_le i LT
  omega
/-- What the loop over the second text's places leaves as it is, and the list that grows. -/
structure JnI (s : ByteArray) (w : World) (g2 g7 gl : Nat) (lw : Bool) (nl : Nat) (cur : Array Value) (v5 : Value) (xs : List Int) (W : World) : Prop where mk ::
  b2 : Blk W g2 #[.string s] 9
  b7 : Blk W g7 #[.bool lw] 4
  bl : nl ≠ 0 → Blk W gl cur 3 ∧ v5.ownBlock ≠ some gl
  row : W.ownsRow 0 3 1 v5 xs.length (xs.map (Value.int .i64))
  own : ∀ b, v5.ownBlock = some b → w.heap.size ≤ b
  hb : BelowH w W
theorem JnI.below {s : ByteArray} {w : World} {g2 g7 gl : Nat} {lw : Bool} {nl : Nat} {cur : Array Value} {v5 : Value} {xs : List Int} {W W' : World} (h : JnI s w g2 g7 gl lw nl cur v5 xs W) (hb : Below W.heap.size W W') : JnI s w g2 g7 gl lw nl cur v5 xs W' :=
  ⟨h.b2.below hb, h.b7.below hb, fun h0 => ⟨(h.bl h0).1.below hb, (h.bl h0).2⟩, row_below h.row hb, h.own, h.hb.step hb⟩
/-- One place more. -/
theorem JnI.grow {s : ByteArray} {w : World} {g2 g7 gl : Nat} {lw : Bool} {nl : Nat} {cur : Array Value} {v5 : Value} {xs : List Int} {W W' : World} (h : JnI s w g2 g7 gl lw nl cur v5 xs W) {v' : Value} {p : Int} (hA : Appended W W' 3 v5 v' xs.length (xs.length + 1) (xs.map (Value.int .i64) ++ [.int .i64 p])) : JnI s w g2 g7 gl lw nl cur v' (xs ++ [p]) W' := by
  have e1 : (xs ++ [p]).length = xs.length + 1 := by rw [List.length_append, List.length_singleton]
  have e2 : (xs ++ [p]).map (Value.int .i64) = xs.map (Value.int .i64) ++ [.int .i64 p] := by rw [List.map_append]; rfl
  rcases hA with ⟨g, cap, rfl, rfl, hrow, hg⟩ | ⟨cap, rfl, hrow, hg⟩
  · have hgo : w.heap.size ≤ g := h.own g rfl
    obtain ⟨cells, hc⟩ := own_typed h.row g rfl
    have hne : ∀ (k : Nat) (cs : Array Value) (t : Nat), Blk W k cs t → t ≠ 3 → k ≠ g := fun k cs t B ht e => by
      subst e
      have := B.out
      rw [hc] at this
      simp at this
      exact ht this.2.symm
    refine ⟨⟨(hg.block g2 h.b2.lt (fun e => hne _ _ _ h.b2 (by decide) (Option.some.inj e))).trans h.b2.out⟩, ⟨(hg.block g7 h.b7.lt (fun e => hne _ _ _ h.b7 (by decide) (Option.some.inj e))).trans h.b7.out⟩, fun h0 => ⟨⟨(hg.block gl (h.bl h0).1.lt (fun e => (h.bl h0).2 (by rw [Value.ownBlock]; exact e.symm))).trans (h.bl h0).1.out⟩, (h.bl h0).2⟩, by rw [e1, e2]; exact hrow, fun b hb => h.own b hb, grown_belowH h.hb hg (fun g' e => by cases e; exact hgo)⟩
  · refine ⟨⟨(hg.block g2 h.b2.lt (fun e => by cases e)).trans h.b2.out⟩, ⟨(hg.block g7 h.b7.lt (fun e => by cases e)).trans h.b7.out⟩, fun h0 => ⟨⟨(hg.block gl (h.bl h0).1.lt (fun e => by cases e)).trans (h.bl h0).1.out⟩, fun c => by
      have := (h.bl h0).1.lt
      have e : W.heap.size = gl := Option.some.inj c
      omega⟩, by rw [e1, e2]; exact hrow, fun b hb => by cases hb; exact h.hb.le, grown_belowH h.hb hg (fun g' e => by cases e)⟩
set_option maxHeartbeats 4000000 in
set_option maxRecDepth 100000 in
theorem quarrylaw08_MarksJoins.core (s t : ByteArray) (hs : s.size + t.size ≤ 1048576) (he : esc s false s.size = false) (ho : par (mkq s) s.size = false) (w : World) (hT : TabOk w) :
    Calls Tryd.prog 12 #[.string s, .string t] w fun e w' => e = .returned (.bool true) ∧ Below w.heap.size w w' := by
  have C := Aside0.mk (mjC s t hs)
  obtain ⟨F, hF⟩ : ∃ F, F = Fence.wide := ⟨_, rfl⟩
  have HF := Aside0.mk hF
  refine (callsIn_wide (n := 9)).1 ?_
  rw [← hF]
  clear hF
  have hro := wide_round HF
  have HB := BelowH.refl w
  have f1 := wide_fn HF 17
  have f2 := wide_fn HF 44
  have f3 := wide_fn HF 45
  have f4 := wide_fn HF 26
  have f5 := wide_fn HF 46
  have f6 := wide_fn HF 22
  have f7 := wide_fn HF 14
  have f8 := wide_fn HF 49
  have f9 := wide_fn HF 25
  have HT := Aside0.mk hT
  clear hT
  have OS : Aside0 (∀ W, Calls Tryd.prog 44 #[.string s] W fun e w' => e = .returned (.bool false) ∧ Below W.heap.size W w') := ⟨fun W => by have h := C.out.os W; rw [ho] at h; exact h⟩
  have BS : Aside0 (∀ W, Calls Tryd.prog 45 #[.string s, .bool false] W fun e w' => e = .returned (.bool false) ∧ Below W.heap.size W w') := ⟨fun W => by have h := C.out.bs W; rw [he] at h; exact h⟩
  obtain ⟨LS, hLS⟩ : ∃ LS, LS = idxL s s.size := ⟨_, rfl⟩
  obtain ⟨LT, hLT⟩ : ∃ LT, LT = idxL t t.size := ⟨_, rfl⟩
  obtain ⟨LU, hLU⟩ : ∃ LU, LU = idxL (s ++ t) (s ++ t).size := ⟨_, rfl⟩
  have hu : (s ++ t).size = s.size + t.size := ByteArray.size_append
  have lS : LS.length ≤ 1048576 := by rw [hLS]; exact Nat.le_trans (idxL_length _ _) (by omega)
  have lT : LT.length ≤ 1048576 := by rw [hLT]; exact Nat.le_trans (idxL_length _ _) (by omega)
  have lU : LU.length ≤ 1048576 := by rw [hLU]; exact Nat.le_trans (idxL_length _ _) (by omega)
  have HL := Aside0.mk (And.intro lS (And.intro lT lU))
  have HJ : Aside0 (xsJ s t LS LT LT.length = LU) := ⟨by rw [hLU, join_idx he ho, ← hLS, ← hLT]; unfold xsJ; rw [List.take_length]⟩
  have HP : Aside0 (∀ p ∈ LT, 0 ≤ p ∧ p < (t.size : Int)) := ⟨fun p hp => by
    rw [hLT, idxL_all t _ (Nat.le_refl _)] at hp
    obtain ⟨i, hi, rfl⟩ := List.mem_map.1 hp
    have := List.mem_range.1 (List.mem_filter.1 hi).1
    omega⟩
  have IXS : Aside0 (∀ W, TabOk W → Calls Tryd.prog 26 #[.string s] W fun e w' => ∃ A c, e = .returned (.slice A LS.length c) ∧ Kd.C (Kd.int .i64) w' A LS.length LS ∧ LS.length ≤ c ∧ Below W.heap.size W w') := ⟨fun W h => by
    refine (marks_Index.calls s LS W h (by rw [hLS]; exact MjF.mj_index_eq s (by omega))).mono ?_
    rintro e w' ⟨v, rfl, hR, hb⟩
    obtain ⟨A, c, rfl⟩ := Kd.R_slice hR
    have := Kd.R_reads' hR
    exact ⟨A, c, rfl, this.2.2, this.2.1, hb⟩⟩
  have IXU : Aside0 (∀ W, TabOk W → Calls Tryd.prog 26 #[.string (s ++ t)] W fun e w' => ∃ A c, e = .returned (.slice A LU.length c) ∧ Kd.C (Kd.int .i64) w' A LU.length LU ∧ LU.length ≤ c ∧ Below W.heap.size W w') := ⟨fun W h => by
    refine (marks_Index.calls (s ++ t) LU W h (by rw [hLU]; exact MjF.mj_index_eq (s ++ t) (by omega))).mono ?_
    rintro e w' ⟨v, rfl, hR, hb⟩
    obtain ⟨A, c, rfl⟩ := Kd.R_slice hR
    have := Kd.R_reads' hR
    exact ⟨A, c, rfl, this.2.2, this.2.1, hb⟩⟩
  have IXT : Aside0 (∀ W, TabOk W → Calls Tryd.prog 26 #[.string t] W fun e w' => ∃ v, e = .returned v ∧ w'.ownsRow W.heap.size 3 1 v LT.length (LT.map (Value.int .i64)) ∧ Below W.heap.size W w') := ⟨fun W h => by rw [hLT]; exact marks_Index.walk t W h (by omega)⟩
  have CPS : Aside0 (∀ W A c, Kd.C (Kd.int .i64) W A LS.length LS → LS.length ≤ c → Calls Tryd.prog 46 #[.slice A LS.length c] W fun e w' => ∃ v, e = .returned v ∧ w'.ownsRow W.heap.size 3 1 v LS.length (LS.map (Value.int .i64)) ∧ Below W.heap.size W w') := ⟨fun W A c hC hc => by
    refine (quarryref00_CopyInts.calls (LS.length + 1) A c LS LS W hC hc (MjF.mj_copyi_eq LS (by omega) _ (by omega))).mono ?_
    rintro e w' ⟨v, rfl, hR, hb⟩
    exact ⟨v, rfl, Kd.own_of_R hR, hb⟩⟩
  have SIU : Aside0 (∀ W A0 c0 A1 c1, Kd.C (Kd.int .i64) W A0 LU.length LU → LU.length ≤ c0 → Kd.C (Kd.int .i64) W A1 LU.length LU → LU.length ≤ c1 → Calls Tryd.prog 25 #[.slice A0 LU.length c0, .slice A1 LU.length c1] W fun e w' => e = .returned (.bool true) ∧ Below W.heap.size W w') := ⟨fun W A0 c0 A1 c1 h0 h1 h2 h3 =>
    drawn_below (quarryref00_SameInts.calls (LU.length + 1) A0 c0 LU A1 c1 LU true W h0 h1 h2 h3 (MjF.mj_sameints_refl LU (by omega) _ (by omega)))⟩
  obtain ⟨kd, hkd⟩ : ∃ kd, kd = MjF.mj_kindR s (s.size - 1) := ⟨_, rfl⟩
  obtain ⟨kt, hkt⟩ : ∃ kt, kt = MjF.mj_kindR t 0 := ⟨_, rfl⟩
  obtain ⟨nm, hnm⟩ : ∃ nm : Int, nm = (s.size : Int) - 1 := ⟨_, rfl⟩
  have hwn : wrap64 ((s.size : Int) - 1) = nm := by rw [hnm]; unfold wrap64; omega
  have KDS : Aside0 (0 < s.size → ∀ W, Calls Tryd.prog 22 #[.string s, .int .i64 nm] W fun e w' => e = .returned (.int .u8 kd) ∧ Below W.heap.size W w') := ⟨fun h W => by
    rw [hnm, show (s.size : Int) - 1 = ((s.size - 1 : Nat) : Int) by omega]
    exact marks_Kind.calls 2 s _ kd W (by rw [hkd]; exact MjF.mj_kind_eq s (by omega) (s.size - 1) (by omega) 0)⟩
  have KDT : Aside0 (0 < t.size → ∀ W, Calls Tryd.prog 22 #[.string t, .int .i64 0] W fun e w' => e = .returned (.int .u8 kt) ∧ Below W.heap.size W w') := ⟨fun h W => by
    exact marks_Kind.calls 2 t _ kt W (by rw [hkt]; exact MjF.mj_kind_eq t (by omega) 0 h 0)⟩
  have HKT : Aside0 ((kt == 119) = wdq t 0) := ⟨by rw [hkt]; exact kindR_w t⟩
  obtain ⟨kw, hkw⟩ : ∃ kw, kw = (decide (0 < s.size) && (kd == 119)) := ⟨_, rfl⟩
  have HKW : Aside0 (kw = true → endsW s = true) := ⟨fun h => by rw [hkw, hkd] at h; exact kindR_last s h⟩
  have HKW2 := Aside0.mk hkw
  have QF : ∀ (w : World) (f : Fn) (a c : Array Value), (binOp .eql 23 (.func f a c) .nilFunc).run Tryd.prog w = .ok (.bool false) w := fun w f a c => run_eql_func_nil (ps := #[72]) (rs := #[]) (vd := false) _ (by kernel_rfl) _ _ _ _
  have HSZ : Aside0 (s.size ≤ 1048576 ∧ t.size ≤ 1048576) := ⟨by omega⟩
  clear hs he ho lS lT lU hLS hLT hLU hu hkd hkt hnm hkw
  refine callsIn_of_wp_marks Tryd.func12 rfl (wide_fn HF _) ?_ hro
  simp only [Tryd.ntmps12, List.size_toArray, List.length_cons, List.length_nil, Nat.reduceAdd, Nat.reduceSub, Array.replicate_succ, Array.replicate_zero, List.push_toArray, List.append_toArray, List.nil_append, List.cons_append]
  gi_upto_region 1 with (first
    | ((with_reducible refine gate_dstIn (N := 2) rfl ?_); refine ev_allocIn HB rfl rfl (#[.string s]) 9 ?hr ?_; (case hr => first | (go_simp; done) | (go_simp; rfl)); intro g2 w2 G_g2 GE_g2 B_g2 HBn K_g2 KO_w2; clear HB; have HB := HBn; clear HBn))
  clear KO_w2 K_g2 G_g2 GE_g2
  have HT2 := HT.out.step HB.out
  gi_upto_region 3 with (first
    | (gi_at_call 17; refine (callsIn_of HF (C.out.aw _ HT2)).mono ?_; rintro e wx ⟨rfl, hb⟩; have HBn := HB.step hb; have g2n := B_g2.below hb; clear HB hb B_g2; have HB := HBn; have B_g2 := g2n; clear HBn g2n)
    | (gi_at_call 44; refine (callsIn_of HF (C.out.o1 _)).mono ?_; rintro e wx ⟨rfl, hb⟩; have HBn := HB.step hb; have g2n := B_g2.below hb; clear HB hb B_g2; have HB := HBn; have B_g2 := g2n; clear HBn g2n)
    | (gi_at_call 45; refine (callsIn_of HF (C.out.b1 _)).mono ?_; rintro e wx ⟨rfl, hb⟩; have HBn := HB.step hb; have g2n := B_g2.below hb; clear HB hb B_g2; have HB := HBn; have B_g2 := g2n; clear HBn g2n))
  clear HT2
  have c2 := B_g2.cell (i := 0) rfl
  gi_upto_region 5 with (first
    | (gi_at_call 44; clear c2; refine (callsIn_of HF (OS.out _)).mono ?_; rintro e wx ⟨rfl, hb⟩; have HBn := HB.step hb; have g2n := B_g2.below hb; clear HB hb B_g2; have HB := HBn; have B_g2 := g2n; have c2 := B_g2.cell (i := 0) rfl; clear HBn g2n)
    | (gi_at_call 45; clear c2; refine (callsIn_of HF (BS.out _)).mono ?_; rintro e wx ⟨rfl, hb⟩; have HBn := HB.step hb; have g2n := B_g2.below hb; clear HB hb B_g2; have HB := HBn; have B_g2 := g2n; have c2 := B_g2.cell (i := 0) rfl; clear HBn g2n))
  gi_upto_region 6 with (first
    | (gi_at_call 26; refine (callsIn_of HF (IXS.out _ (HT.out.stepH HB))).mono ?_; rintro e w5 ⟨A1, c1, rfl, hC1, hl1, hb⟩; have HC1 := Aside0.mk (And.intro hC1 hl1); have HBn := HB.step hb; have g2n := B_g2.below hb; clear HB hb B_g2 c2 hC1 hl1; have HB := HBn; have B_g2 := g2n; clear HBn g2n)
    | (gi_at_call 46; refine (callsIn_of HF (CPS.out _ A1 c1 HC1.out.1 HC1.out.2)).mono ?_; rintro e w6 ⟨v5, rfl, hrow, hb⟩; have R5 := Aside0.mk hrow; have L5 := Aside0.mk HB.le; have HBn := HB.step hb; have g2n := B_g2.below hb; clear HB hb B_g2 hrow; have HB := HBn; have B_g2 := g2n; clear HBn g2n))
  gi_upto_region 7 with (first
    | (gi_at_call 26; refine (callsIn_of HF (IXT.out _ (HT.out.stepH HB))).mono ?_; rintro e w7 ⟨vl, rfl, hrl, hb⟩; have R7 := Aside0.mk (row_below R5.out hb); have RL := Aside0.mk hrl; have HK7 := Aside0.mk hb; have HBn := HB.step hb; have g2n := B_g2.below hb; clear HB hb B_g2 hrl; have HB := HBn; have B_g2 := g2n; clear HBn g2n))
  obtain ⟨adl, cpl, rfl⟩ := own_slice RL.out
  have HO : Aside0 ((adl = none ∧ LT.length = 0) ∨ ∃ gl cur, adl = some ⟨gl, 0, none⟩ ∧ w6.heap.size ≤ gl ∧ Blk w7 gl cur 3 ∧ ∀ (i : Nat) (p : Int), LT[i]? = some p → cur[i]? = some (.int .i64 p)) := ⟨by
    rcases row_openN RL.out with ⟨h1, h2⟩ | ⟨gl, cap, cur, h1, h2, h3, h4⟩
    · injection h1 with h1
      exact .inl ⟨h1, h2⟩
    · injection h1 with h1
      exact .inr ⟨gl, cur, h1, h2, h3, fun i p hi => h4 i _ (by rw [List.getElem?_map, hi]; rfl)⟩⟩
  obtain ⟨gl, cur, HO⟩ : ∃ gl cur, Aside0 ((LT.length = 0) ∨ (adl = some ⟨gl, 0, none⟩ ∧ (Blk w7 gl cur 3 ∧ v5.ownBlock ≠ some gl) ∧ ∀ (i : Nat) (p : Int), LT[i]? = some p → cur[i]? = some (.int .i64 p))) := by
    rcases HO.out with h | ⟨gl, cur, h1, h2, h3, h4⟩
    · exact ⟨0, #[], ⟨.inl h.2⟩⟩
    · exact ⟨gl, cur, ⟨.inr ⟨h1, ⟨h3, own_ne_new R5.out h2⟩, h4⟩⟩⟩
  have HGET : Aside0 (LT.length ≠ 0 → adl = some ⟨gl, 0, none⟩ ∧ ∀ (i : Nat) (p : Int), LT[i]? = some p → cur[i]? = some (.int .i64 p)) := ⟨fun h0 => by
    rcases HO.out with h | ⟨h1, _, h3⟩
    · exact absurd h h0
    · exact ⟨h1, h3⟩⟩
  have HBL : Aside0 (LT.length ≠ 0 → Blk w7 gl cur 3 ∧ v5.ownBlock ≠ some gl) := ⟨fun h0 => by
    rcases HO.out with h | ⟨_, h2, _⟩
    · exact absurd h h0
    · exact h2⟩
  have OW5 : Aside0 (∀ b, v5.ownBlock = some b → w.heap.size ≤ b) := ⟨fun b hb => by
    have h := own_base R5.out b hb
    have := L5.out
    omega⟩
  have HBw := HB
  clear HO RL R5 HK7 HC1 IXS IXT CPS OS BS HB
  have HB := BelowH.refl w7
  have c2 := B_g2.cell (i := 0) rfl
  gi_cut [7] from 8 (fun v7 wx => ∃ g7, v7 = .pointer (some ⟨g7, 0, none⟩) ∧ Aside0 (w7.heap.size ≤ g7) ∧ Blk wx g7 #[.bool kw] 4 ∧ BelowH w7 wx)
  case first =>
    by_cases h0 : 0 < s.size
    · have h0b : decide (0 < (s.size : Int)) = true := decide_eq_true (by omega)
      have hkb : (kd == 119) = kw := by rw [HKW2.out, decide_eq_true h0, Bool.true_and]
      gi_wp2_with (first
        | (gi_at_call 22; go_must (refine (callsIn_of HF (KDS.out h0 _)).mono ?_); rintro e wk ⟨rfl, hb⟩; have HBn := HB.step hb; clear HB hb; have HB := HBn; clear HBn)
        | ((with_reducible refine gate_dstIn (N := 7) rfl ?_); refine ev_allocIn HB rfl rfl (#[.bool false]) 4 ?hr ?_; (case hr => first | (go_simp; done) | (go_simp; rfl)); intro g7 w8 G_g7 GE_g7 B_g7 HBn K_g7 KO_w8; clear HB; have HB := HBn; clear HBn)
        | ((with_reducible refine gate_In (Op.store 4 (.tmp 7) (.tmp 42)) rfl ?_); refine ev_store1In (i := 0) HB B_g7 GE_g7 rfl 4 _ _ rfl rfl (.bool kw) rfl (by simp) (by kernel_rfl) rfl ?_; intro w9 B9 HBn K_w9 KO_w9; clear HB; have HB := HBn; clear HBn))
      try simp only [Act.put, List.setIfInBounds_toArray, List.set_cons_zero, List.set_cons_succ]
      gi_meet
      case rel => exact ⟨g7, rfl, GE_g7, B9, HB⟩
    · have h0b : decide (0 < (s.size : Int)) = false := decide_eq_false (by omega)
      have HKB : Aside0 (kw = false) := ⟨by rw [HKW2.out, decide_eq_false h0, Bool.false_and]⟩
      gi_wp2_with (first
        | ((with_reducible refine gate_dstIn (N := 7) rfl ?_); refine ev_allocIn HB rfl rfl (#[.bool false]) 4 ?hr ?_; (case hr => first | (go_simp; done) | (go_simp; rfl)); intro g7 w8 G_g7 GE_g7 B_g7 HBn K_g7 KO_w8; clear HB; have HB := HBn; clear HBn)
        | ((with_reducible refine gate_In (Op.store 4 (.tmp 7) (.tmp 42)) rfl ?_); refine ev_store1In (i := 0) HB B_g7 GE_g7 rfl 4 _ _ rfl rfl (.bool false) rfl (by simp) (by kernel_rfl) rfl ?_; intro w9 B9 HBn K_w9 KO_w9; clear HB; have HB := HBn; clear HBn))
      try simp only [Act.put, List.setIfInBounds_toArray, List.set_cons_zero, List.set_cons_succ]
      gi_meet
      case rel => exact ⟨g7, rfl, GE_g7, by rw [HKB.out]; exact B9, HB⟩
  case rest =>
  obtain ⟨g7, rfl, GE7, B7, HB7⟩ := hcut
  clear HB c2
  have c2 := (B_g2.below HB7.out).cell (i := 0) rfl
  gi_wp2_with (first
    | (gi_at_call 14; refine (callsIn_of HF (marks_Words.calls s _)).mono ?_; rintro e wA ⟨h1, rfl, GEh, B1, HBA⟩))
  have HBA7 := HB7.step HBA.out
  have B7A := B7.below HBA.out
  have HTA := (HT.out.stepH HBw).stepH HBA7
  have P0 := HTA.pos
  have LH1 := B1.lt
  have PM : Aside0 (g7 < wA.heap.size ∧ w7.heap.size ≤ wA.heap.size ∧ h1 ≠ g7 ∧ 0 < w7.heap.size) := ⟨⟨B7A.lt, HBA7.le, by have := B7.lt; omega, (HT.out.stepH HBw).pos⟩⟩
  have g2w := Aside0.mk B_g2
  clear c2 B7 HB7 GEh B_g2
  refine wpIn_rangeFunc_O hro (by decide) (gf := 49) (lb := #[.pointer (some ⟨h1, 0, none⟩)]) rfl f8 (enters_of Tryd.func49 (by kernel_rfl) rfl)
    (marks_Words_1.stops F HF (9 - 1) (by decide) h1 s (by have := HSZ.out; omega) wA B1 HTA) Keep2.trans (fun W l o o' hl ho hc hw => Keep2.putObj P0 LH1 W l o o' hl ho hc hw) (Below.refl _ _) (fun _ => rfl)
    (fun _ pre W => Blk W g7 #[.bool (kw || pre.any fun x => decide (x.2 = s.size))] 4 ∧ BelowH w7 W ∧ wA.heap.size ≤ W.heap.size) (fun _ _ _ => False)
    (fun _ pre A B row hs hg hr => ⟨hs.1.kept hg (fun r e => (hr r e).2), hs.2.1.kept hg PM.out.2.1 (fun r e => (hr r e).1), Nat.le_trans hs.2.2 hg.size⟩)
    (fun _ _ _ _ _ hs _ _ => hs)
    (fun X pre A k h hk => h)
    (fun X pre A C hX h ht => ⟨h.1.turned ht (not_mem_above hX PM.out.1), ⟨ht.below (fun k hk => Nat.le_trans PM.out.2.1 (hX k hk)) h.2.1.le h.2.1.out⟩, Nat.le_trans h.2.2 ht.size⟩)
    ⟨by simpa using B7A, HBA7, Nat.le_refl _⟩
    (fun x a' W => ∃ gb, wA.heap.size ≤ gb ∧ Blk W gb #[.int .i64 ((x.1 : Nat) : Int), .int .i64 ((x.2 : Nat) : Int)] 26 ∧ a' = { tmps := #[.string s, .string t, .pointer (some ⟨g2, 0, none⟩), undef, .bool false, v5, .slice adl LT.length cpl, .pointer (some ⟨g7, 0, none⟩), .func (.func 49) #[] #[.pointer (some ⟨h1, 0, none⟩)], .pointer (some ⟨gb, 0, none⟩), u10, u11, u12, u13, u14, u15, u16, u17, u18, u19, u20, u21, u22, u23, u24, u25, u26, u27, u28, u29, u30, u31, u32, u33, u34, u35, u36, u37, u38, u39, u40, u41, u42, .string s, .func (.func 49) #[] #[.pointer (some ⟨h1, 0, none⟩)], .func (.func 49) #[] #[.pointer (some ⟨h1, 0, none⟩)], .bool false, .func (.func 49) #[] #[.pointer (some ⟨h1, 0, none⟩)], .agg #[.int .i64 ((x.1 : Nat) : Int), .int .i64 ((x.2 : Nat) : Int)], u49, u50, u51, u52, u53, u54, u55, u56, u57, u58, u59, u60, u61, u62, u63, u64, u65, u66, u67, u68, u69, u70, u71, u72, u73, u74, u75, u76, u77, u78, u79, u80, u81, u82, u83, u84, u85, u86, u87, u88, u89, u90, u91], defers := [] })
    (fun x a' pre A B row hs hg hr => by
      obtain ⟨gb, h1, h2, h3⟩ := hs
      exact ⟨gb, h1, h2.kept hg (fun r e => (hr r e).2), h3⟩)
    ?assign ?body ?done ?stop
  case assign =>
    intro X l pre x W K hX hI hsp hK
    have HB := hI.2.1
    have SZ := Aside0.mk hI.2.2
    have HXA := Aside0.mk hX
    have HI := Aside0.mk hI
    clear hX hsp hI
    have hz : ∀ t : Array Value, (((#[48] : Array Tmp).zip (wEnc x)).foldl (fun t (p, v) => t.setIfInBounds p v) t) = t.setIfInBounds 48 (.agg #[.int .i64 ((x.1 : Nat) : Int), .int .i64 ((x.2 : Nat) : Int)]) := fun t => by simp [wEnc]
    rw [hz]
    simp only [List.setIfInBounds_toArray, List.set_cons_succ, List.set_cons_zero]
    clear hz
    gi_wp2_with (first
      | ((with_reducible refine gate_dstIn (N := 9) rfl ?_); refine ev_allocIn HB rfl rfl (#[.int .i64 0, .int .i64 0]) 26 ?hr ?_; (case hr => first | (go_simp; done) | (go_simp; rfl)); intro gb wB G_gb GE_gb B_gb HBn K_gb KO_wB; clear HB; have HB := HBn; clear HBn)
      | ((with_reducible refine gate_In (Op.store 26 (.tmp 9) (.tmp 48)) rfl ?_); refine ev_storeIn HB B_gb GE_gb rfl 26 _ _ rfl rfl rfl (by kernel_rfl) rfl (by simp [Value.oneCell']) ?_; intro wC B9 HBn K_wC KO_wC; clear HB; have HB := HBn; clear HBn))
    have hKO := KO_wB.out.trans KO_wC.out
    have NGB : ∀ g, g < W.heap.size → g ≠ gb := fun g h => by have := G_gb.out; omega
    have same : ∀ g, g < W.heap.size → wC.heap[g]? = W.heap[g]? := fun g h => (K_wC.out.2 g (NGB g h)).trans (K_gb.out.block g h)
    have Z := SZ.out
    have p := PM.out
    have h := HI.out
    exact hK _ _ (hKO.from _) (fun k hk => same k (HXA.out k hk).2) ⟨same 0 (by omega), same h1 (by omega), Nat.le_trans K_gb.out.size K_wC.out.1⟩ ⟨⟨(same g7 h.1.lt).trans h.1.out⟩, HB, Nat.le_trans Z (Nat.le_trans K_gb.out.size K_wC.out.1)⟩ ⟨gb, Nat.le_trans SZ.out G_gb.out, B9, rfl⟩
  case body =>
    rintro X l pre x a' W hX hl ⟨r, hr⟩ hI ⟨gb, hgb, BX, rfl⟩ hsp
    have HXA := Aside0.mk hX
    have HI := Aside0.mk hI
    obtain ⟨cb, hcb⟩ : ∃ cb, cb = (kw || pre.any fun x => decide (x.2 = s.size)) := ⟨_, rfl⟩
    obtain ⟨xb, hxb⟩ : ∃ xb, xb = decide (x.2 = s.size) := ⟨_, rfl⟩
    have hq : (((x.2 : Nat) : Int) == (s.size : Int)) = xb := by rw [hxb, Bool.eq_iff_iff, beq_iff_eq, decide_eq_true_iff]; omega
    have HNX : Aside0 ((cb || xb) = (kw || (pre ++ [x]).any fun x => decide (x.2 = s.size))) := ⟨by rw [hcb, hxb, List.any_append, Bool.or_assoc]; simp⟩
    have b7 := hI.1
    rw [← hcb] at b7
    have c7 := b7.cell (i := 0) rfl
    have cx := BX.cell (i := 1) rfl
    have c2 := (g2w.out.below hI.2.1.out).cell (i := 0) rfl
    have HB := hI.2.1
    clear hX hl hr hI hsp hcb hxb
    cases cb with
    | true =>
      gi_wp2_with (first
        | ((with_reducible refine gate_In (Op.store 4 (.tmp 7) (.tmp 56)) rfl ?_); refine ev_store1In (i := 0) HB b7 GE7 rfl 4 _ _ rfl rfl (.bool true) rfl (by simp) (by kernel_rfl) rfl ?_; intro w12 B12 HB12 K_w12 KO_w12))
      exact ⟨KO_w12.out.from _, fun k hk => K_w12.out.2 k (fun c => by have := HXA.out k hk; have := PM.out; omega), ⟨K_w12.out.2 0 (by have := PM.out; have := GE7.out; omega), K_w12.out.2 h1 PM.out.2.2.1, K_w12.out.1⟩, by rw [← HNX.out]; exact B12, HB12, Nat.le_trans HI.out.2.2 K_w12.out.1⟩
    | false =>
      gi_wp2_with (first
        | ((with_reducible refine gate_In (Op.store 4 (.tmp 7) (.tmp 56)) rfl ?_); refine ev_store1In (i := 0) HB b7 GE7 rfl 4 _ _ rfl rfl (.bool xb) (by first | rfl | exact congrArg Value.bool hq) (by simp) (by kernel_rfl) rfl ?_; intro w12 B12 HB12 K_w12 KO_w12))
      exact ⟨KO_w12.out.from _, fun k hk => K_w12.out.2 k (fun c => by have := HXA.out k hk; have := PM.out; omega), ⟨K_w12.out.2 0 (by have := PM.out; have := GE7.out; omega), K_w12.out.2 h1 PM.out.2.2.1, K_w12.out.1⟩, by rw [← HNX.out]; exact B12, HB12, Nat.le_trans HI.out.2.2 K_w12.out.1⟩
  case done =>
    rintro D X ys W hD hX rfl hI hK
    have e1 : (kw || (spansW s).any fun x => decide (x.2 = s.size)) = endsW s := by
      rw [any_last]
      cases hk : kw with
      | false => simp
      | true => rw [HKW.out hk]; rfl
    rw [e1] at hI
    obtain ⟨lw, hlw⟩ : ∃ lw, lw = endsW s := ⟨_, rfl⟩
    rw [← hlw] at hI
    have HLW := Aside0.mk hlw
    have hDw : w.heap.size ≤ D := by have := HBw.le; have := PM.out; omega
    have HM := Aside0.mk (Marks.cons (Marks.nil (W := W)) hDw hK (List.not_mem_nil))
    have I0 : Aside0 (JnI s w g2 g7 gl lw LT.length cur v5 (xsJ s t LS LT 0) W) := ⟨by
      have hb := hI.2.1.out
      have e2 : xsJ s t LS LT 0 = LS := by unfold xsJ; simp
      rw [e2]
      exact ⟨g2w.out.below hb, hI.1, fun h0 => ⟨(HBL.out h0).1.below hb, (HBL.out h0).2⟩, row_mono (row_below R7.out hb) (Nat.zero_le _), OW5.out, HBw.step hb⟩⟩
    clear hX hI hK hD hlw e1 HBA7 B7A P0 LH1 HTA HBA B1 hDw
    gi_wp2
    refine wpIn_loopM (fun m a W => ∃ (i : Nat) (v5 : Value) (z10 : Int) (y3 y8 y9 y11 y12 y13 y14 y15 y16 y17 y18 y19 y20 y21 y22 y23 y24 y25 y26 y27 y28 y29 y30 y31 y32 y33 y34 y35 y36 y37 y38 y39 y40 y41 y42 y43 y44 y45 y46 y47 y48 y49 y50 y51 y52 y53 y54 y55 y56 y57 y58 y59 y60 y61 y62 y63 y64 y65 y66 y67 y68 y69 y70 y71 y72 y73 y74 y75 y76 y77 y78 y79 y80 y81 y82 y83 y84 y85 y86 y87 y88 y89 y90 y91 : Value), m = LT.length - i ∧ z10 = (i : Int) ∧ i ≤ LT.length ∧ a = { tmps := #[.string s, .string t, .pointer (some ⟨g2, 0, none⟩), y3, .bool false, v5, .slice adl LT.length cpl, .pointer (some ⟨g7, 0, none⟩), y8, y9, .int .i64 z10, y11, y12, y13, y14, y15, y16, y17, y18, y19, y20, y21, y22, y23, y24, y25, y26, y27, y28, y29, y30, y31, y32, y33, y34, y35, y36, y37, y38, y39, y40, y41, y42, y43, y44, y45, y46, y47, y48, y49, y50, y51, y52, y53, y54, y55, y56, y57, y58, y59, y60, y61, y62, y63, y64, y65, y66, y67, y68, y69, y70, y71, y72, y73, y74, y75, y76, y77, y78, y79, y80, y81, y82, y83, y84, y85, y86, y87, y88, y89, y90, y91], defers := marksD [D] } ∧ Aside0 (JnI s w g2 g7 gl lw LT.length cur v5 (xsJ s t LS LT i) W) ∧ Aside0 (Marks w.heap.size [D] W)) LT.length
      ⟨0, v5, 0, _, _, _, _, _, _, _, _, _, _, _, _, _, _, _, _, _, _, _, _, _, _, _, _, _, _, _, _, _, _, _, _, _, _, _, _, _, _, _, _, _, _, _, _, _, _, _, _, _, _, _, _, _, _, _, _, _, _, _, _, _, _, _, _, _, _, _, _, _, _, _, _, _, _, _, _, _, _, _, _, _, _, _, _, rfl, rfl, Nat.zero_le _, rfl, I0, HM⟩ ?_
    clear I0 HM OW5 R7 HBL g2w
    rintro m a W ⟨i, v5, z10, y3, y8, y9, y11, y12, y13, y14, y15, y16, y17, y18, y19, y20, y21, y22, y23, y24, y25, y26, y27, y28, y29, y30, y31, y32, y33, y34, y35, y36, y37, y38, y39, y40, y41, y42, y43, y44, y45, y46, y47, y48, y49, y50, y51, y52, y53, y54, y55, y56, y57, y58, y59, y60, y61, y62, y63, y64, y65, y66, y67, y68, y69, y70, y71, y72, y73, y74, y75, y76, y77, y78, y79, y80, y81, y82, y83, y84, y85, y86, y87, y88, y89, y90, y91, rfl, hz10, hi, rfl, HI, HM⟩ K hK
    have HKK := Aside0.mk hK
    have c2 := HI.out.b2.cell (i := 0) rfl
    clear hK
    by_cases hlt : i < LT.length
    · obtain ⟨rfl, hcur⟩ := HGET.out (by omega)
      have BL := (HI.out.bl (by omega)).1
      obtain ⟨p, hp⟩ : ∃ p, LT[i]? = some p := ⟨_, List.getElem?_eq_getElem hlt⟩
      have HPP := Aside0.mk hp
      have hpb := HP.out p (List.mem_of_getElem? hp)
      have c7 := HI.out.b7.cell (i := 0) rfl
      have cl : W.cell? ⟨gl, i, none⟩ = some (.int .i64 p) := BL.cell (hcur i p hp)
      have htp : 0 < t.size := by omega
      obtain ⟨sk, hsk⟩ : ∃ sk, sk = skipJ s t p := ⟨_, rfl⟩
      have HSK := Aside0.mk hsk
      have HSK2 : Aside0 (sk = (lw && decide (p = 0) && (kt == 119))) := ⟨by rw [hsk, HLW.out, HKT.out]; rfl⟩
      have hq1 : (i : Int) < (LT.length : Int) := by omega
      have hq2 : (0 : Int) ≤ (i : Int) := by omega
      have hq3 : wrap64 ((i : Int) + 1) = (i : Int) + 1 := wrap_succ (by have := HL.out; omega) hq2
      have hq4 : wrap64 (p + (s.size : Int)) = p + (s.size : Int) := by unfold wrap64; have := HSZ.out; omega
      have hq6 : IntKind.i64.wrap (p + (s.size : Int)) = p + (s.size : Int) := by rw [i64_w]; exact hq4
      have hq5 : IntKind.i64.wrap (i : Int) = (i : Int) := by rw [i64_w]; unfold wrap64; have := HL.out; omega
      subst hz10
      have HLT := Aside0.mk hlt
      clear hp hpb hcur hsk hlt hi BL
      gi_upto_region 17 with (fail)
      gi_cut [75] from 57 (fun v75 wx => v75 = .bool sk ∧ Aside0 (JnI s w g2 g7 gl lw LT.length cur v5 (xsJ s t LS LT i) wx) ∧ Aside0 (Marks w.heap.size [D] wx))
      case first =>
        cases lw with
        | false =>
          gi_wp2
          gi_meet
          case rel => exact ⟨by rw [HSK2.out]; rfl, HI, HM⟩
        | true =>
          by_cases hp0 : p = 0
          · have hpz : (p == 0) = true := by rw [hp0]; rfl
            have hsk2 : (kt == 119) = sk := by rw [HSK2.out, decide_eq_true hp0]; simp
            gi_wp2_with (first
              | (gi_at_call 22; go_must (refine (callsIn_of HF (KDT.out htp _)).mono ?_); rintro e wk ⟨rfl, hb⟩; have HIk := Aside0.mk (HI.out.below hb); have HMk := Aside0.mk (HM.out.below hb); clear hb))
            gi_meet
            case rel => exact ⟨rfl, HIk, HMk⟩
          · have hpz : (p == 0) = false := by rw [beq_eq_false_iff_ne]; exact hp0
            gi_wp2
            gi_meet
            case rel => exact ⟨by rw [HSK2.out, decide_eq_false hp0]; simp, HI, HM⟩
      case rest =>
      obtain ⟨rfl, HJ9, HM9⟩ := hcut
      clear HI HM c2 c7 cl
      cases sk with
      | true =>
        have e9 := xsJ_skip s t LS LT i HPP.out HSK.out.symm
        gi_wp2
        refine HKK.out (LT.length - (i + 1)) _ _ (by have := HLT.out; omega) ⟨i + 1, v5, _, _, _, _, _, _, _, _, _, _, _, _, _, _, _, _, _, _, _, _, _, _, _, _, _, _, _, _, _, _, _, _, _, _, _, _, _, _, _, _, _, _, _, _, _, _, _, _, _, _, _, _, _, _, _, _, _, _, _, _, _, _, _, _, _, _, _, _, _, _, _, _, _, _, _, _, _, _, _, _, _, _, _, _, _, rfl, by omega, by have := HLT.out; omega, rfl, ⟨by rw [e9]; exact HJ9.out⟩, HM9⟩
      | false =>
        have e9 := xsJ_add s t LS LT i HPP.out HSK.out.symm
        have E9 := Aside0.mk e9
        have hlen : Aside0 (((xsJ s t LS LT i).length + 1) * 8 ≤ 140737488355328) := ⟨by have := xsJ_len s t LS LT i; have := HL.out; have := HLT.out; omega⟩
        have HCUR := Aside0.mk ((HGET.out (by have := HLT.out; omega)).2 i p HPP.out)
        have hbd : Aside0 (Below wc.heap.size wc wc.drew) := ⟨below_drew (Below.refl _ _)⟩
        have G := Aside0.mk (HJ9.out.below hbd.out)
        have MK := Aside0.mk (HM9.out.below hbd.out)
        have BL := (HJ9.out.bl (by have := HLT.out; omega)).1.below hbd.out
        clear HJ9 HM9 hbd e9
        gi_upto_region 18 with (fail)
        refine wpIn_region_last_wide HF (S := fun W' => Blk W' g2 #[.string s] 9 ∧ Blk W' gl cur 3) (ds := [9, 10]) (by kernel_rfl) ⟨G.out.b2, BL⟩ (fun hS => ?_)
        refine' wpAnyLast_take (i := 0) (oi := Oper.mk _ _ _ _ _ _) rfl (by kernel_rfl) (by kernel_rfl) (by kernel_rfl) (by kernel_rfl) (by kernel_rfl) (fun _ _ _ h => h) (Or.inl ⟨by rfl, ?hy1⟩) hS ?rest1
        case hy1 => (intro w hSw; (try dsimp only at hSw); first | (go_simp; done) | (go_simp; with_reducible rfl))
        try simp only [Act.put, List.setIfInBounds_toArray, List.set_cons_zero, List.set_cons_succ]
        refine' wpAnyLast_take (i := 1) (oi := Oper.mk _ _ _ _ _ _) rfl (by kernel_rfl) (by kernel_rfl) (by kernel_rfl) (by kernel_rfl) (by kernel_rfl) (fun _ _ _ h => h) (Or.inl ⟨by rfl, ?hy2⟩) hS ?rest2
        case hy2 => (intro w hSw; (try dsimp only at hSw); first | (go_simp; done) | (go_simp; with_reducible rfl))
        try simp only [Act.put, List.setIfInBounds_toArray, List.set_cons_zero, List.set_cons_succ]
        refine' wpAnyLast_take (i := 2) (oi := Oper.mk _ _ _ _ _ _) rfl (by kernel_rfl) (by kernel_rfl) (by kernel_rfl) (by kernel_rfl) (by kernel_rfl) (fun _ _ _ h => h) (Or.inl ⟨by rfl, ?hy3⟩) hS ?rest3
        case hy3 => (intro w hSw; (try dsimp only at hSw); first | (go_simp; done) | (go_simp; with_reducible rfl))
        try simp only [Act.put, List.setIfInBounds_toArray, List.set_cons_zero, List.set_cons_succ]
        refine' wpAnyLast_take (i := 3) (oi := Oper.mk _ _ _ _ _ _) rfl (by kernel_rfl) (by kernel_rfl) (by kernel_rfl) (by kernel_rfl) (by kernel_rfl) (fun _ _ _ h => h) (Or.inl ⟨by rfl, ?hy4⟩) hS ?rest4
        case hy4 => (intro w hSw; (try dsimp only at hSw); first | (go_simp; done) | (go_simp; with_reducible rfl))
        try simp only [Act.put, List.setIfInBounds_toArray, List.set_cons_zero, List.set_cons_succ]
        refine wpAnyLast_take (i := 4) (oi := Oper.mk _ _ _ _ _ _) rfl (by kernel_rfl) (by kernel_rfl) (by kernel_rfl) (by kernel_rfl) (by kernel_rfl) (fun _ _ _ h => h) (rg_load1 (by rfl) (fun _ hS => hS.2.cell HCUR.out) 3 _ rfl rfl (fun _ => by simp [isAgg, run_underlying Tryd.underlying3])) hS ?_
        try simp only [Act.put, List.setIfInBounds_toArray, List.set_cons_zero, List.set_cons_succ]
        refine wpAnyLast_take (i := 5) (oi := Oper.mk _ _ _ _ _ _) rfl (by kernel_rfl) (by kernel_rfl) (by kernel_rfl) (by kernel_rfl) (by kernel_rfl) (fun _ _ _ h => h) (rg_load1 (by rfl) (fun _ hS => hS.1.cell (i := 0) rfl) 9 _ rfl rfl (fun _ => by simp [isAgg, run_underlying Tryd.underlying9])) hS ?_
        try simp only [Act.put, List.setIfInBounds_toArray, List.set_cons_zero, List.set_cons_succ]
        refine' wpAnyLast_take (i := 6) (oi := Oper.mk _ _ _ _ _ _) rfl (by kernel_rfl) (by kernel_rfl) (by kernel_rfl) (by kernel_rfl) (by kernel_rfl) (fun _ _ _ h => h) (Or.inl ⟨by rfl, ?hy5⟩) hS ?rest5
        case hy5 => (intro w hSw; (try dsimp only at hSw); first | (go_simp; done) | (go_simp; with_reducible rfl))
        try simp only [Act.put, List.setIfInBounds_toArray, List.set_cons_zero, List.set_cons_succ]
        refine' wpAnyLast_take (i := 7) (oi := Oper.mk _ _ _ _ _ _) rfl (by kernel_rfl) (by kernel_rfl) (by kernel_rfl) (by kernel_rfl) (by kernel_rfl) (fun _ _ _ h => h) (Or.inl ⟨by rfl, ?hy6⟩) hS ?rest6
        case hy6 => (intro w hSw; (try dsimp only at hSw); first | (go_simp; done) | (go_simp; with_reducible rfl))
        try simp only [Act.put, List.setIfInBounds_toArray, List.set_cons_zero, List.set_cons_succ]
        refine wpAnyLast_ready (rs := [8]) (by kernel_rfl) (by simp) ?_
        refine AllReadyL.cons (o := Oper.mk _ _ _ _ _ _) rfl (by decide) (fun K hK => ?_) ?_
        · refine rg_lit G.out.hb (by rfl) (.int .i64 (p + (s.size : Int))) 3 (by first | (go_simp; done) | (go_simp; rfl)) ?_
          intro gn W' BN HBx hb
          have Gn := Aside0.mk (G.out.below hb.out)
          have MKn := Aside0.mk (MK.out.below hb.out)
          have BLn := BL.below hb.out
          clear HBx G MK BL
          have G := Gn
          have MK := MKn
          have BL := BLn
          clear Gn MKn BLn
          refine hK.out _ _ ⟨G.out.b2, BL⟩ (fun hS => ?_)
          clear hK K hb
          try simp only [Act.put, List.setIfInBounds_toArray, List.set_cons_zero, List.set_cons_succ]
          refine wpAnyLast_ready (rs := [9]) (by kernel_rfl) (by simp) ?_
          refine AllReadyL.cons_last (o := Oper.mk _ _ _ _ _ _) rfl (by decide) (fun K hK => ?_) ?_
          · refine rg_append2 (by rfl) _ _ 36 3 (.int .i64 0) 8 (by rfl) Tryd.underlying36 (by kernel_rfl) rfl (by decide) v5 (xsJ s t LS LT i).length _ G.out.row (by rfl) ⟨gn, 0, none⟩ 1 1 [.int .i64 (p + (s.size : Int))] (by rfl) rfl (by decide) (lit_news BN) (lit_one rfl) hlen.out ?_
            intro v6 w50 hA
            have GA := Aside0.mk (G.out.grow hA.out)
            have MA := Aside0.mk (marks_appended MK.out G.out.row hA.out)
            clear hA G MK BL
            refine hK.out _ _ ?_
            clear hK K
            try simp only [Act.put, List.setIfInBounds_toArray, List.set_cons_zero, List.set_cons_succ]
            refine wpAnyLast_ready (rs := [10]) (by kernel_rfl) (by simp) ?_
            refine AllReadyL.cons_last (o := Oper.mk _ _ _ _ _ _) rfl (by decide) (fun K hK => ?_) ?_
            · refine rg_pure (by rfl) v6 (by first | (go_simp; done) | (go_simp; rfl)) ?_
              refine hK.out _ _ ?_
              clear hK K
              try simp only [Act.put, List.setIfInBounds_toArray, List.set_cons_zero, List.set_cons_succ]
              refine wpAnyLast_done (by kernel_rfl) ?_ _
              refine NoPanic.normal ?_
              gi_wp2
              refine HKK.out (LT.length - (i + 1)) _ _ (by have := HLT.out; omega) ⟨i + 1, v6, _, _, _, _, _, _, _, _, _, _, _, _, _, _, _, _, _, _, _, _, _, _, _, _, _, _, _, _, _, _, _, _, _, _, _, _, _, _, _, _, _, _, _, _, _, _, _, _, _, _, _, _, _, _, _, _, _, _, _, _, _, _, _, _, _, _, _, _, _, _, _, _, _, _, _, _, _, _, _, _, _, _, _, _, _, rfl, by omega, by have := HLT.out; omega, rfl, ⟨by rw [E9.out]; exact GA.out⟩, MA⟩
            exact AllReadyL.nil
          exact AllReadyL.nil
        exact AllReadyL.nil
    · have EI : i = LT.length := by omega
      have hq1 : decide ((i : Int) < (LT.length : Int)) = false := decide_eq_false (by omega)
      have hq2 : decide (i < LT.length) = false := decide_eq_false (by omega)
      have hi2 := HI.out
      rw [EI, HJ.out] at hi2
      obtain ⟨A5, c5, rfl⟩ := own_slice hi2.row
      have HR5 := Aside0.mk (Kd.R_reads' (Kd.R_of_own (h1 := fun _ => rfl) (ok := fun _ => True) (enc := Value.int .i64) hi2.row (fun _ _ => trivial)))
      have HJB := Aside0.mk hi2.hb
      subst hz10
      have hcat : s.size + t.size ≤ 9223372036854775807 := by have := HSZ.out; omega
      have hcat0 := eq_true hcat
      have hcat1 : decide (s.size + t.size ≤ 9223372036854775807) = true := decide_eq_true hcat
      have hcat2 : (9223372036854775807 < s.size + t.size) = False := eq_false (Nat.not_lt.2 hcat)
      clear EI hlt hi hi2 HI hcat
      gi_wp2_with (first
        | (gi_at_call 26; go_must (refine (callsIn_of HF (IXU.out _ (HT.out.stepH HJB.out))).mono ?_); rintro e w60 ⟨A6, c6, rfl, hC6, hl6, hb⟩; have HC6 := Aside0.mk (And.intro hC6 hl6); have HK6 := Aside0.mk hb; clear hb hC6 hl6)
        | (gi_at_call 25; go_must (refine (callsIn_of HF (SIU.out _ A6 c6 A5 c5 HC6.out.1 HC6.out.2 (Kd.C_below HR5.out.2.2 HK6.out) HR5.out.2.1)).mono ?_); rintro e w61 ⟨rfl, hb⟩; have HK61 := Aside0.mk hb; clear hb))
      refine leaves_marks [D] w61 ((HM.out.below HK6.out).below HK61.out) fun A hsw => ⟨_, results_tmp rfl _ _ _, rfl, hsw.below (Nat.le_refl _) ((HJB.out.step HK6.out).step HK61.out).out⟩
  case stop =>
    intro D c pre W hD hp hf
    exact hf.elim
theorem quarrylaw08_MarksJoins.true_ (s t : ByteArray) (hs : s.size + t.size ≤ 1048576) (w : World) (hT : TabOk w) :
    Calls Tryd.prog 12 #[.string s, .string t] w fun e w' => e = .returned (.bool true) ∧ Below w.heap.size w w' := by
  cases hp : par (mkq s) s.size with
  | true => exact quarrylaw08_MarksJoins.early s t hs (.inl hp) w hT
  | false =>
    cases he : esc s false s.size with
    | true => exact quarrylaw08_MarksJoins.early s t hs (.inr he) w hT
    | false => exact quarrylaw08_MarksJoins.core s t hs he hp w hT
def quarrylaw08_MarksJoins.f (a0 : ByteArray) (a1 : ByteArray) : Option Bool := if a0.size + a1.size ≤ 1048576 then some true else none
theorem quarrylaw08_MarksJoins.calls (a0 : ByteArray) (a1 : ByteArray) (r : Bool) (w : World) (hT : TabOk w) (h : quarrylaw08_MarksJoins.f a0 a1 = some r) :
    Calls Tryd.prog 12 #[.string a0, .string a1] w fun e w' => e = .returned (.bool r) ∧ Below w.heap.size w w' := by
  unfold quarrylaw08_MarksJoins.f at h
  by_cases hs : a0.size + a1.size ≤ 1048576
  case neg => rw [if_neg hs] at h; cases h
  rw [if_pos hs] at h
  cases h
  exact quarrylaw08_MarksJoins.true_ a0 a1 hs w hT
def quarrylaw08_MarksJoins.Pure : Prop := ∀ (a0 : ByteArray) (a1 : ByteArray), a0.size ≤ 1048576 → a1.size ≤ 1048576 → quarrylaw08_MarksJoins.f a0 a1 = some true
theorem quarrylaw08_MarksJoins.walk (P : quarrylaw08_MarksJoins.Pure) (a0 : ByteArray) (a1 : ByteArray) (w : World) (hT : TabOk w) (w0 : a0.size ≤ 1048576) (w1 : a1.size ≤ 1048576) :
    Calls Tryd.prog 12 #[.string a0, .string a1] w fun e w' => e = .returned (.bool true) ∧ Below w.heap.size w w' :=
  quarrylaw08_MarksJoins.calls a0 a1 true w hT (P a0 a1 w0 w1)
end


end Go.Proofs.YtgddljealeklkaaDoor.PJ
end
-- PureMarksJoins
section
namespace Go.Proofs.YtgddljealeklkaaDoor.Pure
open Go Go.RowKit Go.Proofs.YtgddljealeklkaaDoor.PJ Go.Proofs.YtgddljealeklkaaDoorW.PrintWords Go.Proofs.YtgddljealeklkaaDoorW.PrintLast Go.Proofs.YtgddljealeklkaaDoorQ
set_option linter.unusedVariables false
set_option linter.unusedSimpArgs false
theorem MarksJoins (s t : ByteArray) (hn : s.size + t.size ≤ 1048576) : quarrylaw08_MarksJoins.f s t = some true := by
  unfold quarrylaw08_MarksJoins.f
  rw [if_pos hn]

end Go.Proofs.YtgddljealeklkaaDoor.Pure
end
namespace Go.Proofs.YtgddljealeklkaaDoor.marksJoins
open Go.ChangeShapes Go.WideShapes Go.ChangeAt Go.RowKit
open Go.ChangeMaps (open_string shut_string)
set_option linter.unusedVariables false
set_option linter.unusedSimpArgs false
theorem own : ownKnob Tryd.prog.godebug = none := by kernel_rfl
theorem gTab : Tryd.prog.globalNamed "math/bits.deBruijn64tab" = some 0 := by kernel_rfl
theorem gTabType : (Tryd.prog.globals[0]?).map (·.type) = some 85 := by kernel_rfl
theorem cellsTab : Tryd.prog.cellsOf 85 = 64 := by kernel_rfl
theorem cellsByte : Tryd.prog.cellsOf 5 = 1 := by kernel_rfl
def tabZ : List Int := [0, 1, 56, 2, 57, 49, 28, 3, 61, 58, 42, 50, 38, 29, 17, 4, 62, 47, 59, 36, 45, 43, 51, 22, 53, 39, 33, 30, 24, 18, 12, 5, 63, 55, 48, 27, 60, 41, 37, 16, 46, 35, 44, 21, 52, 32, 23, 11, 54, 26, 40, 15, 34, 20, 31, 10, 25, 14, 19, 9, 13, 8, 7, 6]
theorem table {W : World} (h : laidMetH Tryd.prog Rows.marksJoinsUptoRow.laid W) : Lib.TabIs Tryd.prog W "math/bits.deBruijn64tab" .u8 tabZ :=
  Lib.tabIs_of_head (rest := []) gTab gTabType Tryd.underlying85 Tryd.underlying5 cellsByte cellsTab h
theorem tab_eq : ∀ j, j < 64 → tabZ.getD j 0 = ((Lib.deBruijn64tab.getD j 0 : Nat) : Int) := by decide
theorem tabOk {W : World} (h : laidMetH Tryd.prog Rows.marksJoinsUptoRow.laid W) : Go.Proofs.YtgddljealeklkaaDoorM.TabOk W := ⟨fun j hj => by
  have h64 : j < 64 := hj
  rw [(table h).cell gTab j h64, tab_eq j h64]⟩
noncomputable def laidWorld (os : Os) : World :=
  { World.holding Tryd.prog os ⟨#[], #[], []⟩ with heap := (World.holding Tryd.prog os ⟨#[], #[], []⟩).heap.modify 0 fun
      | .cells _ t frozen => .cells #[.int .u8 0, .int .u8 1, .int .u8 56, .int .u8 2, .int .u8 57, .int .u8 49, .int .u8 28, .int .u8 3, .int .u8 61, .int .u8 58, .int .u8 42, .int .u8 50, .int .u8 38, .int .u8 29, .int .u8 17, .int .u8 4, .int .u8 62, .int .u8 47, .int .u8 59, .int .u8 36, .int .u8 45, .int .u8 43, .int .u8 51, .int .u8 22, .int .u8 53, .int .u8 39, .int .u8 33, .int .u8 30, .int .u8 24, .int .u8 18, .int .u8 12, .int .u8 5, .int .u8 63, .int .u8 55, .int .u8 48, .int .u8 27, .int .u8 60, .int .u8 41, .int .u8 37, .int .u8 16, .int .u8 46, .int .u8 35, .int .u8 44, .int .u8 21, .int .u8 52, .int .u8 32, .int .u8 23, .int .u8 11, .int .u8 54, .int .u8 26, .int .u8 40, .int .u8 15, .int .u8 34, .int .u8 20, .int .u8 31, .int .u8 10, .int .u8 25, .int .u8 14, .int .u8 19, .int .u8 9, .int .u8 13, .int .u8 8, .int .u8 7, .int .u8 6] t frozen
      | o => o }
theorem laid_met (os : Os) : laidMet Tryd.prog Rows.marksJoinsUptoRow.laid ((laidWorld os).forCall (fun _ _ => 0) ⟨#[], #[.string ByteArray.empty, .string ByteArray.empty], []⟩).memory :=
  laidMet_of_run' 8 (by kernel_rfl) (by kernel_rfl)
theorem reads (os : Os) {H : Type} (enc : TypeId × Value → H) : ∃ places, DataW.whole enc Tryd.prog ((laidWorld os).forCall (fun _ _ => 0) ⟨#[], #[.string ByteArray.empty, .string ByteArray.empty], []⟩).memory Tryd.f12.params.toList Rows.marksJoinsSpec.vars false (#[.string ByteArray.empty, .string ByteArray.empty] : Array Value).toList 8 = some ([.lit (.string []), .lit (.string [])], [], places) :=
  ⟨[], by kernel_rfl⟩
set_option maxRecDepth 100000 in
theorem lifted (os : Os) (started : os.Started) (H : Type) (enc : TypeId × Value → H) (F : Stop.Interp) :
    ReturnsInHanded {} Tryd.checked os 12 .any ((Rows.OpenSpec.upto Rows.marksJoinsSpec).preRow enc Tryd.prog Tryd.f12 Rows.marksJoinsUptoRow.domain false Rows.marksJoinsUptoRow.laid) (((Rows.OpenSpec.upto Rows.marksJoinsSpec).at F).post enc Tryd.prog Tryd.f12 false true false false) := by
  obtain ⟨places, hx⟩ := reads os enc
  refine returnsInHanded_of_row (C := Tryd.checked) (s := Rows.OpenSpec.upto Rows.marksJoinsSpec) own started (by kernel_rfl) Tryd.func12
    (witness_row_at (enc := enc) (C := Tryd.checked) false (laidWorld os) #[.string ByteArray.empty, .string ByteArray.empty] rfl (by kernel_rfl) (by kernel_rfl) (by kernel_rfl)
      (OpenSpec.preRow_of_cond 8 hx (by kernel_rfl) (fun k hk => by cases hk; kernel_rfl) (by kernel_rfl) (laid_met os))) ?_
  intro W base args ds gs before hval0 hW hcnd hk0 hsz0 hL _ _
  have hsz : (DataW.weightsEach Tryd.prog (Tryd.f12.params.toList ++ Rows.marksJoinsSpec.plain.varTypes Tryd.prog) (ds ++ gs)).all (· ≤ reachBytes) = true := hsz0
  have hval : ∀ (j : Nat) t v, Tryd.f12.params[j]? = some t → args[j]? = some v → Value.okWide Tryd.prog W .any base t v := hval0
  have hW' := hW
  obtain ⟨p, q, hA0, hV, rfl, hfz, hnd⟩ := hW
  have hA : DataW.TrodAll enc Tryd.prog W 0 (fun _ => true) true Tryd.f12.params.toList args.toList ds p := hA0
  rw [Tryd.params12] at hA hval hsz
  obtain ⟨v0, vs0, d0, ds0, p0, q0, hargs, rfl, rfl, h0, r0⟩ := trodAll_cons hA
  obtain ⟨v1, vs1, d1, ds1, p1, q1, rfl, rfl, rfl, h1, r1⟩ := trodAll_cons r0
  obtain ⟨rfl, rfl, rfl⟩ := trodAll_nil r1
  obtain rfl : args = #[v0, v1] := by cases args; simp_all
  obtain ⟨rfl, rfl⟩ := trodVars_none hV
  obtain ⟨a0, rfl, rfl, rfl, y0⟩ := open_string Tryd.underlying9 (hval 0 9 v0 rfl rfl) h0
  have w0 : a0.size ≤ 140737488351232 := by
    have z := sized_string hsz (j := 0) (t := 9) rfl rfl
    rw [Array.length_toList] at z
    exact z
  obtain ⟨a1, rfl, rfl, rfl, y1⟩ := open_string Tryd.underlying9 (hval 1 9 v1 rfl rfl) h1
  have w1 : a1.size ≤ 140737488351232 := by
    have z := sized_string hsz (j := 1) (t := 9) rfl rfl
    rw [Array.length_toList] at z
    exact z
  clear hA0 hval0 hsz0 hsz
  have hk1 : Rows.uptoBulkAll _ ≤ 1048576 := of_decide_eq_true (hk0 _ rfl)
  simp only [Rows.uptoBulkAll, Rows.uptoBulk, List.append_nil, List.nil_append, List.cons_append] at hk1
  have e0_ : a0.data.toList.length = a0.size := by rw [Array.length_toList]; rfl
  have e1_ : a1.data.toList.length = a1.size := by rw [Array.length_toList]; rfl
  have s0_ : a0.size ≤ 1048576 := by omega
  have s1_ : a1.size ≤ 1048576 := by omega
  have s_ : a0.size + a1.size ≤ 1048576 := by omega
  have hk := Pure.MarksJoins a0 a1 s_
  refine (PJ.quarrylaw08_MarksJoins.calls a0 a1 true W (tabOk hL) hk).mono fun e W' ⟨he, bel⟩ => ?_
  subst he
  exact ⟨_, rfl, _, _, _, [], _, [], hW', trodAll_mk1 (shut_bool Tryd.underlying4 _), (trodAll_cons_mk (shut_string Tryd.underlying9 y0) (trodAll_cons_mk (shut_string Tryd.underlying9 y1) trodAll_mk0)), rfl, bel.frame _, fun h => by cases h⟩
theorem over : Rows.marksJoinsUptoRow.holds Tryd.pinned (Rows.OpenSpec.upto Rows.marksJoinsSpec) :=
  OpenClaim.holds_of_cond 12 Tryd.f12 rfl rfl rfl rfl rfl rfl rfl ⟨rfl, rfl, rfl, rfl, rfl⟩ rfl rfl rfl rfl rfl (by kernel_rfl) Tryd.func12 (by kernel_rfl)
    (of_decide_eq_true (by kernel_rfl)) (by unfold Func.isWrapper; first | (rw [if_pos (by decide +kernel)]; kernel_rfl) | (rw [if_neg (by decide +kernel)]; exact ⟨rfl, rfl⟩))
    (fun os started H enc _ F => by rw [OpenClaim.pre_eq_preRow]; exact lifted os started H enc F)
theorem said : Rows.MarksJoinsUptoSaid := over
theorem plain (f : FuncId) (fn : Func) (hf : Tryd.pinned.checked.prog.funcNamed "quarry/quarrylaw08.MarksJoins" = some f) (hfn : Tryd.pinned.checked.prog.funcs[f]? = some fn) :
    false = Tryd.pinned.checked.prog.looks [] ∧ ∀ (j : Nat) t, fn.params[j]? = some t → Tryd.pinned.checked.prog.wantsStandIn t = false := by
  obtain rfl : f = 12 := Option.some.inj ((show Tryd.prog.funcNamed "quarry/quarrylaw08.MarksJoins" = some 12 by kernel_rfl).symm.trans hf) |>.symm
  obtain rfl : fn = Tryd.f12 := (Option.some.inj (Tryd.func12.symm.trans hfn)).symm
  refine ⟨by kernel_rfl, fun j t ht => ?_⟩
  rw [Tryd.params12] at ht
  have hm := Array.mem_of_getElem? ht
  simp only [List.mem_toArray, List.mem_cons, List.not_mem_nil, or_false] at hm
  rcases hm with rfl | rfl
  · exact (show Tryd.prog.wantsStandIn 9 = false by kernel_rfl)
  · exact (show Tryd.prog.wantsStandIn 9 = false by kernel_rfl)
theorem card : Rows.MarksJoinsUptoCardSaid :=
  Claim7.holds_tied_plain_at .later [] _ _ _ _ said (fun _ h => by cases h) (by kernel_rfl) (fun _ h => by cases h) marksJoinsUpto_row_tie rfl ⟨rfl, rfl⟩ (by kernel_rfl) rfl plain (by kernel_rfl)
#print axioms card
end Go.Proofs.YtgddljealeklkaaDoor.marksJoins
namespace Go.Proofs.YtgddljealeklkaaDoor
/-- The card, under a short name, for the claim. -/
theorem marksJoins_holds : Rows.MarksJoinsUptoCardSaid := marksJoins.card
end Go.Proofs.YtgddljealeklkaaDoor
