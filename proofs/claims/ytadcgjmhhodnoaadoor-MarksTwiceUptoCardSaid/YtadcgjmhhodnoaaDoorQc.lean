/-
  Plain facts on which bytes a backslash escapes: byte by byte, and 64 at one time (words.Escaped: what is taken away borrows up to a row's end). No program in sight.
-/
import Derived.Test.YtadcgjmhhodnoaaDoorQa
import Derived.Test.YtadcgjmhhodnoaaDoorWWords
namespace Go.Proofs.YtadcgjmhhodnoaaDoorQ
open Go Go.RowKit Go.Proofs.YtadcgjmhhodnoaaDoorW.PrintWords

/-- Is the byte at a place escaped, the first one being so or not. -/
def esc (s : ByteArray) (first : Bool) : Nat → Bool
  | 0 => first
  | i + 1 => decide (bt s (i : Int) = 92) && !esc s first i
/-- The same of any row of bits. -/
def escW (q : Nat → Bool) (c : Bool) : Nat → Bool
  | 0 => c
  | i + 1 => q i && !escW q c i
theorem esc_escW (s : ByteArray) (f : Bool) : ∀ i, esc s f i = escW (fun i => decide (bt s (i : Int) = 92)) f i
  | 0 => rfl
  | i + 1 => by simp only [esc, escW, esc_escW s f i]
theorem escW_congr {q r : Nat → Bool} (c : Bool) : ∀ n, (∀ i, i < n → q i = r i) → escW q c n = escW r c n
  | 0, _ => rfl
  | n + 1, h => by simp only [escW, h n (by omega), escW_congr c n fun i hi => h i (by omega)]
theorem escW_add (q : Nat → Bool) (c : Bool) (m : Nat) : ∀ n, escW q c (m + n) = escW (fun i => q (m + i)) (escW q c m) n
  | 0 => rfl
  | n + 1 => by
    have : escW q c (m + (n + 1)) = (q (m + n) && !escW q c (m + n)) := rfl
    rw [this, escW_add q c m n]
    rfl
/-- Where no bit is set and nothing is carried, nothing is escaped. -/
theorem escW_none {q : Nat → Bool} : ∀ n, (∀ i, i < n → q i = false) → escW q false n = false
  | 0, _ => rfl
  | n + 1, h => by simp [escW, h n (by omega)]

/-- Every second bit from 1 on. -/
def oddsW : BitVec 64 := 12297829382473034410#64
theorem odds_bit : ∀ i, i < 64 → oddsW.getLsbD i = decide (i % 2 = 1) := by decide

/-- What begins a row: set, and not escaped itself. -/
def begW (q : Nat → Bool) (c : Bool) (i : Nat) : Bool := q i && !(decide (i = 0) && c)
/-- From what is taken away. -/
def frmW (q : Nat → Bool) (c : Bool) (i : Nat) : Bool := decide (i % 2 = 1) || (decide (0 < i) && begW q c (i - 1))
/-- What is borrowed. -/
def borW (q : Nat → Bool) (c : Bool) : Nat → Bool
  | 0 => false
  | i + 1 => (!frmW q c i && (begW q c i || borW q c i)) || (begW q c i && borW q c i)
/-- What is borrowed tells what is escaped. -/
theorem borW_esc (q : Nat → Bool) (c : Bool) : ∀ i, borW q c (i + 1) = (escW q c (i + 1) ^^ (decide ((i + 1) % 2 = 0) && begW q c i))
  | 0 => by
    simp only [borW, frmW, begW, escW]
    cases q 0 <;> cases c <;> simp
  | i + 1 => by
    have ih := borW_esc q c i
    have e : escW q c (i + 1 + 1) = (q (i + 1) && !escW q c (i + 1)) := rfl
    have e1 : escW q c (i + 1) = (q i && !escW q c i) := rfl
    have eb : begW q c (i + 1) = q (i + 1) := by simp [begW]
    have hb : begW q c i = false → escW q c (i + 1) = false := by
      intro h
      cases i with
      | zero =>
        simp only [begW, escW] at h ⊢
        revert h
        cases q 0 <;> cases c <;> simp
      | succ i =>
        simp only [begW, e1] at h ⊢
        simp at h
        simp [h]
    rw [borW, ih, e, eb]
    have hf : frmW q c (i + 1) = (decide ((i + 1) % 2 = 1) || begW q c i) := by simp [frmW]
    rw [hf]
    revert hb
    rcases Nat.mod_two_eq_zero_or_one (i + 1) with h | h
    · simp only [h, show (i + 1 + 1) % 2 = 1 by omega]
      cases begW q c i <;> cases q (i + 1) <;> cases escW q c (i + 1) <;> simp
    · simp only [h, show (i + 1 + 1) % 2 = 0 by omega]
      cases begW q c i <;> cases q (i + 1) <;> cases escW q c (i + 1) <;> simp
theorem beg_word (q : Nat → Bool) (c : Bool) : word q &&& ~~~(if c then 1#64 else 0#64) = word (begW q c) := by
  apply eq_word
  intro i hi
  rw [BitVec.getLsbD_and, BitVec.getLsbD_not, word_bit]
  cases c
  · simp [begW, hi]
  · simp [begW, hi]
theorem frm_word (q : Nat → Bool) (c : Bool) : (word (begW q c) <<< 1) ||| oddsW = word (frmW q c) := by
  apply eq_word
  intro i hi
  rw [BitVec.getLsbD_or, BitVec.getLsbD_shiftLeft, odds_bit i hi, word_bit]
  unfold frmW
  by_cases h : 0 < i
  · simp [hi, h, show ¬ i < 1 by omega, show i - 1 < 64 by omega, Bool.or_comm]
  · simp [hi, show i < 1 by omega, h]
theorem sub_word (q : Nat → Bool) (c : Bool) : word (frmW q c) - word (begW q c) = word (fun i => frmW q c i ^^ (begW q c i ^^ borW q c i)) := by
  have hc : ∀ i, i ≤ 64 → BitVec.carry i (word fun i => frmW q c i ^^ (begW q c i ^^ borW q c i)) (word (begW q c)) false = borW q c i := by
    intro i
    induction i with
    | zero => intro _; simp [BitVec.carry_zero, borW]
    | succ i ih =>
      intro hi
      rw [BitVec.carry_succ, ih (by omega), word_bit, word_bit, borW]
      simp only [show i < 64 by omega, decide_true, Bool.true_and, Bool.atLeastTwo]
      cases frmW q c i <;> cases begW q c i <;> cases borW q c i <;> rfl
  have hs : (word fun i => frmW q c i ^^ (begW q c i ^^ borW q c i)) + word (begW q c) = word (frmW q c) := by
    apply eq_word
    intro i hi
    rw [BitVec.getLsbD_add hi, hc i (by omega), word_bit, word_bit]
    simp only [hi, decide_true, Bool.true_and]
    cases frmW q c i <;> cases begW q c i <;> cases borW q c i <;> rfl
  rw [← hs, BitVec.add_sub_cancel]
/-- The 64 places at one time. -/
theorem escaped_word (q : Nat → Bool) (c : Bool) :
    ((((word q &&& ~~~(if c then 1#64 else 0#64)) <<< 1) ||| oddsW) - (word q &&& ~~~(if c then 1#64 else 0#64))) ^^^ oddsW ^^^ (word q ||| (if c then 1#64 else 0#64)) = word (escW q c) := by
  rw [beg_word, frm_word, sub_word]
  apply eq_word
  intro i hi
  rw [BitVec.getLsbD_xor, BitVec.getLsbD_xor, BitVec.getLsbD_or, word_bit, word_bit, odds_bit i hi]
  simp only [hi, decide_true, Bool.true_and]
  cases i with
  | zero => cases c <;> simp [frmW, begW, borW, escW]
  | succ i =>
    have h1 : ((if c then 1#64 else 0#64) : BitVec 64).getLsbD (i + 1) = false := by cases c <;> simp
    rw [h1, borW_esc]
    have eb : begW q c (i + 1) = q (i + 1) := by simp [begW]
    have hf : frmW q c (i + 1) = (decide ((i + 1) % 2 = 1) || begW q c i) := by simp [frmW]
    rw [eb, hf]
    rcases Nat.mod_two_eq_zero_or_one (i + 1) with h | h
    · simp only [h]
      cases begW q c i <;> cases q (i + 1) <;> cases escW q c (i + 1) <;> simp
    · simp only [h]
      cases begW q c i <;> cases q (i + 1) <;> cases escW q c (i + 1) <;> simp
/-- What is carried on. -/
theorem escaped_carry (q : Nat → Bool) (c : Bool) :
    (((((((word q &&& ~~~(if c then 1#64 else 0#64)) <<< 1) ||| oddsW) - (word q &&& ~~~(if c then 1#64 else 0#64))) ^^^ oddsW) &&& word q) >>> 63 != 0#64) = escW q c 64 := by
  rw [beg_word, frm_word, sub_word]
  have h : ∀ v : BitVec 64, (v >>> 63 != 0#64) = v.getLsbD 63 := by
    intro v
    rw [Bool.eq_iff_iff]
    simp only [bne_iff_ne, ne_eq]
    constructor
    · intro hv
      cases hb : v.getLsbD 63 with
      | true => rfl
      | false =>
        exfalso
        apply hv
        apply BitVec.eq_of_getLsbD_eq
        intro i hi
        rw [BitVec.getLsbD_ushiftRight]
        by_cases h0 : i = 0
        · subst h0
          simpa using hb
        · rw [BitVec.getLsbD_of_ge _ _ (by omega)]
          simp
    · intro hb hv
      have := congrArg (fun w => w.getLsbD 0) hv
      simp at this
      simp at hb
      rw [hb] at this
      cases this
  rw [h, BitVec.getLsbD_and, BitVec.getLsbD_xor, word_bit, word_bit, odds_bit 63 (by decide), borW_esc]
  have eb : begW q c 63 = q 63 := by simp [begW]
  have hf : frmW q c 63 = true := by simp [frmW]
  have he : escW q c 64 = (q 63 && !escW q c 63) := rfl
  rw [eb, hf, he]
  cases q 63 <;> cases escW q c (62 + 1) <;> simp

/-- The bytes of a text from a place on, filled up. -/
def cutF (s : ByteArray) (at_ pad : Int) (i : Nat) : Int := if 0 ≤ at_ ∧ at_ + i < s.size then bt s (at_ + i) else pad
/-- How many of them are the text's. -/
def cutN (s : ByteArray) (at_ : Int) : Int := if at_ < 0 ∨ (s.size : Int) ≤ at_ then 0 else if 64 ≤ (s.size : Int) - at_ then 64 else (s.size : Int) - at_
theorem cutF_range (s : ByteArray) (at_ pad : Int) (h : 0 ≤ pad ∧ pad < 256) (i : Nat) : 0 ≤ cutF s at_ pad i ∧ cutF s at_ pad i < 256 := by
  unfold cutF
  split
  · have := bt_range s (at_ + i)
    omega
  · exact h
/-- A text's byte, or what it is filled up with. -/
def byteX (s : ByteArray) (pad : Int) (i : Nat) : Int := if i < s.size then bt s (i : Int) else pad
theorem cutF_byteX (s : ByteArray) (pad : Int) (x j : Nat) : cutF s (64 * (x : Int)) pad j = byteX s pad (64 * x + j) := by
  unfold cutF byteX
  by_cases h : 64 * x + j < s.size
  · rw [if_pos (by omega), if_pos h]
    congr 1
  · rw [if_neg (by omega), if_neg h]

/-- One block: what is carried, the words. -/
def stepE (s : ByteArray) (st : Bool × List Int) (x : Nat) : Bool × List Int :=
  (escW (fun j => decide (cutF s (64 * (x : Int)) 32 j = 92)) st.1 64, st.2 ++ [iv (word fun j => decide (64 * x + j < s.size) && escW (fun j => decide (cutF s (64 * (x : Int)) 32 j = 92)) st.1 j)])
def foldE (s : ByteArray) {n : Nat} (pre : List (Fin n)) : Bool × List Int := pre.foldl (fun st x => stepE s st x.val) (false, [])
theorem foldE_snoc (s : ByteArray) {n : Nat} (pre : List (Fin n)) (x : Fin n) : foldE s (pre ++ [x]) = stepE s (foldE s pre) x.val := by
  unfold foldE
  rw [List.foldl_append]
  rfl
theorem foldE_length (s : ByteArray) {n : Nat} (pre : List (Fin n)) : (foldE s pre).2.length = pre.length := by
  suffices ∀ (l : List (Fin n)) (st : Bool × List Int), (l.foldl (fun st x => stepE s st x.val) st).2.length = st.2.length + l.length by
    have := this pre (false, [])
    simpa [foldE] using this
  intro l
  induction l with
  | nil => intro st; rfl
  | cons x l ih => intro st; rw [List.foldl_cons, ih]; simp [stepE]; omega
theorem foldE_take (s : ByteArray) (n : Nat) : ∀ k, k ≤ n → foldE s ((List.finRange n).take k) =
    (escW (fun i => decide (byteX s 32 i = 92)) false (64 * k), (List.range k).map fun k => iv (wordAt s.size (escW (fun i => decide (byteX s 32 i = 92)) false) k))
  | 0, _ => rfl
  | k + 1, h => by
    rw [finRange_take n k (by omega), foldE_snoc, foldE_take s n k (by omega)]
    have hq : (fun j => decide (cutF s (64 * (k : Int)) 32 j = 92)) = fun j => decide (byteX s 32 (64 * k + j) = 92) := funext fun j => by rw [cutF_byteX]
    unfold stepE
    simp only [hq]
    refine Prod.ext ?_ ?_
    · dsimp only
      rw [Nat.mul_succ, escW_add]
    · have e : wordAt s.size (escW (fun i => decide (byteX s 32 i = 92)) false) k = word (fun j => decide (64 * k + j < s.size) && escW (fun j => decide (byteX s 32 (64 * k + j) = 92)) (escW (fun i => decide (byteX s 32 i = 92)) false (64 * k)) j) :=
        word_ext fun j _ => by rw [escW_add]
      dsimp only
      rw [List.range_succ, List.map_append, List.map_cons, List.map_nil, e]
/-- All blocks, in order: the row of what is escaped. -/
theorem foldE_all (s : ByteArray) : (foldE s (List.finRange (nwords s.size))).2 = wordsOf s.size (esc s false) := by
  have h := foldE_take s (nwords s.size) (nwords s.size) (Nat.le_refl _)
  rw [List.take_of_length_le (by rw [List.length_finRange]; exact Nat.le_refl _)] at h
  rw [h]
  show wordsOf s.size _ = _
  apply wordsOf_ext
  intro i hi
  rw [esc_escW]
  apply escW_congr
  intro j hj
  unfold byteX
  rw [if_pos (by omega)]
/-- A block without backslashes, nothing carried: the word 0, nothing carried on. -/
theorem zero_step (s : ByteArray) (st : Bool × List Int) (x : Nat) {q : Nat → Bool} (hq : q = fun j => decide (cutF s (64 * (x : Int)) 32 j = 92)) (h0 : iv (word q) = 0) (hc : st.1 = false) :
    (stepE s st x).1 = false ∧ (stepE s st x).2 = st.2 ++ [0] := by
  have hw : ∀ i, i < 64 → q i = false := by
    intro i hi
    have e : word q = 0#64 := iv_inj.1 (h0.trans (by decide))
    have := word_bit q i
    rw [e] at this
    simpa [hi] using this.symm
  unfold stepE
  rw [← hq, hc]
  refine ⟨escW_none 64 hw, ?_⟩
  have : (word fun j => decide (64 * x + j < s.size) && escW q false j) = 0#64 := by
    apply BitVec.eq_of_getLsbD_eq
    intro i hi
    rw [word_bit, escW_none i fun k hk => hw k (by omega)]
    simp
  rw [this]
  rfl
/-- A block that lies in the text. -/
theorem full_step (s : ByteArray) (st : Bool × List Int) (x : Nat) {q : Nat → Bool} {c : Bool} (hq : q = fun j => decide (cutF s (64 * (x : Int)) 32 j = 92)) (hc : c = st.1) (hf : 64 * x + 64 ≤ s.size) :
    stepE s st x = (escW q c 64, st.2 ++ [iv (word (escW q c))]) := by
  have e : (word fun j => decide (64 * x + j < s.size) && escW q c j) = word (escW q c) := word_ext fun j hj => by
    rw [decide_eq_true (by omega), Bool.true_and]
  unfold stepE
  rw [← hq, ← hc, e]
/-- The bits below a place. -/
theorem mask_int (left : Nat) (h : left < 64) : IntKind.u64.wrap (IntKind.u64.wrap (2 ^ left) - 1) = iv (BitVec.ofNat 64 (2 ^ left - 1)) := by
  have hp : 2 ^ left < 2 ^ 64 := Nat.pow_lt_pow_right (by omega) h
  have h1 : 0 < 2 ^ left := Nat.pow_pos (by omega)
  have e : (2 : Int) ^ left = ((2 ^ left : Nat) : Int) := by rw [Int.natCast_pow]; rfl
  rw [e, wrap_nat, Nat.mod_eq_of_lt (by omega), show ((2 ^ left : Nat) : Int) - 1 = ((2 ^ left - 1 : Nat) : Int) by omega, wrap_nat, Nat.mod_eq_of_lt (by omega)]
  unfold iv
  rw [BitVec.toNat_ofNat, Nat.mod_eq_of_lt (by omega)]
theorem mask_word (p : Nat → Bool) (left : Nat) (h : left < 64) :
    bits .and .u64 (iv (word p)) (IntKind.u64.wrap (IntKind.u64.wrap (2 ^ left) - 1)) = iv (word fun j => decide (j < left) && p j) := by
  rw [mask_int left h, bits_and]
  congr 1
  apply eq_word
  intro i hi
  rw [BitVec.getLsbD_and, word_bit, BitVec.getLsbD_ofNat, Nat.testBit_two_pow_sub_one]
  simp only [hi, decide_true, Bool.true_and]
  rw [Bool.and_comm]
/-- A block that reaches beyond the text. -/
theorem part_step (s : ByteArray) (st : Bool × List Int) (x : Nat) {q : Nat → Bool} {c : Bool} (hq : q = fun j => decide (cutF s (64 * (x : Int)) 32 j = 92)) (hc : c = st.1) (hx : 64 * x < s.size) (hf : s.size < 64 * x + 64) :
    stepE s st x = (escW q c 64, st.2 ++ [bits .and .u64 (iv (word (escW q c))) (IntKind.u64.wrap (IntKind.u64.wrap (2 ^ (s.size - 64 * x)) - 1))]) := by
  have e : (word fun j => decide (64 * x + j < s.size) && escW q c j) = word fun j => decide (j < s.size - 64 * x) && escW q c j := word_ext fun j hj => by
    congr 1
    rw [decide_eq_decide]
    omega
  unfold stepE
  rw [← hq, ← hc, e, mask_word _ _ (by omega)]
end Go.Proofs.YtadcgjmhhodnoaaDoorQ
