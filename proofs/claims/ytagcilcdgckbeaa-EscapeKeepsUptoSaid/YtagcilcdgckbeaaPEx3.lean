-- Written by a program (myprint.py, over the kit's print) for this claim. Not trusted: Lean checks it.
import Derived.Test.YtagcilcdgckbeaaPEx0
import Derived.Test.YtagcilcdgckbeaaPEx1
import Derived.Test.YtagcilcdgckbeaaPEx2
namespace Go.Proofs.Ytagcilcdgckbeaa.PE
open Go.RowKit Go.Proofs.YtagcilcdgckbeaaW.PrintWords Go.Proofs.YtagcilcdgckbeaaW.PrintLast Go.Proofs.YtagcilcdgckbeaaW.PrintMore
attribute [local go_sem] max2_int min2_int max_two min_two max_three min_three max_four min_four   -- for this text's walks alone
set_option linter.unusedVariables false
set_option linter.unusedSimpArgs false

/-! ### quarrylaw06_EscapeKeeps: function 3 -/
section
open Go.Proofs.YtagcilcdgckbeaaQ Go.Proofs.YtagcilcdgckbeaaM
namespace EkF
theorem ek_same_loop (l : List Int) (a b : Int) (hl : l.length ≤ 140737488355328) : ∀ (d i k : Nat), i + d = l.length → d < k → quarryref00_SameBits.l0 k (i : Int) a l b l = some true := by
  intro d
  induction d with
  | zero =>
    intro i k hi hk
    obtain ⟨k, rfl⟩ : ∃ m, k = m + 1 := ⟨k - 1, by omega⟩
    unfold quarryref00_SameBits.l0
    rw [if_neg (by omega)]
  | succ d ih =>
    intro i k hi hk
    obtain ⟨k, rfl⟩ : ∃ m, k = m + 1 := ⟨k - 1, by omega⟩
    have e : wrap64 ((i : Int) + 1) = ((i + 1 : Nat) : Int) := by unfold wrap64; omega
    unfold quarryref00_SameBits.l0
    rw [if_pos (by omega), if_pos (by omega), if_pos (by omega), if_pos rfl, e, ih (i + 1) k (by omega) (by omega)]
/-- A bitmap is the same as itself. -/
theorem ek_same_refl (n : Int) (l : List Int) (hl : l.length ≤ 140737488355328) (k : Nat) (hk : l.length + 1 < k) : quarryref00_SameBits.f k n l n l = some true := by
  obtain ⟨k, rfl⟩ : ∃ m, k = m + 1 := ⟨k - 1, by omega⟩
  unfold quarryref00_SameBits.f
  rw [if_pos rfl]
  simp only [quarryref00_SameBits.j0, bne_self_eq_false, Bool.false_eq_true, if_false]
  exact ek_same_loop l n n hl l.length 0 k (by omega) (by omega)
theorem ek_div_step (v : BitVec 64) (d : Nat) : v.toNat / 2 ^ d = 2 * (v.toNat / 2 ^ (d + 1)) + (if v.getLsbD d = true then 1 else 0) := by
  have h1 : v.toNat / 2 ^ (d + 1) = v.toNat / 2 ^ d / 2 := by rw [Nat.pow_succ, Nat.div_div_eq_div_mul]
  have h2 : v.getLsbD d = decide (v.toNat / 2 ^ d % 2 = 1) := by
    show v.toNat.testBit d = _
    rw [Nat.testBit_eq_decide_div_mod_eq]
  rw [h1, h2]
  by_cases h : v.toNat / 2 ^ d % 2 = 1
  · rw [decide_eq_true h, if_pos rfl]; omega
  · rw [decide_eq_false h, if_neg (by decide)]; omega
theorem ek_need_eq (n : Nat) (h : n ≤ 140737488355328) : quarryref04_need.f (n : Int) = some ((nwords n : Nat) : Int) := by
  unfold quarryref04_need.f
  have e1 : Int.tmod (n : Int) 64 = ((n % 64 : Nat) : Int) := rfl
  have e2 : Int.tdiv (n : Int) 64 = ((n / 64 : Nat) : Int) := rfl
  have e3 : wrap64 ((n / 64 : Nat) : Int) = ((n / 64 : Nat) : Int) := by unfold wrap64; omega
  rw [e1, e2, e3]
  have e4 : wrap64 (((n / 64 : Nat) : Int) + 1) = ((n / 64 : Nat) : Int) + 1 := by unfold wrap64; omega
  rw [e4]
  unfold nwords
  by_cases h : n % 64 = 0
  · rw [if_pos (by omega)]; congr 1; omega
  · rw [if_neg (by omega)]; congr 1; omega
theorem ek_of_inner (l : List Bool) (w : Nat) (hw : w ≤ 2199023255552) (z : Int) (ws : List Int) (hs : ws.length < 17592186044416) :
    ∀ (d k : Nat), d ≤ 64 → quarryref04_Of.l1 (k + d + 1) l (w : Int) (((wordAt l.length (fun i => l.getD i false) w).toNat / 2 ^ d : Nat) : Int) ((d : Int) - 1) z ws =
      quarryref04_Of.l0 k l ((w + 1 : Nat) : Int) z (ws ++ [iv (wordAt l.length (fun i => l.getD i false) w)]) := by
  intro d
  induction d with
  | zero =>
    intro k hd
    have e : wrap64 ((w : Int) + 1) = ((w + 1 : Nat) : Int) := by unfold wrap64; omega
    unfold quarryref04_Of.l1
    rw [if_neg (by omega), if_pos hs, e, Nat.pow_zero, Nat.div_one]
    rfl
  | succ d ih =>
    intro k hd
    have e0 : wrap64 (64 * (w : Int)) = 64 * (w : Int) := by unfold wrap64; omega
    have e1 : wrap64 (64 * (w : Int) + (((d + 1 : Nat) : Int) - 1)) = ((64 * w + d : Nat) : Int) := by unfold wrap64; omega
    have e2 : wrap64 ((((d + 1 : Nat) : Int) - 1) - 1) = (d : Int) - 1 := by unfold wrap64; omega
    have hst := ek_div_step (wordAt l.length (fun i => l.getD i false) w) d
    have hlt : (wordAt l.length (fun i => l.getD i false) w).toNat / 2 ^ d < 18446744073709551616 := Nat.lt_of_le_of_lt (Nat.div_le_self _ _) (wordAt l.length (fun i => l.getD i false) w).isLt
    have hbit : (wordAt l.length (fun i => l.getD i false) w).getLsbD d = (decide (64 * w + d < l.length) && l.getD (64 * w + d) false) := by
      unfold wordAt
      rw [word_bit]
      simp [show d < 64 by omega]
    have hi := ih k (by omega)
    rw [hbit] at hst
    generalize (wordAt l.length (fun i => l.getD i false) w).toNat / 2 ^ d = X at hst hlt hi ⊢
    generalize (wordAt l.length (fun i => l.getD i false) w).toNat / 2 ^ (d + 1) = Y at hst ⊢
    have er : rdOf false l ((64 * w + d : Nat) : Int) = l.getD (64 * w + d) false := by unfold rdOf; rw [Int.toNat_natCast]
    show quarryref04_Of.l1 ((k + d + 1) + 1) l _ _ _ z ws = _
    unfold quarryref04_Of.l1
    rw [if_pos (by omega), e0, e1, e2, er]
    by_cases h : 64 * w + d < l.length
    · rw [if_pos (by omega), if_pos (by omega)]
      rw [decide_eq_true h, Bool.true_and] at hst
      by_cases g : l.getD (64 * w + d) false = true
      · rw [if_pos g] at hst ⊢
        have e3 : IntKind.u64.wrap (IntKind.u64.wrap (2 * (Y : Int)) + 1) = (X : Int) := by rw [IntKind.wrap_u64, IntKind.wrap_u64]; omega
        rw [e3]
        exact hi
      · rw [if_neg g] at hst ⊢
        have e3 : IntKind.u64.wrap (2 * (Y : Int)) = (X : Int) := by rw [IntKind.wrap_u64]; omega
        rw [e3]
        exact hi
    · rw [if_neg (by omega)]
      rw [decide_eq_false h, Bool.false_and, if_neg (by decide)] at hst
      have e3 : IntKind.u64.wrap (2 * (Y : Int)) = (X : Int) := by rw [IntKind.wrap_u64]; omega
      rw [e3]
      exact hi
theorem ek_of_loop (l : List Bool) (hl : l.length ≤ 140737488355328) (z : Int) :
    ∀ (d i k : Nat), i + d = nwords l.length → 66 * d < k → quarryref04_Of.l0 k l (i : Int) z ((List.range i).map fun j => iv (wordAt l.length (fun i => l.getD i false) j)) = some (z, wordsOf l.length fun i => l.getD i false) := by
  have hw : nwords l.length ≤ 2199023255552 := by unfold nwords; omega
  intro d
  induction d with
  | zero =>
    intro i k hi hk
    obtain ⟨k, rfl⟩ : ∃ m, k = m + 1 := ⟨k - 1, by omega⟩
    unfold quarryref04_Of.l0
    rw [ek_need_eq _ hl, Option.bind_some, if_neg (by omega), show i = nwords l.length by omega]
    rfl
  | succ d ih =>
    intro i k hi hk
    obtain ⟨k, rfl⟩ : ∃ m, k = (m + 64 + 1) + 1 := ⟨k - 66, by omega⟩
    unfold quarryref04_Of.l0
    rw [ek_need_eq _ hl, Option.bind_some, if_pos (by omega)]
    have := ek_of_inner l i (by omega) z ((List.range i).map fun j => iv (wordAt l.length (fun i => l.getD i false) j)) (by rw [List.length_map, List.length_range]; omega) 64 k (by omega)
    have e : (wordAt l.length (fun i => l.getD i false) i).toNat / 2 ^ 64 = 0 := Nat.div_eq_of_lt (wordAt l.length (fun i => l.getD i false) i).isLt
    rw [e] at this
    have h2 := ih (i + 1) k (by omega) (by omega)
    rw [List.range_succ, List.map_append] at h2
    exact this.trans h2
/-- The document's Of: the bits of a list, 64 in a word. -/
theorem ek_of_eq (l : List Bool) (hl : l.length ≤ 140737488355328) (k : Nat) (hk : 66 * nwords l.length < k) : quarryref04_Of.f k l = some ((l.length : Int), wordsOf l.length fun i => l.getD i false) := by
  unfold quarryref04_Of.f
  exact ek_of_loop l hl _ (nwords l.length) 0 k (by omega) (by omega)
theorem ek_is_loop (s : ByteArray) (f : Bool) (hn : s.size ≤ 140737488351232) :
    ∀ (d i k : Nat), i + d = s.size → d < k → quarryref06_Is.l0 k s ((List.range (i + 1)).map (esc s f)) (i : Int) = some ((List.range (s.size + 1)).map (esc s f)) := by
  intro d
  induction d with
  | zero =>
    intro i k hi hk
    obtain ⟨k, rfl⟩ : ∃ m, k = m + 1 := ⟨k - 1, by omega⟩
    unfold quarryref06_Is.l0
    rw [if_neg (by omega), show i = s.size by omega]
  | succ d ih =>
    intro i k hi hk
    obtain ⟨k, rfl⟩ : ∃ m, k = m + 1 := ⟨k - 1, by omega⟩
    have e1 : wrap64 ((i : Int) + 1) = ((i + 1 : Nat) : Int) := by unfold wrap64; omega
    have hl : ((List.range (i + 1)).map (esc s f)).length = i + 1 := by simp
    have h2 := ih (i + 1) k (by omega) (by omega)
    rw [List.range_succ, List.map_append] at h2
    have er : rdOf false ((List.range (i + 1)).map (esc s f)) (i : Int) = esc s f i := by
      unfold rdOf
      rw [Int.toNat_natCast]
      simp
    unfold quarryref06_Is.l0
    rw [if_pos (by omega), if_pos (by omega), e1, er, hl]
    by_cases h : bt s (i : Int) = 92
    · rw [if_pos h, if_pos (by omega), if_pos (by omega)]
      rw [show ((List.map (esc s f) [i + 1])) = [!esc s f i] by simp [esc, h]] at h2
      exact h2
    · rw [if_neg h, if_pos (by omega)]
      rw [show ((List.map (esc s f) [i + 1])) = [false] by simp [esc, h]] at h2
      exact h2
/-- The document's Is: is each byte escaped, and the one behind the last. -/
theorem ek_is_eq (s : ByteArray) (f : Bool) (hn : s.size ≤ 140737488351232) (k : Nat) (hk : s.size < k) : quarryref06_Is.f k s f = some ((List.range (s.size + 1)).map (esc s f)) := by
  unfold quarryref06_Is.f
  exact ek_is_loop s f hn s.size 0 k (by omega) hk
/-- The document's Escaped. -/
theorem ek_refesc_eq (s : ByteArray) (hn : s.size ≤ 140737488351232) (k : Nat) (hk : 66 * s.size + 66 < k) : quarryref06_Escaped.f k s = some ((s.size : Int), wordsOf s.size (esc s false)) := by
  unfold quarryref06_Escaped.f
  have hl : (((List.range (s.size + 1)).map (esc s false)).take s.size).length = s.size := by simp
  have ho := ek_of_eq (((List.range (s.size + 1)).map (esc s false)).take s.size) (by omega) k (by rw [hl]; unfold nwords; omega)
  rw [hl] at ho
  have hx : wordsOf s.size (fun i => (((List.range (s.size + 1)).map (esc s false)).take s.size).getD i false) = wordsOf s.size (esc s false) := by
    refine wordsOf_ext fun i hi => ?_
    rw [List.getD_eq_getElem?_getD, List.getElem?_take_of_lt hi, List.getElem?_map, List.getElem?_range (by omega)]
    rfl
  rw [hx] at ho
  rw [ek_is_eq s false hn k (by omega), Option.bind_some, if_pos (by omega), if_pos (by simp; omega), Int.toNat_natCast, ho]
  rfl
/-- How many backslashes end ahead of a place. -/
def ek_runs (s : ByteArray) : Nat → Nat
  | 0 => 0
  | i + 1 => if bt s (i : Int) = 92 then ek_runs s i + 1 else 0
theorem ek_runs_le (s : ByteArray) : ∀ i, ek_runs s i ≤ i
  | 0 => Nat.le_refl _
  | i + 1 => by have := ek_runs_le s i; unfold ek_runs; split <;> omega
theorem ek_odd_loop (s : ByteArray) (a : Int) (ha0 : 0 ≤ a) (ha : a ≤ s.size) (hn : s.size ≤ 281474976702464) :
    ∀ (i k : Nat), (i : Int) ≤ a → i < k → escape_Odd.l0 k s a (i : Int) = some ((i : Int) - ek_runs s i, (Int.tmod (a - ((i : Int) - ek_runs s i)) 2 == 1)) := by
  intro i
  induction i with
  | zero =>
    intro k hi hk
    obtain ⟨k, rfl⟩ : ∃ m, k = m + 1 := ⟨k - 1, by omega⟩
    have e : wrap64 (a - ((0 : Nat) : Int)) = a - ((0 : Nat) : Int) := by unfold wrap64; omega
    simp only [escape_Odd.l0, ek_runs]
    rw [if_neg (by omega), e]
    simp
  | succ i ih =>
    intro k hi hk
    obtain ⟨k, rfl⟩ : ∃ m, k = m + 1 := ⟨k - 1, by omega⟩
    have e1 : wrap64 (((i + 1 : Nat) : Int) - 1) = (i : Int) := by unfold wrap64; omega
    have hr := ek_runs_le s i
    simp only [escape_Odd.l0, e1]
    rw [if_pos (by omega), if_pos (by omega), if_pos (by omega)]
    by_cases h : bt s (i : Int) = 92
    · rw [if_pos h, ih k (by omega) (by omega)]
      simp only [ek_runs, if_pos h]
      have : ((i : Int) - (ek_runs s i : Nat)) = ((i + 1 : Nat) : Int) - ((ek_runs s i + 1 : Nat) : Int) := by omega
      rw [this]
    · rw [if_neg h]
      simp only [ek_runs, if_neg h]
      have e : wrap64 (a - ((i + 1 : Nat) : Int)) = a - ((i + 1 : Nat) : Int) := by unfold wrap64; omega
      rw [e]
      simp
/-- An odd number of backslashes ahead, and the byte is escaped. -/
theorem ek_esc_runs (s : ByteArray) : ∀ i, esc s false i = decide (ek_runs s i % 2 = 1)
  | 0 => rfl
  | i + 1 => by
    have := ek_esc_runs s i
    show (decide (bt s (i : Int) = 92) && !esc s false i) = _
    by_cases h : bt s (i : Int) = 92
    · have e : ek_runs s (i + 1) = ek_runs s i + 1 := if_pos h
      rw [e, this, decide_eq_true h, Bool.true_and]
      by_cases g : ek_runs s i % 2 = 1
      · rw [decide_eq_true g, decide_eq_false (by omega)]; rfl
      · rw [decide_eq_false g, decide_eq_true (by omega)]; rfl
    · have e : ek_runs s (i + 1) = 0 := if_neg h
      rw [e, decide_eq_false h]; rfl
theorem ek_odd_eq (s : ByteArray) (hn : s.size ≤ 281474976702464) (i k : Nat) (hi : i ≤ s.size) (hk : s.size + 1 < k) :
    escape_Odd.f k s (i : Int) = some (((i - ek_runs s i : Nat) : Int), esc s false i) := by
  obtain ⟨k, rfl⟩ : ∃ m, k = m + 1 := ⟨k - 1, by omega⟩
  have hr := ek_runs_le s i
  unfold escape_Odd.f
  rw [if_neg (by omega)]
  simp only [escape_Odd.j0]
  rw [if_neg (by simpa using by omega), ek_odd_loop s (i : Int) (by omega) (by omega) hn i k (by omega) (by omega)]
  have e : (i : Int) - (ek_runs s i : Nat) = ((i - ek_runs s i : Nat) : Int) := by omega
  have e2 : (i : Int) - ((i - ek_runs s i : Nat) : Int) = ((ek_runs s i : Nat) : Int) := by omega
  rw [e, e2, ek_esc_runs]
  have e3 : Int.tmod ((ek_runs s i : Nat) : Int) 2 = ((ek_runs s i % 2 : Nat) : Int) := rfl
  rw [e3]
  by_cases g : ek_runs s i % 2 = 1
  · rw [g]; rfl
  · rw [show ek_runs s i % 2 = 0 by omega]; rfl
/-- The bytes of the run are backslashes, and the byte ahead of it is none. -/
theorem ek_runs_all (s : ByteArray) : ∀ i j, i - ek_runs s i ≤ j → j < i → bt s (j : Int) = 92
  | 0, _, _, h => absurd h (by omega)
  | i + 1, j, h1, h2 => by
    simp only [ek_runs] at h1
    by_cases h : bt s (i : Int) = 92
    · rw [if_pos h] at h1
      by_cases g : j = i
      · rw [g]; exact h
      · exact ek_runs_all s i j (by omega) (by omega)
    · rw [if_neg h] at h1; omega
theorem ek_runs_before (s : ByteArray) : ∀ i, 0 < i - ek_runs s i → bt s ((i - ek_runs s i - 1 : Nat) : Int) ≠ 92
  | 0, h => absurd h (by omega)
  | i + 1, h1 => by
    simp only [ek_runs] at h1 ⊢
    have hr := ek_runs_le s i
    by_cases h : bt s (i : Int) = 92
    · rw [if_pos h] at h1 ⊢
      have := ek_runs_before s i (by omega)
      rw [show i + 1 - (ek_runs s i + 1) - 1 = i - ek_runs s i - 1 by omega]
      exact this
    · rw [if_neg h]; exact h
theorem ek_esc_first (s : ByteArray) (f : Bool) : ∀ i, esc s f i = (esc s false i ^^ (f && decide (ek_runs s i = i)))
  | 0 => by cases f <;> rfl
  | i + 1 => by
    have h := ek_esc_first s f i
    have hr := ek_runs_le s i
    show (decide (bt s (i : Int) = 92) && !esc s f i) = ((decide (bt s (i : Int) = 92) && !esc s false i) ^^ _)
    by_cases g : bt s (i : Int) = 92
    · have e : ek_runs s (i + 1) = ek_runs s i + 1 := if_pos g
      have e2 : decide (ek_runs s i + 1 = i + 1) = decide (ek_runs s i = i) := decide_eq_decide.mpr (by omega)
      rw [e, e2, h, decide_eq_true g]
      cases esc s false i <;> cases (f && decide (ek_runs s i = i)) <;> rfl
    · have e : ek_runs s (i + 1) = 0 := if_neg g
      rw [e, decide_eq_false g, decide_eq_false (show ¬ 0 = i + 1 by omega)]
      cases f <;> rfl
/-- Behind: is what comes behind the text escaped. -/
theorem ek_behind_all (s : ByteArray) (hn : s.size ≤ 281474976702464) (f : Bool) (k : Nat) (hk : s.size + 1 < k) : escape_Behind.f k s f = some (esc s f s.size) := by
  have hr := ek_runs_le s s.size
  unfold escape_Behind.f
  rw [ek_odd_eq s hn s.size k (Nat.le_refl _) hk, Option.bind_some, ek_esc_first s f]
  by_cases h : ((s.size - ek_runs s s.size : Nat) : Int) = 0
  · rw [if_pos h, decide_eq_true (show ek_runs s s.size = s.size by omega)]
    cases f
    · rw [if_neg (by decide)]; simp
    · rw [if_pos rfl]; simp
  · rw [if_neg h, decide_eq_false (show ¬ ek_runs s s.size = s.size by intro g; exact h (by omega))]
    simp

end EkF
theorem keeps_same (base : Nat) (W : World) (z : Int) (n : Nat) (xs : List Int) (A A' : Option Addr) (c c' : Nat) (hn : xs.length = n) (hl : xs.length ≤ 1099511627776) (h : RowU 35 base W (.slice A n c, xs)) (h' : RowU 35 base W (.slice A' n c', xs)) :
    Calls Try.prog 6 #[.agg #[.int .i64 z, .slice A n c], .agg #[.int .i64 z, .slice A' n c']] W fun e w' => e = .returned (.bool true) ∧ Below W.heap.size W w' := by
  subst hn
  have h1 := h.reads rfl rfl
  have h2 := h'.reads rfl rfl
  exact quarryref00_SameBits.calls (xs.length + 2) z A c xs z A' c' xs true W h1.2 h1.1 h2.2 h2.1 (EkF.ek_same_refl z xs (by omega) _ (by omega))
set_option maxHeartbeats 4000000 in
set_option maxRecDepth 100000 in
theorem quarrylaw06_EscapeKeeps.true_ (s t : ByteArray) (hs : s.size ≤ 1048576) (ht : t.size ≤ 1048576) (w : World) :
    Calls Try.prog 3 #[.string s, .string t] w fun e w' => e = .returned (.bool true) ∧ Below w.heap.size w w' := by
  have HB := BelowH.refl w
  obtain ⟨ns, hns⟩ : ∃ ns, ns = nwords s.size := ⟨_, rfl⟩
  obtain ⟨nt, hnt⟩ : ∃ nt, nt = nwords t.size := ⟨_, rfl⟩
  obtain ⟨zs, hzs⟩ : ∃ zs : Int, zs = (s.size : Int) := ⟨_, rfl⟩
  obtain ⟨zt, hzt⟩ : ∃ zt : Int, zt = (t.size : Int) := ⟨_, rfl⟩
  obtain ⟨ms, hms⟩ : ∃ ms, ms = wordsOf s.size (esc s false) := ⟨_, rfl⟩
  obtain ⟨mt, hmt⟩ : ∃ mt, mt = wordsOf t.size (esc t false) := ⟨_, rfl⟩
  have HLN : Aside0 (ms.length = ns ∧ mt.length = nt ∧ ns ≤ 1099511627776 ∧ nt ≤ 1099511627776) := ⟨by rw [hms, wordsOf_length, hns], by rw [hmt, wordsOf_length, hnt], by rw [hns]; unfold nwords; omega, by rw [hnt]; unfold nwords; omega⟩
  have MKs : Aside0 (∀ W, Calls Try.prog 4 #[.string s] W fun e w' => ∃ v : Value, e = .returned (.agg #[.int .i64 zs, v]) ∧ w'.ownsRow W.heap.size 35 1 v ns (ms.map (Value.int .u64)) ∧ Below W.heap.size W w') := ⟨fun W => by rw [hms, hns, hzs]; exact escape_Escaped.walk s W (by omega)⟩
  have MKt : Aside0 (∀ W, Calls Try.prog 4 #[.string t] W fun e w' => ∃ v : Value, e = .returned (.agg #[.int .i64 zt, v]) ∧ w'.ownsRow W.heap.size 35 1 v nt (mt.map (Value.int .u64)) ∧ Below W.heap.size W w') := ⟨fun W => by rw [hmt, hnt, hzt]; exact escape_Escaped.walk t W (by omega)⟩
  have RFs : Aside0 (∀ W, Calls Try.prog 5 #[.string s] W fun e w' => ∃ v : Value, e = .returned (.agg #[.int .i64 zs, v]) ∧ w'.ownsRow W.heap.size 35 1 v ns (ms.map (Value.int .u64)) ∧ Below W.heap.size W w') := ⟨fun W => by
    refine (quarryref06_Escaped.calls (66 * s.size + 67) s zs ms W (by rw [hzs, hms]; exact EkF.ek_refesc_eq s (by omega) _ (by omega))).mono ?_
    rintro e w' ⟨v, rfl, hR, hb⟩
    have h := Kd.own_of_R hR
    rw [HLN.out.1] at h
    exact ⟨v, rfl, h, hb⟩⟩
  have RFt : Aside0 (∀ W, Calls Try.prog 5 #[.string t] W fun e w' => ∃ v : Value, e = .returned (.agg #[.int .i64 zt, v]) ∧ w'.ownsRow W.heap.size 35 1 v nt (mt.map (Value.int .u64)) ∧ Below W.heap.size W w') := ⟨fun W => by
    refine (quarryref06_Escaped.calls (66 * t.size + 67) t zt mt W (by rw [hzt, hmt]; exact EkF.ek_refesc_eq t (by omega) _ (by omega))).mono ?_
    rintro e w' ⟨v, rfl, hR, hb⟩
    have h := Kd.own_of_R hR
    rw [HLN.out.2.1] at h
    exact ⟨v, rfl, h, hb⟩⟩
  have BH : Aside0 (∀ W, Calls Try.prog 8 #[.string ⟨#[92]⟩, .bool false] W fun e w' => e = .returned (.bool true) ∧ Below W.heap.size W w') := ⟨fun W => by
    refine (escape_Behind.calls 10 ⟨#[92]⟩ false true W ?_).mono ?_
    · have h := EkF.ek_behind_all (⟨#[92]⟩ : ByteArray) (by decide) false 10 (by decide)
      rwa [show esc (⟨#[92]⟩ : ByteArray) false (⟨#[92]⟩ : ByteArray).size = true by decide +kernel] at h
    · rintro e w' ⟨rfl, ⟨nd, rfl⟩⟩
      exact ⟨rfl, pw_below_drewN (Below.refl _ _) nd⟩⟩
  have SBT : Aside0 (∀ (W : World) (z : Int) (n : Nat) (xs : List Int) (A A' : Option Addr) (c c' : Nat), xs.length = n → RowU 35 w.heap.size W (.slice A n c, xs) → RowU 35 w.heap.size W (.slice A' n c', xs) → n ≤ 1099511627776 → Calls Try.prog 6 #[.agg #[.int .i64 z, .slice A n c], .agg #[.int .i64 z, .slice A' n c']] W fun e w' => e = .returned (.bool true) ∧ Below W.heap.size W w') := ⟨fun W z n xs A A' c c' hn h h' hl => keeps_same w.heap.size W z n xs A A' c c' hn (by omega) h h'⟩
  have HBAG := Aside0.mk (Bag.nil 35 w.heap.size w)
  have HBL := Aside0.mk (Blks.nil w)
  clear hns hnt hzs hzt hms hmt hs ht
  go_enter Try.func3, Try.ntmps3
  go_upto_region 2 with (first
    | (go_at_call 4; refine (MKs.out _).mono ?_; rintro e w1 ⟨v1, rfl, hrow, hb⟩; obtain ⟨A1, c1, rfl⟩ := own_slice hrow; have HBAGn : Aside0 (Bag 35 w.heap.size w1 [(.slice A1 ns c1, ms)]) := ⟨HBAG.out.snoc HB.le hb HLN.out.1 hrow⟩; have HBLn := Aside0.mk (HBL.out.below hb); have HBn := HB.step hb; clear HBAG HBL HB hrow hb; have HBAG := HBAGn; have HBL := HBLn; have HB := HBn; clear HBAGn HBLn HBn)
    | ((with_reducible refine gate_dst (N := 5) rfl ?_); refine ev_alloc HB rfl (#[.int .i64 0, .slice none 0 0]) 24 ?hr ?_; (case hr => first | (go_simp; done) | (go_simp; rfl)); intro g5 wa1 G1 GE1 B1 HBn K1; have NE1 := Aside0.mk (HBL.out.fresh G1.out); clear HBn; have HBAGn := Aside0.mk (HBAG.out.below K1.out); have HBLn := Aside0.mk (HBL.out.below K1.out); have HBn := HB.step K1.out; clear HBAG HBL HB; have HBAG := HBAGn; have HBL := HBLn; have HB := HBn; clear HBAGn HBLn HBn; clear K1 G1)
    | ((with_reducible refine gate_ (Op.store 24 (.tmp 5) (.tmp 12)) rfl ?_); refine ev_store HB B1 GE1 rfl 24 _ _ rfl rfl rfl (by kernel_rfl) rfl (by simp [Value.oneCell']) ?_; intro ws1 S1 HBn K1; have HBAGn := Aside0.mk (HBAG.out.other B1 (by decide) K1); have HBLn := Aside0.mk (HBL.out.other K1 NE1.out); clear HBAG HBL HB B1 K1 NE1; have HBAG := HBAGn; have HBL := HBLn; have HB := HBn; clear HBAGn HBLn HBn))
  have HBLn : Aside0 (Blks [(g5, #[.int .i64 zs, .slice A1 ns c1], 24)] ws1) := ⟨HBL.out.cons S1⟩
  clear HBL S1 GE1
  have HBL := HBLn
  clear HBLn
  go_upto_region 3 with (first
    | (go_at_call 4; refine (MKs.out _).mono ?_; rintro e w2 ⟨v2, rfl, hrow, hb⟩; obtain ⟨A2, c2, rfl⟩ := own_slice hrow; have HBAGn : Aside0 (Bag 35 w.heap.size w2 [(.slice A1 ns c1, ms), (.slice A2 ns c2, ms)]) := ⟨HBAG.out.snoc HB.le hb HLN.out.1 hrow⟩; have HBLn := Aside0.mk (HBL.out.below hb); have HBn := HB.step hb; clear HBAG HBL HB hrow hb; have HBAG := HBAGn; have HBL := HBLn; have HB := HBn; clear HBAGn HBLn HBn)
    | ((with_reducible refine gate_dst (N := 6) rfl ?_); refine ev_alloc HB rfl (#[.int .i64 0, .slice none 0 0]) 24 ?hr ?_; (case hr => first | (go_simp; done) | (go_simp; rfl)); intro g6 wa2 G2 GE2 B2 HBn K2; have NE2 := Aside0.mk (HBL.out.fresh G2.out); clear HBn; have HBAGn := Aside0.mk (HBAG.out.below K2.out); have HBLn := Aside0.mk (HBL.out.below K2.out); have HBn := HB.step K2.out; clear HBAG HBL HB; have HBAG := HBAGn; have HBL := HBLn; have HB := HBn; clear HBAGn HBLn HBn; clear K2 G2)
    | ((with_reducible refine gate_ (Op.store 24 (.tmp 6) (.tmp 14)) rfl ?_); refine ev_store HB B2 GE2 rfl 24 _ _ rfl rfl rfl (by kernel_rfl) rfl (by simp [Value.oneCell']) ?_; intro ws2 S2 HBn K2; have HBAGn := Aside0.mk (HBAG.out.other B2 (by decide) K2); have HBLn := Aside0.mk (HBL.out.other K2 NE2.out); clear HBAG HBL HB B2 K2 NE2; have HBAG := HBAGn; have HBL := HBLn; have HB := HBn; clear HBAGn HBLn HBn))
  have HBLn : Aside0 (Blks [(g6, #[.int .i64 zs, .slice A2 ns c2], 24), (g5, #[.int .i64 zs, .slice A1 ns c1], 24)] ws2) := ⟨HBL.out.cons S2⟩
  clear HBL S2 GE2
  have HBL := HBLn
  clear HBLn
  go_upto_region 4 with (first
    | (go_at_call 4; refine (MKt.out _).mono ?_; rintro e w3 ⟨v3, rfl, hrow, hb⟩; obtain ⟨A3, c3, rfl⟩ := own_slice hrow; have HBAGn : Aside0 (Bag 35 w.heap.size w3 [(.slice A1 ns c1, ms), (.slice A2 ns c2, ms), (.slice A3 nt c3, mt)]) := ⟨HBAG.out.snoc HB.le hb HLN.out.2.1 hrow⟩; have HBLn := Aside0.mk (HBL.out.below hb); have HBn := HB.step hb; clear HBAG HBL HB hrow hb; have HBAG := HBAGn; have HBL := HBLn; have HB := HBn; clear HBAGn HBLn HBn)
    | ((with_reducible refine gate_dst (N := 7) rfl ?_); refine ev_alloc HB rfl (#[.int .i64 0, .slice none 0 0]) 24 ?hr ?_; (case hr => first | (go_simp; done) | (go_simp; rfl)); intro g7 wa3 G3 GE3 B3 HBn K3; have NE3 := Aside0.mk (HBL.out.fresh G3.out); clear HBn; have HBAGn := Aside0.mk (HBAG.out.below K3.out); have HBLn := Aside0.mk (HBL.out.below K3.out); have HBn := HB.step K3.out; clear HBAG HBL HB; have HBAG := HBAGn; have HBL := HBLn; have HB := HBn; clear HBAGn HBLn HBn; clear K3 G3)
    | ((with_reducible refine gate_ (Op.store 24 (.tmp 7) (.tmp 16)) rfl ?_); refine ev_store HB B3 GE3 rfl 24 _ _ rfl rfl rfl (by kernel_rfl) rfl (by simp [Value.oneCell']) ?_; intro ws3 S3 HBn K3; have HBAGn := Aside0.mk (HBAG.out.other B3 (by decide) K3); have HBLn := Aside0.mk (HBL.out.other K3 NE3.out); clear HBAG HBL HB B3 K3 NE3; have HBAG := HBAGn; have HBL := HBLn; have HB := HBn; clear HBAGn HBLn HBn))
  have HBLn : Aside0 (Blks [(g7, #[.int .i64 zt, .slice A3 nt c3], 24), (g6, #[.int .i64 zs, .slice A2 ns c2], 24), (g5, #[.int .i64 zs, .slice A1 ns c1], 24)] ws3) := ⟨HBL.out.cons S3⟩
  clear HBL S3 GE3
  have HBL := HBLn
  clear HBLn
  go_upto_region 5 with (first
    | (go_at_call 4; refine (MKs.out _).mono ?_; rintro e w4 ⟨v4, rfl, hrow, hb⟩; obtain ⟨A4, c4, rfl⟩ := own_slice hrow; have HBAGn : Aside0 (Bag 35 w.heap.size w4 [(.slice A1 ns c1, ms), (.slice A2 ns c2, ms), (.slice A3 nt c3, mt), (.slice A4 ns c4, ms)]) := ⟨HBAG.out.snoc HB.le hb HLN.out.1 hrow⟩; have HBLn := Aside0.mk (HBL.out.below hb); have HBn := HB.step hb; clear HBAG HBL HB hrow hb; have HBAG := HBAGn; have HBL := HBLn; have HB := HBn; clear HBAGn HBLn HBn)
    | ((with_reducible refine gate_dst (N := 8) rfl ?_); refine ev_alloc HB rfl (#[.int .i64 0, .slice none 0 0]) 24 ?hr ?_; (case hr => first | (go_simp; done) | (go_simp; rfl)); intro g8 wa4 G4 GE4 B4 HBn K4; have NE4 := Aside0.mk (HBL.out.fresh G4.out); clear HBn; have HBAGn := Aside0.mk (HBAG.out.below K4.out); have HBLn := Aside0.mk (HBL.out.below K4.out); have HBn := HB.step K4.out; clear HBAG HBL HB; have HBAG := HBAGn; have HBL := HBLn; have HB := HBn; clear HBAGn HBLn HBn; clear K4 G4)
    | ((with_reducible refine gate_ (Op.store 24 (.tmp 8) (.tmp 18)) rfl ?_); refine ev_store HB B4 GE4 rfl 24 _ _ rfl rfl rfl (by kernel_rfl) rfl (by simp [Value.oneCell']) ?_; intro ws4 S4 HBn K4; have HBAGn := Aside0.mk (HBAG.out.other B4 (by decide) K4); have HBLn := Aside0.mk (HBL.out.other K4 NE4.out); clear HBAG HBL HB B4 K4 NE4; have HBAG := HBAGn; have HBL := HBLn; have HB := HBn; clear HBAGn HBLn HBn))
  have HBLn : Aside0 (Blks [(g8, #[.int .i64 zs, .slice A4 ns c4], 24), (g7, #[.int .i64 zt, .slice A3 nt c3], 24), (g6, #[.int .i64 zs, .slice A2 ns c2], 24), (g5, #[.int .i64 zs, .slice A1 ns c1], 24)] ws4) := ⟨HBL.out.cons S4⟩
  clear HBL S4 GE4
  have HBL := HBLn
  clear HBLn
  go_upto_region 6 with (first
    | (go_at_call 5; refine (RFs.out _).mono ?_; rintro e w5 ⟨v5, rfl, hrow, hb⟩; obtain ⟨A5, c5, rfl⟩ := own_slice hrow; have HBAGn : Aside0 (Bag 35 w.heap.size w5 [(.slice A1 ns c1, ms), (.slice A2 ns c2, ms), (.slice A3 nt c3, mt), (.slice A4 ns c4, ms), (.slice A5 ns c5, ms)]) := ⟨HBAG.out.snoc HB.le hb HLN.out.1 hrow⟩; have HBLn := Aside0.mk (HBL.out.below hb); have HBn := HB.step hb; clear HBAG HBL HB hrow hb; have HBAG := HBAGn; have HBL := HBLn; have HB := HBn; clear HBAGn HBLn HBn)
    | ((with_reducible refine gate_dst (N := 9) rfl ?_); refine ev_alloc HB rfl (#[.int .i64 0, .slice none 0 0]) 24 ?hr ?_; (case hr => first | (go_simp; done) | (go_simp; rfl)); intro g9 wa5 G5 GE5 B5 HBn K5; have NE5 := Aside0.mk (HBL.out.fresh G5.out); clear HBn; have HBAGn := Aside0.mk (HBAG.out.below K5.out); have HBLn := Aside0.mk (HBL.out.below K5.out); have HBn := HB.step K5.out; clear HBAG HBL HB; have HBAG := HBAGn; have HBL := HBLn; have HB := HBn; clear HBAGn HBLn HBn; clear K5 G5)
    | ((with_reducible refine gate_ (Op.store 24 (.tmp 9) (.tmp 20)) rfl ?_); refine ev_store HB B5 GE5 rfl 24 _ _ rfl rfl rfl (by kernel_rfl) rfl (by simp [Value.oneCell']) ?_; intro ws5 S5 HBn K5; have HBAGn := Aside0.mk (HBAG.out.other B5 (by decide) K5); have HBLn := Aside0.mk (HBL.out.other K5 NE5.out); clear HBAG HBL HB B5 K5 NE5; have HBAG := HBAGn; have HBL := HBLn; have HB := HBn; clear HBAGn HBLn HBn))
  have HBLn : Aside0 (Blks [(g9, #[.int .i64 zs, .slice A5 ns c5], 24), (g8, #[.int .i64 zs, .slice A4 ns c4], 24), (g7, #[.int .i64 zt, .slice A3 nt c3], 24), (g6, #[.int .i64 zs, .slice A2 ns c2], 24), (g5, #[.int .i64 zs, .slice A1 ns c1], 24)] ws5) := ⟨HBL.out.cons S5⟩
  clear HBL S5 GE5
  have HBL := HBLn
  clear HBLn
  have HBAGn := Aside0.mk (HBAG.out.below (below_drew (Below.refl _ _)))
  have HBLn := Aside0.mk (HBL.out.below (below_drew (Below.refl _ _)))
  have HBn := HB.step (below_drew (Below.refl _ _))
  clear HBAG HBL HB
  have HBAG := HBAGn
  have HBL := HBLn
  have HB := HBn
  clear HBAGn HBLn HBn
  refine wp_region_noPanic ?_
  refine wp_region_last_drew (S := fun W' => Blk W' g5 #[.int .i64 zs, .slice A1 ns c1] 24 ∧ Blk W' g6 #[.int .i64 zs, .slice A2 ns c2] 24 ∧ Blk W' g7 #[.int .i64 zt, .slice A3 nt c3] 24 ∧ Blk W' g8 #[.int .i64 zs, .slice A4 ns c4] 24 ∧ Blk W' g9 #[.int .i64 zs, .slice A5 ns c5] 24) (ds := []) (by kernel_rfl) ⟨HBL.out.out (g5, #[.int .i64 zs, .slice A1 ns c1], 24) (by simp), HBL.out.out (g6, #[.int .i64 zs, .slice A2 ns c2], 24) (by simp), HBL.out.out (g7, #[.int .i64 zt, .slice A3 nt c3], 24) (by simp), HBL.out.out (g8, #[.int .i64 zs, .slice A4 ns c4], 24) (by simp), HBL.out.out (g9, #[.int .i64 zs, .slice A5 ns c5], 24) (by simp)⟩ (fun hS => ?_)
  refine wpAnyLast_take (i := 0) (oi := Oper.mk _ _ _ _ _ _) rfl (by kernel_rfl) (by kernel_rfl) (by kernel_rfl) (by kernel_rfl) (by kernel_rfl) (fun _ _ _ h => h) (rg_load (by rfl) (fun _ hS => hS.1) 24 _ rfl rfl Try.underlying24 rfl (by kernel_rfl)) hS ?_
  try simp only [Act.put, List.setIfInBounds_toArray, List.set_cons_zero, List.set_cons_succ]
  refine wpAnyLast_take (i := 1) (oi := Oper.mk _ _ _ _ _ _) rfl (by kernel_rfl) (by kernel_rfl) (by kernel_rfl) (by kernel_rfl) (by kernel_rfl) (fun _ _ _ h => h) (rg_load (by rfl) (fun _ hS => hS.2.2.2.2) 24 _ rfl rfl Try.underlying24 rfl (by kernel_rfl)) hS ?_
  try simp only [Act.put, List.setIfInBounds_toArray, List.set_cons_zero, List.set_cons_succ]
  refine wpAnyLast_ready (rs := [2]) (by kernel_rfl) (by simp) ?_
  refine AllReadyL.cons (o := Oper.mk _ _ _ _ _ _) rfl (by decide) (fun K hK => ?_) ?_
  · refine rg_call (by rfl) _ _ (.bool true) (by first | (go_simp; done) | (go_simp; rfl)) (SBT.out _ _ _ _ _ _ _ _ HLN.out.1 (HBAG.out.row 0 _ rfl) (HBAG.out.row 4 _ rfl) HLN.out.2.2.1) ?_
    intro W' hb
    have HBAGn := Aside0.mk (HBAG.out.below hb.out)
    have HBLn := Aside0.mk (HBL.out.below hb.out)
    have HBn := HB.step hb.out
    clear HBAG HBL HB
    have HBAG := HBAGn
    have HBL := HBLn
    have HB := HBn
    clear HBAGn HBLn HBn
    refine hK.out _ _ ⟨HBL.out.out (g5, #[.int .i64 zs, .slice A1 ns c1], 24) (by simp), HBL.out.out (g6, #[.int .i64 zs, .slice A2 ns c2], 24) (by simp), HBL.out.out (g7, #[.int .i64 zt, .slice A3 nt c3], 24) (by simp), HBL.out.out (g8, #[.int .i64 zs, .slice A4 ns c4], 24) (by simp), HBL.out.out (g9, #[.int .i64 zs, .slice A5 ns c5], 24) (by simp)⟩ (fun hS => ?_)
    clear hK K hb
    try simp only [Act.put, List.setIfInBounds_toArray, List.set_cons_zero, List.set_cons_succ]
    refine' wpAnyLast_take (i := 3) (oi := Oper.mk _ _ _ _ _ _) rfl (by kernel_rfl) (by kernel_rfl) (by kernel_rfl) (by kernel_rfl) (by kernel_rfl) (fun _ _ _ h => h) (Or.inl ⟨by rfl, ?hy1⟩) hS ?rest1
    case hy1 => (intro w hSw; (try dsimp only at hSw); first | (go_simp; done) | (go_simp; with_reducible rfl))
    try simp only [Act.put, List.setIfInBounds_toArray, List.set_cons_zero, List.set_cons_succ]
    refine' wpAnyLast_take (i := 4) (oi := Oper.mk _ _ _ _ _ _) rfl (by kernel_rfl) (by kernel_rfl) (by kernel_rfl) (by kernel_rfl) (by kernel_rfl) (fun _ _ _ h => h) (Or.inl ⟨by rfl, ?hy2⟩) hS ?rest2
    case hy2 => (intro w hSw; (try dsimp only at hSw); first | (go_simp; done) | (go_simp; with_reducible rfl))
    try simp only [Act.put, List.setIfInBounds_toArray, List.set_cons_zero, List.set_cons_succ]
    refine wpAnyLast_take (i := 5) (oi := Oper.mk _ _ _ _ _ _) rfl (by kernel_rfl) (by kernel_rfl) (by kernel_rfl) (by kernel_rfl) (by kernel_rfl) (fun _ _ _ h => h) (rg_load (by rfl) (fun _ hS => hS.2.1) 24 _ rfl rfl Try.underlying24 rfl (by kernel_rfl)) hS ?_
    try simp only [Act.put, List.setIfInBounds_toArray, List.set_cons_zero, List.set_cons_succ]
    refine wpAnyLast_take (i := 6) (oi := Oper.mk _ _ _ _ _ _) rfl (by kernel_rfl) (by kernel_rfl) (by kernel_rfl) (by kernel_rfl) (by kernel_rfl) (fun _ _ _ h => h) (rg_load (by rfl) (fun _ hS => hS.2.2.2.2) 24 _ rfl rfl Try.underlying24 rfl (by kernel_rfl)) hS ?_
    try simp only [Act.put, List.setIfInBounds_toArray, List.set_cons_zero, List.set_cons_succ]
    refine wpAnyLast_ready (rs := [7]) (by kernel_rfl) (by simp) ?_
    refine AllReadyL.cons (o := Oper.mk _ _ _ _ _ _) rfl (by decide) (fun K hK => ?_) ?_
    · refine rg_call (by rfl) _ _ (.bool true) (by first | (go_simp; done) | (go_simp; rfl)) (SBT.out _ _ _ _ _ _ _ _ HLN.out.1 (HBAG.out.row 1 _ rfl) (HBAG.out.row 4 _ rfl) HLN.out.2.2.1) ?_
      intro W' hb
      have HBAGn := Aside0.mk (HBAG.out.below hb.out)
      have HBLn := Aside0.mk (HBL.out.below hb.out)
      have HBn := HB.step hb.out
      clear HBAG HBL HB
      have HBAG := HBAGn
      have HBL := HBLn
      have HB := HBn
      clear HBAGn HBLn HBn
      refine hK.out _ _ ⟨HBL.out.out (g5, #[.int .i64 zs, .slice A1 ns c1], 24) (by simp), HBL.out.out (g6, #[.int .i64 zs, .slice A2 ns c2], 24) (by simp), HBL.out.out (g7, #[.int .i64 zt, .slice A3 nt c3], 24) (by simp), HBL.out.out (g8, #[.int .i64 zs, .slice A4 ns c4], 24) (by simp), HBL.out.out (g9, #[.int .i64 zs, .slice A5 ns c5], 24) (by simp)⟩ (fun hS => ?_)
      clear hK K hb
      try simp only [Act.put, List.setIfInBounds_toArray, List.set_cons_zero, List.set_cons_succ]
      refine' wpAnyLast_take (i := 8) (oi := Oper.mk _ _ _ _ _ _) rfl (by kernel_rfl) (by kernel_rfl) (by kernel_rfl) (by kernel_rfl) (by kernel_rfl) (fun _ _ _ h => h) (Or.inl ⟨by rfl, ?hy3⟩) hS ?rest3
      case hy3 => (intro w hSw; (try dsimp only at hSw); first | (go_simp; done) | (go_simp; with_reducible rfl))
      try simp only [Act.put, List.setIfInBounds_toArray, List.set_cons_zero, List.set_cons_succ]
      refine' wpAnyLast_take (i := 9) (oi := Oper.mk _ _ _ _ _ _) rfl (by kernel_rfl) (by kernel_rfl) (by kernel_rfl) (by kernel_rfl) (by kernel_rfl) (fun _ _ _ h => h) (Or.inl ⟨by rfl, ?hy4⟩) hS ?rest4
      case hy4 => (intro w hSw; (try dsimp only at hSw); first | (go_simp; done) | (go_simp; with_reducible rfl))
      try simp only [Act.put, List.setIfInBounds_toArray, List.set_cons_zero, List.set_cons_succ]
      refine' wpAnyLast_take (i := 10) (oi := Oper.mk _ _ _ _ _ _) rfl (by kernel_rfl) (by kernel_rfl) (by kernel_rfl) (by kernel_rfl) (by kernel_rfl) (fun _ _ _ h => h) (Or.inl ⟨by rfl, ?hy5⟩) hS ?rest5
      case hy5 => (intro w hSw; (try dsimp only at hSw); first | (go_simp; done) | (go_simp; with_reducible rfl))
      try simp only [Act.put, List.setIfInBounds_toArray, List.set_cons_zero, List.set_cons_succ]
      refine wpAnyLast_take (i := 11) (oi := Oper.mk _ _ _ _ _ _) rfl (by kernel_rfl) (by kernel_rfl) (by kernel_rfl) (by kernel_rfl) (by kernel_rfl) (fun _ _ _ h => h) (rg_load (by rfl) (fun _ hS => hS.2.2.2.1) 24 _ rfl rfl Try.underlying24 rfl (by kernel_rfl)) hS ?_
      try simp only [Act.put, List.setIfInBounds_toArray, List.set_cons_zero, List.set_cons_succ]
      refine wpAnyLast_take (i := 12) (oi := Oper.mk _ _ _ _ _ _) rfl (by kernel_rfl) (by kernel_rfl) (by kernel_rfl) (by kernel_rfl) (by kernel_rfl) (fun _ _ _ h => h) (rg_load (by rfl) (fun _ hS => hS.2.2.2.2) 24 _ rfl rfl Try.underlying24 rfl (by kernel_rfl)) hS ?_
      try simp only [Act.put, List.setIfInBounds_toArray, List.set_cons_zero, List.set_cons_succ]
      refine wpAnyLast_ready (rs := [13]) (by kernel_rfl) (by simp) ?_
      refine AllReadyL.cons (o := Oper.mk _ _ _ _ _ _) rfl (by decide) (fun K hK => ?_) ?_
      · refine rg_call (by rfl) _ _ (.bool true) (by first | (go_simp; done) | (go_simp; rfl)) (SBT.out _ _ _ _ _ _ _ _ HLN.out.1 (HBAG.out.row 3 _ rfl) (HBAG.out.row 4 _ rfl) HLN.out.2.2.1) ?_
        intro W' hb
        have HBAGn := Aside0.mk (HBAG.out.below hb.out)
        have HBLn := Aside0.mk (HBL.out.below hb.out)
        have HBn := HB.step hb.out
        clear HBAG HBL HB
        have HBAG := HBAGn
        have HBL := HBLn
        have HB := HBn
        clear HBAGn HBLn HBn
        refine hK.out _ _ ⟨HBL.out.out (g5, #[.int .i64 zs, .slice A1 ns c1], 24) (by simp), HBL.out.out (g6, #[.int .i64 zs, .slice A2 ns c2], 24) (by simp), HBL.out.out (g7, #[.int .i64 zt, .slice A3 nt c3], 24) (by simp), HBL.out.out (g8, #[.int .i64 zs, .slice A4 ns c4], 24) (by simp), HBL.out.out (g9, #[.int .i64 zs, .slice A5 ns c5], 24) (by simp)⟩ (fun hS => ?_)
        clear hK K hb
        try simp only [Act.put, List.setIfInBounds_toArray, List.set_cons_zero, List.set_cons_succ]
        refine' wpAnyLast_take (i := 14) (oi := Oper.mk _ _ _ _ _ _) rfl (by kernel_rfl) (by kernel_rfl) (by kernel_rfl) (by kernel_rfl) (by kernel_rfl) (fun _ _ _ h => h) (Or.inl ⟨by rfl, ?hy6⟩) hS ?rest6
        case hy6 => (intro w hSw; (try dsimp only at hSw); first | (go_simp; done) | (go_simp; with_reducible rfl))
        try simp only [Act.put, List.setIfInBounds_toArray, List.set_cons_zero, List.set_cons_succ]
        refine' wpAnyLast_take (i := 15) (oi := Oper.mk _ _ _ _ _ _) rfl (by kernel_rfl) (by kernel_rfl) (by kernel_rfl) (by kernel_rfl) (by kernel_rfl) (fun _ _ _ h => h) (Or.inl ⟨by rfl, ?hy7⟩) hS ?rest7
        case hy7 => (intro w hSw; (try dsimp only at hSw); first | (go_simp; done) | (go_simp; with_reducible rfl))
        try simp only [Act.put, List.setIfInBounds_toArray, List.set_cons_zero, List.set_cons_succ]
        refine' wpAnyLast_take (i := 16) (oi := Oper.mk _ _ _ _ _ _) rfl (by kernel_rfl) (by kernel_rfl) (by kernel_rfl) (by kernel_rfl) (by kernel_rfl) (fun _ _ _ h => h) (Or.inl ⟨by rfl, ?hy8⟩) hS ?rest8
        case hy8 => (intro w hSw; (try dsimp only at hSw); first | (go_simp; done) | (go_simp; with_reducible rfl))
        try simp only [Act.put, List.setIfInBounds_toArray, List.set_cons_zero, List.set_cons_succ]
        refine wpAnyLast_take (i := 17) (oi := Oper.mk _ _ _ _ _ _) rfl (by kernel_rfl) (by kernel_rfl) (by kernel_rfl) (by kernel_rfl) (by kernel_rfl) (fun _ _ _ h => h) (rg_load (by rfl) (fun _ hS => hS.2.2.1) 24 _ rfl rfl Try.underlying24 rfl (by kernel_rfl)) hS ?_
        try simp only [Act.put, List.setIfInBounds_toArray, List.set_cons_zero, List.set_cons_succ]
        refine' wpAnyLast_take (i := 18) (oi := Oper.mk _ _ _ _ _ _) rfl (by kernel_rfl) (by kernel_rfl) (by kernel_rfl) (by kernel_rfl) (by kernel_rfl) (fun _ _ _ h => h) (Or.inl ⟨by rfl, ?hy9⟩) hS ?rest9
        case hy9 => (intro w hSw; (try dsimp only at hSw); first | (go_simp; done) | (go_simp; with_reducible rfl))
        try simp only [Act.put, List.setIfInBounds_toArray, List.set_cons_zero, List.set_cons_succ]
        refine wpAnyLast_ready (rs := [19]) (by kernel_rfl) (by simp) ?_
        refine AllReadyL.cons (o := Oper.mk _ _ _ _ _ _) rfl (by decide) (fun K hK => ?_) ?_
        · refine call_ 5 #[.string t] (by rfl) rfl (by first | (go_simp; done) | (go_simp; rfl)) ((RFt.out _).mono ?_)
          rintro e W' ⟨v, rfl, hrow, hb'⟩
          obtain ⟨A6, c6, rfl⟩ := own_slice hrow
          have hb := Aside0.mk hb'
          have R6 := Aside0.mk (show RowU 35 w.heap.size W' (.slice A6 nt c6, mt) from by have h := row_mono hrow HB.le; unfold RowU; rw [HLN.out.2.1]; exact h)
          clear hrow hb'
          have HBAGn := Aside0.mk (HBAG.out.below hb.out)
          have HBLn := Aside0.mk (HBL.out.below hb.out)
          have HBn := HB.step hb.out
          clear HBAG HBL HB
          have HBAG := HBAGn
          have HBL := HBLn
          have HB := HBn
          clear HBAGn HBLn HBn
          refine ⟨_, rfl, ?_⟩
          refine hK.out _ _ ⟨HBL.out.out (g5, #[.int .i64 zs, .slice A1 ns c1], 24) (by simp), HBL.out.out (g6, #[.int .i64 zs, .slice A2 ns c2], 24) (by simp), HBL.out.out (g7, #[.int .i64 zt, .slice A3 nt c3], 24) (by simp), HBL.out.out (g8, #[.int .i64 zs, .slice A4 ns c4], 24) (by simp), HBL.out.out (g9, #[.int .i64 zs, .slice A5 ns c5], 24) (by simp)⟩ (fun hS => ?_)
          clear hK K hb
          try simp only [Act.put, List.setIfInBounds_toArray, List.set_cons_zero, List.set_cons_succ]
          refine wpAnyLast_ready (rs := [20]) (by kernel_rfl) (by simp) ?_
          refine AllReadyL.cons (o := Oper.mk _ _ _ _ _ _) rfl (by decide) (fun K hK => ?_) ?_
          · refine rg_call (by rfl) _ _ (.bool true) (by first | (go_simp; done) | (go_simp; rfl)) (SBT.out _ _ _ _ _ _ _ _ HLN.out.2.1 (HBAG.out.row 2 _ rfl) R6.out HLN.out.2.2.2) ?_
            intro W' hb
            have HBAGn := Aside0.mk (HBAG.out.below hb.out)
            have HBLn := Aside0.mk (HBL.out.below hb.out)
            have HBn := HB.step hb.out
            clear HBAG HBL HB
            have HBAG := HBAGn
            have HBL := HBLn
            have HB := HBn
            clear HBAGn HBLn HBn
            clear R6
            refine hK.out _ _ ⟨HBL.out.out (g5, #[.int .i64 zs, .slice A1 ns c1], 24) (by simp), HBL.out.out (g6, #[.int .i64 zs, .slice A2 ns c2], 24) (by simp), HBL.out.out (g7, #[.int .i64 zt, .slice A3 nt c3], 24) (by simp), HBL.out.out (g8, #[.int .i64 zs, .slice A4 ns c4], 24) (by simp), HBL.out.out (g9, #[.int .i64 zs, .slice A5 ns c5], 24) (by simp)⟩ (fun hS => ?_)
            clear hK K hb
            try simp only [Act.put, List.setIfInBounds_toArray, List.set_cons_zero, List.set_cons_succ]
            refine' wpAnyLast_take (i := 21) (oi := Oper.mk _ _ _ _ _ _) rfl (by kernel_rfl) (by kernel_rfl) (by kernel_rfl) (by kernel_rfl) (by kernel_rfl) (fun _ _ _ h => h) (Or.inl ⟨by rfl, ?hy10⟩) hS ?rest10
            case hy10 => (intro w hSw; (try dsimp only at hSw); first | (go_simp; done) | (go_simp; with_reducible rfl))
            try simp only [Act.put, List.setIfInBounds_toArray, List.set_cons_zero, List.set_cons_succ]
            refine' wpAnyLast_take (i := 22) (oi := Oper.mk _ _ _ _ _ _) rfl (by kernel_rfl) (by kernel_rfl) (by kernel_rfl) (by kernel_rfl) (by kernel_rfl) (fun _ _ _ h => h) (Or.inl ⟨by rfl, ?hy11⟩) hS ?rest11
            case hy11 => (intro w hSw; (try dsimp only at hSw); first | (go_simp; done) | (go_simp; with_reducible rfl))
            try simp only [Act.put, List.setIfInBounds_toArray, List.set_cons_zero, List.set_cons_succ]
            refine wpAnyLast_done (by kernel_rfl) ?_ _
            refine NoPanic.normal ?_
            have k1a := (HBL.out.out (g5, #[.int .i64 zs, .slice A1 ns c1], 24) (by simp)).cell (i := 0) rfl
            have k1b := (HBL.out.out (g5, #[.int .i64 zs, .slice A1 ns c1], 24) (by simp)).cell (i := 1) rfl
            have k2a := (HBL.out.out (g6, #[.int .i64 zs, .slice A2 ns c2], 24) (by simp)).cell (i := 0) rfl
            have k2b := (HBL.out.out (g6, #[.int .i64 zs, .slice A2 ns c2], 24) (by simp)).cell (i := 1) rfl
            have k3a := (HBL.out.out (g7, #[.int .i64 zt, .slice A3 nt c3], 24) (by simp)).cell (i := 0) rfl
            have k3b := (HBL.out.out (g7, #[.int .i64 zt, .slice A3 nt c3], 24) (by simp)).cell (i := 1) rfl
            have k4a := (HBL.out.out (g8, #[.int .i64 zs, .slice A4 ns c4], 24) (by simp)).cell (i := 0) rfl
            have k4b := (HBL.out.out (g8, #[.int .i64 zs, .slice A4 ns c4], 24) (by simp)).cell (i := 1) rfl
            go_upto_region 10 with (first
              | ((with_reducible refine gate_dst (N := 48) rfl ?_); refine ev_litM rfl (#[.int .i64 zs, .slice A1 ns c1, .int .i64 zs, .slice A2 ns c2, .int .i64 zt, .slice A3 nt c3, .int .i64 zs, .slice A4 ns c4]) 24 4 ?hr ?_; (case hr => first | (go_simp; done) | (go_simp; rfl)); intro gl wl Gl Bl Kl; clear k1a k1b k2a k2b k3a k3b k4a k4b; have HBAGn := Aside0.mk (HBAG.out.below Kl.out); have HBLn := Aside0.mk (HBL.out.below Kl.out); have HBn := HB.step Kl.out; clear HBAG HBL HB; have HBAG := HBAGn; have HBL := HBLn; have HB := HBn; clear HBAGn HBLn HBn; clear Kl Gl)
              | (go_at_call 7; refine (quarrykit_ApartRows.walk 4 (bagV [(.slice A1 ns c1, ms), (.slice A2 ns c2, ms), (.slice A3 nt c3, mt), (.slice A4 ns c4, ms), (.slice A5 ns c5, ms)]) (bagN [(.slice A1 ns c1, ms), (.slice A2 ns c2, ms), (.slice A3 nt c3, mt), (.slice A4 ns c4, ms), (.slice A5 ns c5, ms)]) (bagC [(.slice A1 ns c1, ms), (.slice A2 ns c2, ms), (.slice A3 nt c3, mt), (.slice A4 ns c4, ms), (.slice A5 ns c5, ms)]) gl 4 _ _ (by decide) (by decide) (fun i hi => ?hnn) Bl (fun i hi => ?hll) (fun i hi => HBAG.out.rowF (by simp; omega)) (fun i j b hi hj => HBAG.out.disV i j b (by simp; omega) (by simp; omega))).mono ?_; (case hnn => (have hh := HLN.out; (have h4 : i = 0 ∨ i = 1 ∨ i = 2 ∨ i = 3 := by omega); rcases h4 with rfl | rfl | rfl | rfl <;> simp [bagN] <;> omega)); (case hll => ((have h4 : i = 0 ∨ i = 1 ∨ i = 2 ∨ i = 3 := by omega); rcases h4 with rfl | rfl | rfl | rfl <;> rfl)); rintro e wt ⟨rfl, hTv⟩; have R5 := Aside0.mk (hTv.row HBAG.out (by simp) (i := 4) rfl (by decide)); have B9 := hTv.blk HBAG.out (by simp) (t := 24) (HBL.out.out (g9, #[.int .i64 zs, .slice A5 ns c5], 24) (by simp)) (show (24 : Nat) ≠ 35 from by decide); have HBn := hTv.belowH HBAG.out (by simp) HB; clear HBAG HBL HB Bl hTv; have HB := HBn; clear HBn))
            go_upto_region 11 with (first
              | (go_at_call 4; refine (MKs.out _).mono ?_; rintro e w7 ⟨v7, rfl, hrow, hb⟩; obtain ⟨A7, c7, rfl⟩ := own_slice hrow; have R7 := Aside0.mk (show RowU 35 w.heap.size w7 (.slice A7 ns c7, ms) from (by have h := row_mono hrow HB.le; unfold RowU; rw [HLN.out.1]; exact h)); have R5n := Aside0.mk (show RowU 35 w.heap.size w7 (.slice A5 ns c5, ms) from row_below R5.out hb); have B9n := B9.below hb; have HBn := HB.step hb; clear R5 B9 HB hrow hb; have R5 := R5n; have B9 := B9n; have HB := HBn; clear R5n B9n HBn)
              | ((with_reducible refine gate_dst (N := 10) rfl ?_); refine ev_alloc HB rfl (#[.int .i64 0, .slice none 0 0]) 24 ?hr ?_; (case hr => first | (go_simp; done) | (go_simp; rfl)); intro g10 wa7 G7 GE7 B7 HBn K7; have NE7 : Aside0 (g9 ≠ g10) := ⟨by have := B9.lt; have := G7.out; omega⟩; have B9n := B9.below K7.out; have R5n := Aside0.mk (show RowU 35 w.heap.size wa7 (.slice A5 ns c5, ms) from row_below R5.out K7.out); have R7n := Aside0.mk (show RowU 35 w.heap.size wa7 (.slice A7 ns c7, ms) from row_below R7.out K7.out); clear B9 R5 R7 HB K7 G7; have B9 := B9n; have R5 := R5n; have R7 := R7n; have HB := HBn; clear B9n R5n R7n HBn)
              | ((with_reducible refine gate_ (Op.store 24 (.tmp 10) (.tmp 52)) rfl ?_); refine ev_store HB B7 GE7 rfl 24 _ _ rfl rfl rfl (by kernel_rfl) rfl (by simp [Value.oneCell']) ?_; intro ws7 S7 HBn K7; have B9n := B9.other K7 NE7.out; have R5n := Aside0.mk (show RowU 35 w.heap.size ws7 (.slice A5 ns c5, ms) from row_other R5.out B7 (by decide) K7); have R7n := Aside0.mk (show RowU 35 w.heap.size ws7 (.slice A7 ns c7, ms) from row_other R7.out B7 (by decide) K7); clear B9 R5 R7 HB K7 B7 NE7 GE7; have B9 := B9n; have R5 := R5n; have R7 := R7n; have HB := HBn; clear B9n R5n R7n HBn))
            have m1 := S7.cell (i := 0) rfl
            have m2 := S7.cell (i := 1) rfl
            have m3 := B9.cell (i := 0) rfl
            have m4 := B9.cell (i := 1) rfl
            go_wp2_with (first
              | (go_at_call 6; refine (SBT.out _ _ _ _ _ _ _ _ HLN.out.1 R7.out R5.out HLN.out.2.2.1).mono ?_; rintro e wq ⟨rfl, hb⟩; have HBn := HB.step hb; clear HB hb m1 m2 m3 m4; have HB := HBn; clear HBn)
              | (go_at_call 8; go_must (refine (BH.out _).mono ?_); rintro e wz ⟨rfl, hb⟩; have HBn := HB.step hb; clear HB hb; have HB := HBn; clear HBn))
            go_ret
            exact ⟨rfl, HB.out⟩
          exact AllReadyL.nil
        exact AllReadyL.nil
      exact AllReadyL.nil
    exact AllReadyL.nil
  exact AllReadyL.nil
def quarrylaw06_EscapeKeeps.f (k : Nat) (a0 : ByteArray) (a1 : ByteArray) : Option Bool := if a0.size ≤ 1048576 ∧ a1.size ≤ 1048576 then some true else none
theorem quarrylaw06_EscapeKeeps.calls (k : Nat) (a0 : ByteArray) (a1 : ByteArray) (r : Bool) (w : World) (h : quarrylaw06_EscapeKeeps.f k a0 a1 = some r) :
    Calls Try.prog 3 #[.string a0, .string a1] w fun e w' => e = .returned (.bool r) ∧ Below w.heap.size w w' := by
  unfold quarrylaw06_EscapeKeeps.f at h
  by_cases hs : a0.size ≤ 1048576 ∧ a1.size ≤ 1048576
  case neg => rw [if_neg hs] at h; cases h
  rw [if_pos hs] at h
  cases h
  exact quarrylaw06_EscapeKeeps.true_ a0 a1 hs.1 hs.2 w
def quarrylaw06_EscapeKeeps.Pure : Prop := ∀ (a0 : ByteArray) (a1 : ByteArray), a0.size ≤ 1048576 → a1.size ≤ 1048576 → ∃ k, quarrylaw06_EscapeKeeps.f k a0 a1 = some true
theorem quarrylaw06_EscapeKeeps.walk (P : quarrylaw06_EscapeKeeps.Pure) (a0 : ByteArray) (a1 : ByteArray) (w : World) (w0 : a0.size ≤ 1048576) (w1 : a1.size ≤ 1048576) :
    Calls Try.prog 3 #[.string a0, .string a1] w fun e w' => e = .returned (.bool true) ∧ Below w.heap.size w w' := by
  obtain ⟨k, hk⟩ := P a0 a1 w0 w1
  exact quarrylaw06_EscapeKeeps.calls k a0 a1 true w hk
end


end Go.Proofs.Ytagcilcdgckbeaa.PE
