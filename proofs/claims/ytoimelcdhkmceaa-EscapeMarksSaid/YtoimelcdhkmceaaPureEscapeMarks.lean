/-
  EscapeMarks: for every text up to the model's length, escape.Escaped and the document's Escaped give the same bitmap; and of a backslash and an 'a' the second byte alone is escaped.
-/
import Derived.Test.YtoimelcdhkmceaaPEx3
import Derived.Test.YtoimelcdhkmceaaQc
namespace Go.Proofs.Ytoimelcdhkmceaa.Pure
open Go Go.RowKit Go.Proofs.Ytoimelcdhkmceaa.PE Go.Proofs.YtoimelcdhkmceaaW.PrintWords Go.Proofs.YtoimelcdhkmceaaW.PrintLast Go.Proofs.YtoimelcdhkmceaaQ
theorem same_loop (l : List Int) (a b : Int) (hl : l.length ≤ 140737488355328) : ∀ (d i k : Nat), i + d = l.length → d < k → quarryref00_SameBits.l0 k (i : Int) a l b l = some true := by
  intro d
  induction d with
  | zero =>
    intro i k hi hk
    obtain ⟨k, rfl⟩ : ∃ m, k = m + 1 := ⟨k - 1, by omega⟩
    unfold quarryref00_SameBits.l0
    rw [if_neg (by omega)]
  | succ d ih =>
    intro i k hi hk
    obtain ⟨k, rfl⟩ : ∃ m, k = m + 1 := ⟨k - 1, by omega⟩
    have e : wrap64 ((i : Int) + 1) = ((i + 1 : Nat) : Int) := by unfold wrap64; omega
    unfold quarryref00_SameBits.l0
    rw [if_pos (by omega), if_pos (by omega), if_pos (by omega), if_pos rfl, e, ih (i + 1) k (by omega) (by omega)]
/-- A bitmap is the same as itself. -/
theorem same_refl (n : Int) (l : List Int) (hl : l.length ≤ 140737488355328) (k : Nat) (hk : l.length + 1 < k) : quarryref00_SameBits.f k n l n l = some true := by
  obtain ⟨k, rfl⟩ : ∃ m, k = m + 1 := ⟨k - 1, by omega⟩
  unfold quarryref00_SameBits.f
  rw [if_pos rfl]
  simp only [quarryref00_SameBits.j0, bne_self_eq_false, Bool.false_eq_true, if_false]
  exact same_loop l n n hl l.length 0 k (by omega) (by omega)
theorem div_step (v : BitVec 64) (d : Nat) : v.toNat / 2 ^ d = 2 * (v.toNat / 2 ^ (d + 1)) + (if v.getLsbD d = true then 1 else 0) := by
  have h1 : v.toNat / 2 ^ (d + 1) = v.toNat / 2 ^ d / 2 := by rw [Nat.pow_succ, Nat.div_div_eq_div_mul]
  have h2 : v.getLsbD d = decide (v.toNat / 2 ^ d % 2 = 1) := by
    show v.toNat.testBit d = _
    rw [Nat.testBit_eq_decide_div_mod_eq]
  rw [h1, h2]
  by_cases h : v.toNat / 2 ^ d % 2 = 1
  · rw [decide_eq_true h, if_pos rfl]; omega
  · rw [decide_eq_false h, if_neg (by decide)]; omega
theorem need_eq (n : Nat) (h : n ≤ 140737488355328) : quarryref04_need.f (n : Int) = some ((nwords n : Nat) : Int) := by
  unfold quarryref04_need.f
  have e1 : Int.tmod (n : Int) 64 = ((n % 64 : Nat) : Int) := rfl
  have e2 : Int.tdiv (n : Int) 64 = ((n / 64 : Nat) : Int) := rfl
  have e3 : wrap64 ((n / 64 : Nat) : Int) = ((n / 64 : Nat) : Int) := by unfold wrap64; omega
  rw [e1, e2, e3]
  have e4 : wrap64 (((n / 64 : Nat) : Int) + 1) = ((n / 64 : Nat) : Int) + 1 := by unfold wrap64; omega
  rw [e4]
  unfold nwords
  by_cases h : n % 64 = 0
  · rw [if_pos (by omega)]; congr 1; omega
  · rw [if_neg (by omega)]; congr 1; omega
theorem of_inner (l : List Bool) (w : Nat) (hw : w ≤ 2199023255552) (z : Int) (ws : List Int) (hs : ws.length < 17592186044416) :
    ∀ (d k : Nat), d ≤ 64 → quarryref04_Of.l1 (k + d + 1) l (w : Int) (((wordAt l.length (fun i => l.getD i false) w).toNat / 2 ^ d : Nat) : Int) ((d : Int) - 1) z ws =
      quarryref04_Of.l0 k l ((w + 1 : Nat) : Int) z (ws ++ [iv (wordAt l.length (fun i => l.getD i false) w)]) := by
  intro d
  induction d with
  | zero =>
    intro k hd
    have e : wrap64 ((w : Int) + 1) = ((w + 1 : Nat) : Int) := by unfold wrap64; omega
    unfold quarryref04_Of.l1
    rw [if_neg (by omega), if_pos hs, e, Nat.pow_zero, Nat.div_one]
    rfl
  | succ d ih =>
    intro k hd
    have e0 : wrap64 (64 * (w : Int)) = 64 * (w : Int) := by unfold wrap64; omega
    have e1 : wrap64 (64 * (w : Int) + (((d + 1 : Nat) : Int) - 1)) = ((64 * w + d : Nat) : Int) := by unfold wrap64; omega
    have e2 : wrap64 ((((d + 1 : Nat) : Int) - 1) - 1) = (d : Int) - 1 := by unfold wrap64; omega
    have hst := div_step (wordAt l.length (fun i => l.getD i false) w) d
    have hlt : (wordAt l.length (fun i => l.getD i false) w).toNat / 2 ^ d < 18446744073709551616 := Nat.lt_of_le_of_lt (Nat.div_le_self _ _) (wordAt l.length (fun i => l.getD i false) w).isLt
    have hbit : (wordAt l.length (fun i => l.getD i false) w).getLsbD d = (decide (64 * w + d < l.length) && l.getD (64 * w + d) false) := by
      unfold wordAt
      rw [word_bit]
      simp [show d < 64 by omega]
    have hi := ih k (by omega)
    rw [hbit] at hst
    generalize (wordAt l.length (fun i => l.getD i false) w).toNat / 2 ^ d = X at hst hlt hi ⊢
    generalize (wordAt l.length (fun i => l.getD i false) w).toNat / 2 ^ (d + 1) = Y at hst ⊢
    have er : rdOf false l ((64 * w + d : Nat) : Int) = l.getD (64 * w + d) false := by unfold rdOf; rw [Int.toNat_natCast]
    show quarryref04_Of.l1 ((k + d + 1) + 1) l _ _ _ z ws = _
    unfold quarryref04_Of.l1
    rw [if_pos (by omega), e0, e1, e2, er]
    by_cases h : 64 * w + d < l.length
    · rw [if_pos (by omega), if_pos (by omega)]
      rw [decide_eq_true h, Bool.true_and] at hst
      by_cases g : l.getD (64 * w + d) false = true
      · rw [if_pos g] at hst ⊢
        have e3 : IntKind.u64.wrap (IntKind.u64.wrap (2 * (Y : Int)) + 1) = (X : Int) := by rw [IntKind.wrap_u64, IntKind.wrap_u64]; omega
        rw [e3]
        exact hi
      · rw [if_neg g] at hst ⊢
        have e3 : IntKind.u64.wrap (2 * (Y : Int)) = (X : Int) := by rw [IntKind.wrap_u64]; omega
        rw [e3]
        exact hi
    · rw [if_neg (by omega)]
      rw [decide_eq_false h, Bool.false_and, if_neg (by decide)] at hst
      have e3 : IntKind.u64.wrap (2 * (Y : Int)) = (X : Int) := by rw [IntKind.wrap_u64]; omega
      rw [e3]
      exact hi
theorem of_loop (l : List Bool) (hl : l.length ≤ 140737488355328) (z : Int) :
    ∀ (d i k : Nat), i + d = nwords l.length → 66 * d < k → quarryref04_Of.l0 k l (i : Int) z ((List.range i).map fun j => iv (wordAt l.length (fun i => l.getD i false) j)) = some (z, wordsOf l.length fun i => l.getD i false) := by
  have hw : nwords l.length ≤ 2199023255552 := by unfold nwords; omega
  intro d
  induction d with
  | zero =>
    intro i k hi hk
    obtain ⟨k, rfl⟩ : ∃ m, k = m + 1 := ⟨k - 1, by omega⟩
    unfold quarryref04_Of.l0
    rw [need_eq _ hl, Option.bind_some, if_neg (by omega), show i = nwords l.length by omega]
    rfl
  | succ d ih =>
    intro i k hi hk
    obtain ⟨k, rfl⟩ : ∃ m, k = (m + 64 + 1) + 1 := ⟨k - 66, by omega⟩
    unfold quarryref04_Of.l0
    rw [need_eq _ hl, Option.bind_some, if_pos (by omega)]
    have := of_inner l i (by omega) z ((List.range i).map fun j => iv (wordAt l.length (fun i => l.getD i false) j)) (by rw [List.length_map, List.length_range]; omega) 64 k (by omega)
    have e : (wordAt l.length (fun i => l.getD i false) i).toNat / 2 ^ 64 = 0 := Nat.div_eq_of_lt (wordAt l.length (fun i => l.getD i false) i).isLt
    rw [e] at this
    have h2 := ih (i + 1) k (by omega) (by omega)
    rw [List.range_succ, List.map_append] at h2
    exact this.trans h2
/-- The document's Of: the bits of a list, 64 in a word. -/
theorem of_eq (l : List Bool) (hl : l.length ≤ 140737488355328) (k : Nat) (hk : 66 * nwords l.length < k) : quarryref04_Of.f k l = some ((l.length : Int), wordsOf l.length fun i => l.getD i false) := by
  unfold quarryref04_Of.f
  exact of_loop l hl _ (nwords l.length) 0 k (by omega) (by omega)
theorem is_loop (s : ByteArray) (f : Bool) (hn : s.size ≤ 140737488351232) :
    ∀ (d i k : Nat), i + d = s.size → d < k → quarryref06_Is.l0 k s ((List.range (i + 1)).map (esc s f)) (i : Int) = some ((List.range (s.size + 1)).map (esc s f)) := by
  intro d
  induction d with
  | zero =>
    intro i k hi hk
    obtain ⟨k, rfl⟩ : ∃ m, k = m + 1 := ⟨k - 1, by omega⟩
    unfold quarryref06_Is.l0
    rw [if_neg (by omega), show i = s.size by omega]
  | succ d ih =>
    intro i k hi hk
    obtain ⟨k, rfl⟩ : ∃ m, k = m + 1 := ⟨k - 1, by omega⟩
    have e1 : wrap64 ((i : Int) + 1) = ((i + 1 : Nat) : Int) := by unfold wrap64; omega
    have hl : ((List.range (i + 1)).map (esc s f)).length = i + 1 := by simp
    have h2 := ih (i + 1) k (by omega) (by omega)
    rw [List.range_succ, List.map_append] at h2
    have er : rdOf false ((List.range (i + 1)).map (esc s f)) (i : Int) = esc s f i := by
      unfold rdOf
      rw [Int.toNat_natCast]
      simp
    unfold quarryref06_Is.l0
    rw [if_pos (by omega), if_pos (by omega), e1, er, hl]
    by_cases h : bt s (i : Int) = 92
    · rw [if_pos h, if_pos (by omega), if_pos (by omega)]
      rw [show ((List.map (esc s f) [i + 1])) = [!esc s f i] by simp [esc, h]] at h2
      exact h2
    · rw [if_neg h, if_pos (by omega)]
      rw [show ((List.map (esc s f) [i + 1])) = [false] by simp [esc, h]] at h2
      exact h2
/-- The document's Is: is each byte escaped, and the one behind the last. -/
theorem is_eq (s : ByteArray) (f : Bool) (hn : s.size ≤ 140737488351232) (k : Nat) (hk : s.size < k) : quarryref06_Is.f k s f = some ((List.range (s.size + 1)).map (esc s f)) := by
  unfold quarryref06_Is.f
  exact is_loop s f hn s.size 0 k (by omega) hk
/-- The document's Escaped. -/
theorem refesc_eq (s : ByteArray) (hn : s.size ≤ 140737488351232) (k : Nat) (hk : 66 * s.size + 66 < k) : quarryref06_Escaped.f k s = some ((s.size : Int), wordsOf s.size (esc s false)) := by
  unfold quarryref06_Escaped.f
  have hl : (((List.range (s.size + 1)).map (esc s false)).take s.size).length = s.size := by simp
  have ho := of_eq (((List.range (s.size + 1)).map (esc s false)).take s.size) (by omega) k (by rw [hl]; unfold nwords; omega)
  rw [hl] at ho
  have hx : wordsOf s.size (fun i => (((List.range (s.size + 1)).map (esc s false)).take s.size).getD i false) = wordsOf s.size (esc s false) := by
    refine wordsOf_ext fun i hi => ?_
    rw [List.getD_eq_getElem?_getD, List.getElem?_take_of_lt hi, List.getElem?_map, List.getElem?_range (by omega)]
    rfl
  rw [hx] at ho
  rw [is_eq s false hn k (by omega), Option.bind_some, if_pos (by omega), if_pos (by simp; omega), Int.toNat_natCast, ho]
  rfl
theorem two_bytes : wordsOf (⟨#[92, 97]⟩ : ByteArray).size (esc (⟨#[92, 97]⟩ : ByteArray) false) = [2] := by decide +kernel
theorem EscapeMarks : quarrylaw06_EscapeMarks.Pure := by
  intro s hn
  refine ⟨66 * s.size + 100, ?_⟩
  have hl : (wordsOf s.size (esc s false)).length ≤ s.size + 1 := by rw [wordsOf_length]; unfold nwords; omega
  have h2 : (⟨#[92, 97]⟩ : ByteArray).size = 2 := rfl
  unfold quarrylaw06_EscapeMarks.f escape_Escaped.f
  rw [if_pos hn, if_pos (by rw [h2]; omega), two_bytes, Option.bind_some, Option.bind_some, refesc_eq s hn _ (by omega), Option.bind_some, same_refl _ _ (by show (wordsOf s.size (esc s false)).length ≤ _; omega) _ (by show (wordsOf s.size (esc s false)).length + 1 < _; omega), Option.bind_some, if_pos rfl]
  rfl

end Go.Proofs.Ytoimelcdhkmceaa.Pure
