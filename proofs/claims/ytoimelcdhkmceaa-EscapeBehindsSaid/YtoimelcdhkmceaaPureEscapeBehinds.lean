/-
  EscapeBehinds: for every text, escape.Behind and the document's Behind tell the same, whatever is said of the first byte. No condition.
-/
import Derived.Test.YtoimelcdhkmceaaPBx1
namespace Go.Proofs.Ytoimelcdhkmceaa.Pure
open Go.RowKit Go.Proofs.Ytoimelcdhkmceaa.PB Go.Proofs.YtoimelcdhkmceaaW.PrintWords Go.Proofs.YtoimelcdhkmceaaW.PrintLast

/-- How many backslashes end ahead of a place. -/
def runs (s : ByteArray) : Nat → Nat
  | 0 => 0
  | i + 1 => if bt s (i : Int) = 92 then runs s i + 1 else 0
theorem runs_le (s : ByteArray) : ∀ i, runs s i ≤ i
  | 0 => Nat.le_refl _
  | i + 1 => by have := runs_le s i; unfold runs; split <;> omega

theorem odd_loop (s : ByteArray) (a : Int) (ha0 : 0 ≤ a) (ha : a ≤ s.size) (hn : s.size ≤ 140737488351232) :
    ∀ (i k : Nat), (i : Int) ≤ a → i < k → escape_Odd.l0 k s a (i : Int) = some ((i : Int) - runs s i, (Int.tmod (a - ((i : Int) - runs s i)) 2 == 1)) := by
  intro i
  induction i with
  | zero =>
    intro k hi hk
    obtain ⟨k, rfl⟩ : ∃ m, k = m + 1 := ⟨k - 1, by omega⟩
    have e : wrap64 (a - ((0 : Nat) : Int)) = a - ((0 : Nat) : Int) := by unfold wrap64; omega
    simp only [escape_Odd.l0, runs]
    rw [if_neg (by omega), e]
    simp
  | succ i ih =>
    intro k hi hk
    obtain ⟨k, rfl⟩ : ∃ m, k = m + 1 := ⟨k - 1, by omega⟩
    have e1 : wrap64 (((i + 1 : Nat) : Int) - 1) = (i : Int) := by unfold wrap64; omega
    have hr := runs_le s i
    simp only [escape_Odd.l0, e1]
    rw [if_pos (by omega), if_pos (by omega), if_pos (by omega)]
    by_cases h : bt s (i : Int) = 92
    · rw [if_pos h, ih k (by omega) (by omega)]
      simp only [runs, if_pos h]
      have : ((i : Int) - (runs s i : Nat)) = ((i + 1 : Nat) : Int) - ((runs s i + 1 : Nat) : Int) := by omega
      rw [this]
    · rw [if_neg h]
      simp only [runs, if_neg h]
      have e : wrap64 (a - ((i + 1 : Nat) : Int)) = a - ((i + 1 : Nat) : Int) := by unfold wrap64; omega
      rw [e]
      simp


/-- Is the byte at a place escaped, the first one being so or not. -/
def esc (s : ByteArray) (first : Bool) : Nat → Bool
  | 0 => first
  | i + 1 => decide (bt s (i : Int) = 92) && !esc s first i
/-- The list of all of them up to a place. -/
def escs (s : ByteArray) (first : Bool) : Nat → List Bool
  | 0 => [first]
  | i + 1 => escs s first i ++ [esc s first (i + 1)]
theorem escs_length (s : ByteArray) (f : Bool) : ∀ i, (escs s f i).length = i + 1
  | 0 => rfl
  | i + 1 => by simp [escs, escs_length s f i]
theorem escs_last (s : ByteArray) (f : Bool) (i : Nat) : rdOf false (escs s f i) (i : Int) = esc s f i := by
  unfold rdOf
  cases i with
  | zero => rfl
  | succ i => simp only [escs]; rw [Int.toNat_natCast, List.getD_eq_getElem?_getD, List.getElem?_append_right (by rw [escs_length]; omega), escs_length]; simp

theorem is_loop (s : ByteArray) (f : Bool) (hn : s.size ≤ 140737488351232) :
    ∀ (d i k : Nat), i + d = s.size → d < k → quarryref06_Is.l0 k s (escs s f i) (i : Int) = some (escs s f s.size) := by
  intro d
  induction d with
  | zero =>
    intro i k hi hk
    obtain ⟨k, rfl⟩ : ∃ m, k = m + 1 := ⟨k - 1, by omega⟩
    simp only [quarryref06_Is.l0]
    rw [if_neg (by omega)]
    rw [show i = s.size by omega]
  | succ d ih =>
    intro i k hi hk
    obtain ⟨k, rfl⟩ : ∃ m, k = m + 1 := ⟨k - 1, by omega⟩
    have hl := escs_length s f i
    have e1 : wrap64 ((i : Int) + 1) = ((i + 1 : Nat) : Int) := by unfold wrap64; omega
    have e2 := ih (i + 1) k (by omega) (by omega)
    simp only [quarryref06_Is.l0, e1]
    rw [if_pos (by omega), if_pos (by omega)]
    by_cases h : bt s (i : Int) = 92
    · rw [if_pos h, if_pos (by omega), if_pos (by omega), escs_last]
      simp only [escs, esc, h] at e2
      simpa using e2
    · rw [if_neg h, if_pos (by omega)]
      simp only [escs, esc, h] at e2
      simpa using e2

/-- The parity of the row of backslashes tells what is escaped. -/
theorem esc_runs (s : ByteArray) (f : Bool) : ∀ i, esc s f i = if runs s i = i ∧ f = true then !(runs s i % 2 == 1) else (runs s i % 2 == 1)
  | 0 => by cases f <;> simp [esc, runs]
  | i + 1 => by
    have hl := runs_le s i
    have ih := esc_runs s f i
    simp only [esc, runs]
    by_cases h : bt s (i : Int) = 92
    · rw [ih]
      simp only [h, decide_true, Bool.true_and, if_true, Nat.add_right_cancel_iff]
      have hp : ((runs s i + 1) % 2 == 1) = !(runs s i % 2 == 1) := by
        rcases Nat.mod_two_eq_zero_or_one (runs s i) with e | e
        · rw [e, show (runs s i + 1) % 2 = 1 by omega]; rfl
        · rw [e, show (runs s i + 1) % 2 = 0 by omega]; rfl
      rw [hp]
      split <;> simp
    · simp [h]

theorem behind_f (s : ByteArray) (f : Bool) (hn : s.size ≤ 140737488351232) : escape_Behind.f (s.size + 5) s f = some (esc s f s.size) := by
  have hl := runs_le s s.size
  have e1 := odd_loop s (s.size : Nat) (by omega) (by omega) hn s.size (s.size + 4) (by omega) (by omega)
  have e1' : escape_Odd.f (s.size + 5) s (s.size : Nat) = escape_Odd.l0 (s.size + 4) s (s.size : Nat) (s.size : Nat) := by
    unfold escape_Odd.f; rw [if_neg (by omega), decide_eq_false (by omega)]; rfl
  have e3 : (Int.tmod (((s.size : Nat) : Int) - (((s.size : Nat) : Int) - (runs s s.size : Nat))) 2 == 1) = (runs s s.size % 2 == 1) := by
    rw [show ((s.size : Nat) : Int) - (((s.size : Nat) : Int) - (runs s s.size : Nat)) = (runs s s.size : Nat) by omega]
    rw [Int.tmod_eq_emod_of_nonneg (by omega), Bool.eq_iff_iff]
    simp only [beq_iff_eq]
    omega
  unfold escape_Behind.f
  rw [e1', e1, Option.bind_some]
  simp only [e3]
  rw [esc_runs]
  by_cases h : runs s s.size = s.size
  · rw [if_pos (by omega)]
    cases f <;> simp [h]
  · rw [if_neg (by omega)]
    simp [h]

theorem odd_one : escape_Odd.f 5 (⟨#[92]⟩ : ByteArray) 1 = some (0, true) := by
  have e := odd_loop (⟨#[92]⟩ : ByteArray) 1 (by decide) (by decide) (by decide) 1 4 (by decide) (by decide)
  have e' : escape_Odd.f 5 (⟨#[92]⟩ : ByteArray) 1 = escape_Odd.l0 4 (⟨#[92]⟩ : ByteArray) 1 ((1 : Nat) : Int) := by
    unfold escape_Odd.f; rw [if_neg (by decide), decide_eq_false (by decide)]; rfl
  rw [e', e]
  decide


theorem EscapeBehinds : quarrylaw06_EscapeBehinds.Pure := by
  intro s f hn
  refine ⟨s.size + 6, ?_⟩
  have h1 : escape_Behind.f (s.size + 6) s f = some (esc s f s.size) := at_rounds (fun k => escape_Behind.mono _ _ k) (by omega) (behind_f s f hn)
  have h2 : quarryref06_Is.f (s.size + 6) s f = some (escs s f s.size) := is_loop s f hn s.size 0 (s.size + 6) (by omega) (by omega)
  have h3 : escape_Behind.f (s.size + 6) (⟨#[92]⟩ : ByteArray) false = some true :=
    at_rounds (fun k => escape_Behind.mono _ _ k) (show (⟨#[92]⟩ : ByteArray).size + 5 ≤ s.size + 6 by show 6 ≤ _; omega) ((behind_f (⟨#[92]⟩ : ByteArray) false (by decide)).trans (by decide))
  have h4 : quarryref06_Behind.f (s.size + 6) s f = some (esc s f s.size) := by
    unfold quarryref06_Behind.f
    rw [h2, Option.bind_some, if_pos (by omega), if_pos (by rw [escs_length]; omega), escs_last]
  unfold quarrylaw06_EscapeBehinds.f
  rw [h1, h4, h3]
  simp

end Go.Proofs.Ytoimelcdhkmceaa.Pure
