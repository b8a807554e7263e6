/-
  EscapeOdds: for every text and every place, escape.Odd and the document's Odd tell the same first backslash and the same parity. No condition.
-/
import Derived.Test.YtoimelcdhkmceaaPEscapeOddsx1
namespace Go.Proofs.Ytoimelcdhkmceaa.Pure
open Go.RowKit Go.Proofs.Ytoimelcdhkmceaa.PEscapeOdds Go.Proofs.YtoimelcdhkmceaaW.PrintWords Go.Proofs.YtoimelcdhkmceaaW.PrintLast

/-- How many backslashes end ahead of a place. -/
def runs (s : ByteArray) : Nat → Nat
  | 0 => 0
  | i + 1 => if bt s (i : Int) = 92 then runs s i + 1 else 0
theorem runs_le (s : ByteArray) : ∀ i, runs s i ≤ i
  | 0 => Nat.le_refl _
  | i + 1 => by have := runs_le s i; unfold runs; split <;> omega

theorem odd_loop (s : ByteArray) (a : Int) (ha0 : 0 ≤ a) (ha : a ≤ s.size) (hn : s.size ≤ 140737488351232) :
    ∀ (i k : Nat), (i : Int) ≤ a → i < k → escape_Odd.l0 k s a (i : Int) = some ((i : Int) - runs s i, (Int.tmod (a - ((i : Int) - runs s i)) 2 == 1)) := by
  intro i
  induction i with
  | zero =>
    intro k hi hk
    obtain ⟨k, rfl⟩ : ∃ m, k = m + 1 := ⟨k - 1, by omega⟩
    have e : wrap64 (a - ((0 : Nat) : Int)) = a - ((0 : Nat) : Int) := by unfold wrap64; omega
    simp only [escape_Odd.l0, runs]
    rw [if_neg (by omega), e]
    simp
  | succ i ih =>
    intro k hi hk
    obtain ⟨k, rfl⟩ : ∃ m, k = m + 1 := ⟨k - 1, by omega⟩
    have e1 : wrap64 (((i + 1 : Nat) : Int) - 1) = (i : Int) := by unfold wrap64; omega
    have hr := runs_le s i
    simp only [escape_Odd.l0, e1]
    rw [if_pos (by omega), if_pos (by omega), if_pos (by omega)]
    by_cases h : bt s (i : Int) = 92
    · rw [if_pos h, ih k (by omega) (by omega)]
      simp only [runs, if_pos h]
      have : ((i : Int) - (runs s i : Nat)) = ((i + 1 : Nat) : Int) - ((runs s i + 1 : Nat) : Int) := by omega
      rw [this]
    · rw [if_neg h]
      simp only [runs, if_neg h]
      have e : wrap64 (a - ((i + 1 : Nat) : Int)) = a - ((i + 1 : Nat) : Int) := by unfold wrap64; omega
      rw [e]
      simp

theorem ref_loop (s : ByteArray) (a : Int) (ha : a ≤ s.size) (hn : s.size ≤ 140737488351232) :
    ∀ (i k n : Nat), (i : Int) + n = a → i < k → quarryref06_Odd.l0 k s a (n : Int) = some ((i : Int) - runs s i, (Int.tmod (a - ((i : Int) - runs s i)) 2 == 1)) := by
  intro i
  induction i with
  | zero =>
    intro k n hi hk
    obtain ⟨k, rfl⟩ : ∃ m, k = m + 1 := ⟨k - 1, by omega⟩
    have e : wrap64 (a - (n : Int)) = 0 := by unfold wrap64; omega
    have e' : a = (n : Int) := by omega
    simp only [quarryref06_Odd.l0, runs]
    rw [if_neg (by omega), e, e']
    simp
  | succ i ih =>
    intro k n hi hk
    obtain ⟨k, rfl⟩ : ∃ m, k = m + 1 := ⟨k - 1, by omega⟩
    have e0 : wrap64 (a - (n : Int)) = ((i + 1 : Nat) : Int) := by unfold wrap64; omega
    have e1 : wrap64 (((i + 1 : Nat) : Int) - 1) = (i : Int) := by unfold wrap64; omega
    have e2 : wrap64 ((n : Int) + 1) = ((n + 1 : Nat) : Int) := by unfold wrap64; omega
    have hr := runs_le s i
    simp only [quarryref06_Odd.l0, e0, e1, e2]
    rw [if_pos (by omega), if_pos (by omega), if_pos (by omega)]
    by_cases h : bt s (i : Int) = 92
    · rw [if_pos h, ih k (n + 1) (by omega) (by omega)]
      simp only [runs, if_pos h]
      have : ((i : Int) - (runs s i : Nat)) = ((i + 1 : Nat) : Int) - ((runs s i + 1 : Nat) : Int) := by omega
      rw [this]
    · rw [if_neg h]
      simp only [runs, if_neg h]
      have : a - (((i + 1 : Nat) : Int) - ((0 : Nat) : Int)) = (n : Int) := by omega
      rw [this]
      simp

theorem odd_one : escape_Odd.f 5 (⟨#[92]⟩ : ByteArray) 1 = some (0, true) := by
  have e := odd_loop (⟨#[92]⟩ : ByteArray) 1 (by decide) (by decide) (by decide) 1 4 (by decide) (by decide)
  have e' : escape_Odd.f 5 (⟨#[92]⟩ : ByteArray) 1 = escape_Odd.l0 4 (⟨#[92]⟩ : ByteArray) 1 ((1 : Nat) : Int) := by
    unfold escape_Odd.f; rw [if_neg (by decide), decide_eq_false (by decide)]; rfl
  rw [e', e]
  decide

theorem EscapeOdds : quarrylaw06_EscapeOdds.Pure := by
  intro s a hn ha
  refine ⟨s.size + 5, ?_⟩
  have h1 : escape_Odd.f (s.size + 5) (⟨#[92]⟩ : ByteArray) 1 = some (0, true) := at_rounds (fun k => escape_Odd.mono _ _ k) (by omega) odd_one
  unfold quarrylaw06_EscapeOdds.f
  rw [h1]
  by_cases h0 : a < 0
  · have e1 : escape_Odd.f (s.size + 5) s a = some (0, false) := by
      unfold escape_Odd.f; rw [if_pos h0]; rfl
    have e2 : quarryref06_Odd.f (s.size + 5) s a = some (0, false) := by
      unfold quarryref06_Odd.f; rw [if_pos h0]; rfl
    rw [e1, e2]; rfl
  · by_cases h2 : a > s.size
    · have e1 : escape_Odd.f (s.size + 5) s a = some (0, false) := by
        unfold escape_Odd.f; rw [if_neg h0, decide_eq_true h2]; rfl
      have e2 : quarryref06_Odd.f (s.size + 5) s a = some (0, false) := by
        unfold quarryref06_Odd.f; rw [if_neg h0, decide_eq_true h2]; rfl
      rw [e1, e2]; rfl
    · obtain ⟨n, rfl⟩ : ∃ n : Nat, a = n := ⟨a.toNat, by omega⟩
      have e1 := odd_loop s n (by omega) (by omega) hn n (s.size + 4) (by omega) (by omega)
      have e2 := ref_loop s n (by omega) hn n (s.size + 4) 0 (by omega) (by omega)
      have e1' : escape_Odd.f (s.size + 5) s n = escape_Odd.l0 (s.size + 4) s n n := by
        unfold escape_Odd.f; rw [if_neg h0, decide_eq_false h2]; rfl
      have e2' : quarryref06_Odd.f (s.size + 5) s n = quarryref06_Odd.l0 (s.size + 4) s n 0 := by
        unfold quarryref06_Odd.f; rw [if_neg h0, decide_eq_false h2]; rfl
      have e2'' : quarryref06_Odd.l0 (s.size + 4) s n 0 = _ := e2
      rw [e1', e2', e1, e2'']
      simp

end Go.Proofs.Ytoimelcdhkmceaa.Pure
