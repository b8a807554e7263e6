/-
  Plain facts on what a byte is by itself (marks.kindOf, marks.classes). No program in sight.
-/
import Derived.Test.YtadcgjmhhodnoaaDoorQf
namespace Go.Proofs.YtadcgjmhhodnoaaDoorQ
open Go Go.RowKit Go.Proofs.YtadcgjmhhodnoaaDoorW.PrintWords

def kindsX : List Nat := [123, 125, 91, 93, 58, 44, 32, 9, 10, 13]
/-- Is it a structural byte? -/
def sgx (x : Nat) : Bool := x == 123 || x == 125 || x == 91 || x == 93 || x == 58 || x == 44
/-- Is it a blank? -/
def blx (x : Nat) : Bool := x == 32 || x == 9 || x == 10 || x == 13
def kindN (x : Nat) : Int := if sgx x then 1 else if blx x then 2 else 0
theorem kinds_next {x i : Nat} (h : ∀ j, j < i → kindsX.getD j 0 ≠ x) (h1 : kindsX.getD i 0 ≠ x) : ∀ j, j < i + 1 → kindsX.getD j 0 ≠ x := fun j hj => by
  by_cases e : j = i
  · subst e; exact h1
  · exact h j (by omega)
theorem kindN_none {x : Nat} (h : ∀ j, j < 10 → kindsX.getD j 0 ≠ x) : kindN x = 0 := by
  have h0 := h 0 (by decide)
  have h1 := h 1 (by decide)
  have h2 := h 2 (by decide)
  have h3 := h 3 (by decide)
  have h4 := h 4 (by decide)
  have h5 := h 5 (by decide)
  have h6 := h 6 (by decide)
  have h7 := h 7 (by decide)
  have h8 := h 8 (by decide)
  have h9 := h 9 (by decide)
  simp only [kindsX, List.getD_cons_zero, List.getD_cons_succ] at h0 h1 h2 h3 h4 h5 h6 h7 h8 h9
  have s : sgx x = false := by
    unfold sgx
    simp only [Bool.or_eq_false_iff, beq_eq_false_iff_ne, ne_eq]
    omega
  have b : blx x = false := by
    unfold blx
    simp only [Bool.or_eq_false_iff, beq_eq_false_iff_ne, ne_eq]
    omega
  unfold kindN
  rw [s, b]
  rfl
theorem blx_of_sgx {x : Nat} (h : sgx x = true) : blx x = false := by
  unfold sgx at h
  unfold blx
  simp only [Bool.or_eq_true, beq_iff_eq] at h
  simp only [Bool.or_eq_false_iff, beq_eq_false_iff_ne, ne_eq]
  omega
theorem kindN_sign {x : Nat} (h : sgx x = true) : kindN x = 1 := by unfold kindN; rw [h]; rfl
theorem kindN_not_sign {x : Nat} (h : sgx x = false) : (kindN x == 1) = false := by
  unfold kindN
  rw [h]
  cases blx x <;> rfl
theorem kindN_blank {x : Nat} (h : sgx x = false) (h2 : blx x = true) : kindN x = 2 := by unfold kindN; rw [h, h2]; rfl
theorem kindN_not_blank {x : Nat} (h : sgx x = false) (h2 : blx x = false) : (kindN x == 2) = false := by unfold kindN; rw [h, h2]; rfl
end Go.Proofs.YtadcgjmhhodnoaaDoorQ
