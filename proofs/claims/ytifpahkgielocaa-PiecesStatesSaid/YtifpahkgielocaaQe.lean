/-
  What a piece of a text does: quotes that count, even or odd, and the state behind it. Plain Lean; no program in sight.
-/
import Derived.Test.YtifpahkgielocaaMc
import Derived.Test.YtifpahkgielocaaQc
namespace Go.Proofs.YtifpahkgielocaaQ
open Go Go.RowKit Go.Lib Go.Proofs.YtifpahkgielocaaW.PrintWords
/-- Quotes that count among the first bytes: odd? -/
def oddQ (s : ByteArray) (f : Bool) : Nat → Bool
  | 0 => false
  | i + 1 => oddQ s f i != (decide (bt s (i : Int) = 34) && !esc s f i)
def partA (o : Nat → Bool) (u : Nat → Int) : Array Value := #[.bool (o 0), .bool (o 1), .int .i64 (u 0), .int .i64 (u 1)]
theorem partA_size (o : Nat → Bool) (u : Nat → Int) : (partA o u).size = 4 := rfl
theorem partA_o (o : Nat → Bool) (u : Nat → Int) {x : Nat} (h : x < 2) : (partA o u)[x]? = some (.bool (o x)) := by
  match x, h with
  | 0, _ => rfl
  | 1, _ => rfl
theorem partA_u (o : Nat → Bool) (u : Nat → Int) {x : Nat} (h : x < 2) : (partA o u)[2 + x]? = some (.int .i64 (u x)) := by
  match x, h with
  | 0, _ => rfl
  | 1, _ => rfl
theorem partA_congr {o o' : Nat → Bool} {u u' : Nat → Int} (h : ∀ x, x < 2 → o x = o' x) (g : ∀ x, x < 2 → u x = u' x) : partA o u = partA o' u' := by
  unfold partA
  rw [h 0 (by decide), h 1 (by decide), g 0 (by decide), g 1 (by decide)]
theorem partA_setO {o o' : Nat → Bool} (u : Nat → Int) {x : Nat} {b : Bool} (h : x < 2) (h1 : o' x = b) (h2 : ∀ y, y < 2 → y ≠ x → o y = o' y) : (partA o u).setIfInBounds x (.bool b) = partA o' u := by
  subst h1
  match x, h with
  | 0, _ => simp [partA, h2 1 (by decide) (by decide)]
  | 1, _ => simp [partA, h2 0 (by decide) (by decide)]
theorem partA_setU (o : Nat → Bool) {u u' : Nat → Int} {x : Nat} {b : Int} (h : x < 2) (h1 : u' x = b) (h2 : ∀ y, y < 2 → y ≠ x → u y = u' y) : (partA o u).setIfInBounds (2 + x) (.int .i64 b) = partA o u' := by
  subst h1
  match x, h with
  | 0, _ => simp [partA, h2 1 (by decide) (by decide)]
  | 1, _ => simp [partA, h2 0 (by decide) (by decide)]
theorem partA_zero : (#[.bool false, .bool false, .int .i64 0, .int .i64 0] : Array Value) = partA (fun _ => false) (fun _ => 0) := rfl
theorem partA_one (o : Nat → Bool) (u : Nat → Int) : (partA o u).all (·.oneCell') = true := by simp [partA, Value.oneCell']
/-- The Part of a text. -/
def partO (s : ByteArray) (x : Nat) : Bool := oddQ s (x == 1) s.size
def partU (s : ByteArray) (x : Nat) : Int := if esc s (x == 1) s.size then 1 else 0
def accO (s : ByteArray) (x i y : Nat) : Bool := if y = x then oddQ s (x == 1) i else (decide (y < x) && partO s y)
def accU (s : ByteArray) (x y : Nat) : Int := if y < x then partU s y else 0
theorem accO_self (s : ByteArray) (x i : Nat) {fx : Bool} (h : fx = (x == 1)) : accO s x i x = oddQ s fx i := by rw [h]; exact if_pos rfl
theorem acc_start (s : ByteArray) (x : Nat) (u : Nat → Int) : partA (fun y => decide (y < x) && partO s y) u = partA (accO s x 0) u :=
  partA_congr (fun y _ => by
    unfold accO
    by_cases g : y = x
    · subst g
      rw [if_pos rfl]
      simp [oddQ]
    · rw [if_neg g]) (fun _ _ => rfl)
theorem acc_same (s : ByteArray) (x i : Nat) (u : Nat → Int) {fx : Bool} (h : fx = (x == 1)) (g : (decide (bt s (i : Int) = 34) && !esc s fx i) = false) : partA (accO s x i) u = partA (accO s x (i + 1)) u :=
  partA_congr (fun y _ => by
    unfold accO
    by_cases e : y = x
    · rw [if_pos e, if_pos e]
      show _ = (oddQ s (x == 1) i != _)
      rw [← h, g]
      simp
    · rw [if_neg e, if_neg e]) (fun _ _ => rfl)
theorem acc_turn (s : ByteArray) (x i : Nat) (u : Nat → Int) {fx : Bool} (hx : x < 2) (h : fx = (x == 1)) (g : (decide (bt s (i : Int) = 34) && !esc s fx i) = true) : (partA (accO s x i) u).setIfInBounds x (.bool (!oddQ s fx i)) = partA (accO s x (i + 1)) u :=
  partA_setO u hx (by
    unfold accO
    rw [if_pos rfl]
    show (oddQ s (x == 1) i != _) = _
    rw [← h, g]
    simp) (fun y _ e => by unfold accO; rw [if_neg e, if_neg e])
theorem acc_end (s : ByteArray) (x : Nat) (u u' : Nat → Int) (hu : ∀ y, y < 2 → u y = u' y) : partA (accO s x s.size) u = partA (fun y => decide (y < x + 1) && partO s y) u' :=
  partA_congr (fun y _ => by
    unfold accO
    by_cases g : y = x
    · subst g
      rw [if_pos rfl, decide_eq_true (Nat.lt_succ_self _), Bool.true_and]
      rfl
    · rw [if_neg g]
      congr 1
      exact decide_eq_decide.mpr (by omega)) hu
theorem accU_none (s : ByteArray) (x : Nat) {fx : Bool} (h : fx = (x == 1)) (g : esc s fx s.size = false) : ∀ y, y < 2 → (if y < x then partU s y else 0 : Int) = (if y < x + 1 then partU s y else 0) := by
  intro y _
  by_cases e : y = x
  · subst e
    rw [if_neg (Nat.lt_irrefl _), if_pos (Nat.lt_succ_self _)]
    unfold partU
    rw [← h, g]
    rfl
  · by_cases e2 : y < x
    · rw [if_pos e2, if_pos (by omega)]
    · rw [if_neg e2, if_neg (by omega)]
theorem accU_one (s : ByteArray) (x : Nat) (o : Nat → Bool) {fx : Bool} (hx : x < 2) (h : fx = (x == 1)) (g : esc s fx s.size = true) :
    (partA o (fun y => if y < x then partU s y else 0)).setIfInBounds (2 + x) (.int .i64 1) = partA o (fun y => if y < x + 1 then partU s y else 0) :=
  partA_setU o hx (by
    rw [if_pos (Nat.lt_succ_self _)]
    unfold partU
    rw [← h, g]
    rfl) (fun y _ e => by
    by_cases e2 : y < x
    · rw [if_pos e2, if_pos (by omega)]
    · rw [if_neg e2, if_neg (by omega)])
theorem part_end (s : ByteArray) : partA (fun y => decide (y < 2) && partO s y) (fun y => if y < 2 then partU s y else 0) = partA (partO s) (partU s) :=
  partA_congr (fun y h => by simp [h]) (fun y h => by simp [h])
def peq (o : Nat → Bool) (u : Nat → Int) (o' : Nat → Bool) (u' : Nat → Int) : Bool := ((o 0 == o' 0) && (o 1 == o' 1)) && ((u 0 == u' 0) && (u 1 == u' 1))
theorem peq_true {o o' : Nat → Bool} {u u' : Nat → Int} (h : ∀ x, x < 2 → o x = o' x) (g : ∀ x, x < 2 → u x = u' x) : peq o u o' u' = true := by
  unfold peq
  rw [h 0 (by decide), h 1 (by decide), g 0 (by decide), g 1 (by decide)]
  simp
def binB (v : Int) : Bool := decide (v = 0) || decide (v = 1)
def formedP (o : Nat → Bool) (u : Nat → Int) : Bool := binB (u 0) && (binB (u 1) && (decide (u 0 = u 1) || (!o 0 && !o 1)))
theorem binB_true {v : Int} (h : binB v = true) : v = 0 ∨ v = 1 := by simpa [binB] using h
theorem binB_false {v : Int} (h : binB v = false) : v ≠ 0 ∧ v ≠ 1 := by simpa [binB] using h
theorem formed_bad {o : Nat → Bool} {u : Nat → Int} {x : Nat} (hx : x < 2) (h : binB (u x) = false) : formedP o u = false := by
  unfold formedP
  match x, hx with
  | 0, _ => rw [h, Bool.false_and]
  | 1, _ => rw [h, Bool.false_and, Bool.and_false]
theorem formed_end {o : Nat → Bool} {u : Nat → Int} (h : ∀ y, y < 2 → binB (u y) = true) : formedP o u = (decide (u 0 = u 1) || (!o 0 && !o 1)) := by
  unfold formedP
  rw [h 0 (by decide), h 1 (by decide), Bool.true_and, Bool.true_and]
theorem bin_next {u : Nat → Int} {x : Nat} (h : ∀ y, y < x → binB (u y) = true) (g : u x = 0 ∨ u x = 1) : ∀ y, y < x + 1 → binB (u y) = true := by
  intro y hy
  by_cases e : y = x
  · subst e
    simpa [binB] using g
  · exact h y (by omega)
def joinO (o : Nat → Bool) (u : Nat → Int) (o' : Nat → Bool) (x : Nat) : Bool := o x != o' (u x).toNat
def joinU (u u' : Nat → Int) (x : Nat) : Int := u' (u x).toNat
def jO (J : Nat → Bool) (x z : Nat) : Bool := decide (z < x) && J z
def jU (K : Nat → Int) (x z : Nat) : Int := if z < x then K z else 0
theorem jn_zero (J : Nat → Bool) (K : Nat → Int) : partA (fun _ => false) (fun _ => 0) = partA (jO J 0) (jU K 0) := partA_congr (fun _ _ => by simp [jO]) (fun _ _ => by simp [jU])
theorem jn_setO (J : Nat → Bool) (u : Nat → Int) {x : Nat} (hx : x < 2) {b : Bool} (hb : b = J x) : (partA (jO J x) u).setIfInBounds x (.bool b) = partA (jO J (x + 1)) u :=
  partA_setO u hx (by simp [jO, hb]) (fun y _ e => by
    unfold jO
    congr 1
    exact decide_eq_decide.mpr (by omega))
theorem jn_setU (o : Nat → Bool) (K : Nat → Int) {x : Nat} (hx : x < 2) {b : Int} (hb : b = K x) : (partA o (jU K x)).setIfInBounds (2 + x) (.int .i64 b) = partA o (jU K (x + 1)) :=
  partA_setU o hx (by simp [jU, hb]) (fun y _ e => by
    unfold jU
    by_cases e2 : y < x
    · rw [if_pos e2, if_pos (by omega)]
    · rw [if_neg e2, if_neg (by omega)])
theorem jn_end (J : Nat → Bool) (K : Nat → Int) : partA (jO J 2) (jU K 2) = partA J K := partA_congr (fun x h => by simp [jO, h]) (fun x h => by simp [jU, h])
/-- What two Parts do, one behind the other. -/
def joinA (o : Nat → Bool) (u : Nat → Int) (o' : Nat → Bool) (u' : Nat → Int) : Array Value := if formedP o u && formedP o' u' then partA (joinO o u o') (joinU u u') else partA (fun _ => false) (fun _ => 0)
theorem formed_out {o : Nat → Bool} {u : Nat → Int} (h : formedP o u = true) {x : Nat} (hx : x < 2) : ∃ y : Nat, y < 2 ∧ u x = (y : Int) ∧ (u x).toNat = y := by
  unfold formedP at h
  simp only [Bool.and_eq_true] at h
  have h0 := binB_true h.1
  have h1 := binB_true h.2.1
  match x, hx with
  | 0, _ => exact ⟨(u 0).toNat, by omega, by omega, rfl⟩
  | 1, _ => exact ⟨(u 1).toNat, by omega, by omega, rfl⟩
def pruns (s : ByteArray) : Nat → Nat
  | 0 => 0
  | i + 1 => if bt s (i : Int) = 92 then pruns s i + 1 else 0
theorem pruns_le (s : ByteArray) : ∀ i, pruns s i ≤ i
  | 0 => Nat.le_refl _
  | i + 1 => by have := pruns_le s i; unfold pruns; split <;> omega
theorem pruns_all (s : ByteArray) : ∀ i j, i - pruns s i ≤ j → j < i → bt s (j : Int) = 92
  | 0, _, _, h => absurd h (by omega)
  | i + 1, j, h1, h2 => by
    simp only [pruns] at h1
    by_cases h : bt s (i : Int) = 92
    · rw [if_pos h] at h1
      by_cases g : j = i
      · rw [g]; exact h
      · exact pruns_all s i j (by omega) (by omega)
    · rw [if_neg h] at h1; omega
theorem pesc_first (s : ByteArray) (f : Bool) : ∀ i, esc s f i = (esc s false i ^^ (f && decide (pruns s i = i)))
  | 0 => by cases f <;> rfl
  | i + 1 => by
    have h := pesc_first s f i
    have hr := pruns_le s i
    show (decide (bt s (i : Int) = 92) && !esc s f i) = ((decide (bt s (i : Int) = 92) && !esc s false i) ^^ _)
    by_cases g : bt s (i : Int) = 92
    · have e : pruns s (i + 1) = pruns s i + 1 := if_pos g
      have e2 : decide (pruns s i + 1 = i + 1) = decide (pruns s i = i) := decide_eq_decide.mpr (by omega)
      rw [e, e2, h, decide_eq_true g]
      cases esc s false i <;> cases (f && decide (pruns s i = i)) <;> rfl
    · have e : pruns s (i + 1) = 0 := if_neg g
      rw [e, decide_eq_false g, decide_eq_false (show ¬ 0 = i + 1 by omega)]
      cases f <;> rfl
theorem podd_all (s : ByteArray) (f : Bool) : ∀ i : Nat, (∀ j : Nat, j < i → bt s (j : Int) = 92) → oddQ s f i = false
  | 0, _ => rfl
  | i + 1, h => by
    show (oddQ s f i != (decide (bt s (i : Int) = 34) && !esc s f i)) = false
    rw [podd_all s f i fun j hj => h j (by omega), decide_eq_false (by rw [h i (by omega)]; decide)]
    rfl
theorem ppart_formed (s : ByteArray) : formedP (partO s) (partU s) = true := by
  have e0 : (0 == 1) = false := rfl
  have e1 : (1 == 1) = true := rfl
  unfold formedP partO partU
  rw [e0, e1]
  have hf := pesc_first s true s.size
  by_cases g : pruns s s.size = s.size
  · have h0 : ∀ f, oddQ s f s.size = false := fun f => podd_all s f s.size fun j hj => pruns_all s s.size j (by rw [g]; omega) hj
    rw [h0, h0]
    cases esc s false s.size <;> cases esc s true s.size <;> rfl
  · rw [decide_eq_false g] at hf
    simp only [Bool.and_false, Bool.xor_false] at hf
    rw [hf]
    cases esc s false s.size <;> simp [binB]
theorem peq_eq {o o' : Nat → Bool} {u u' : Nat → Int} (h : peq o u o' u' = true) : o 0 = o' 0 ∧ o 1 = o' 1 ∧ u 0 = u' 0 ∧ u 1 = u' 1 := by
  simp [peq] at h
  exact ⟨h.1.1, h.1.2, h.2.1, h.2.2⟩
theorem formed_same {o o' : Nat → Bool} {u u' : Nat → Int} (h : peq o u o' u' = true) : formedP o u = formedP o' u' := by
  obtain ⟨a, b, c, d⟩ := peq_eq h
  unfold formedP
  rw [a, b, c, d]
theorem peq_swap {o o' : Nat → Bool} {u u' : Nat → Int} (h : peq o u o' u' = true) : o' 0 = o 0 ∧ o' 1 = o 1 ∧ u' 0 = u 0 ∧ u' 1 = u 1 := by
  obtain ⟨a, b, c, d⟩ := peq_eq h
  exact ⟨a.symm, b.symm, c.symm, d.symm⟩
theorem w64_up' {i n : Nat} (h : i < n) (hn : n ≤ 844424930107392) : wrap64 ((i : Int) + 1) = ((i + 1 : Nat) : Int) := by unfold wrap64; omega
end Go.Proofs.YtifpahkgielocaaQ
