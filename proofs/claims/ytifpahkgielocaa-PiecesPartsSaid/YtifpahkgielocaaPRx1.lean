-- Written by a program (myprint.py, over the kit's print) for this claim. Not trusted: Lean checks it.
import Derived.Test.YtifpahkgielocaaPRx0
namespace Go.Proofs.Ytifpahkgielocaa.PR
open Go.RowKit Go.Proofs.YtifpahkgielocaaW.PrintWords Go.Proofs.YtifpahkgielocaaW.PrintLast Go.Proofs.YtifpahkgielocaaW.PrintMore
attribute [local go_sem] max2_int min2_int max_two min_two max_three min_three max_four min_four   -- for this text's walks alone
set_option linter.unusedVariables false
set_option linter.unusedSimpArgs false

/-! ### escape_Odd: function 33 -/
mutual
def escape_Odd.j0 : Nat → ByteArray → Int → Bool → Option (Int × Bool)
  | 0, _, _, _ => none
  | k + 1, x0, x1, x14 => if x14 = true then (some (0, false)) else (escape_Odd.l0 k x0 x1 x1)
def escape_Odd.l0 : Nat → ByteArray → Int → Int → Option (Int × Bool)
  | 0, _, _, _ => none
  | k + 1, x0, x1, x6 => if x6 > 0 then (if 0 ≤ (wrap64 (x6 - 1)) then (if (wrap64 (x6 - 1)) < (x0.size : Int) then (if (bt x0 (wrap64 (x6 - 1))) = 92 then (escape_Odd.l0 k x0 x1 (wrap64 (x6 - 1))) else (some (x6, ((Int.tmod (wrap64 (x1 - x6)) 2) == 1)))) else (none)) else (none)) else (some (x6, ((Int.tmod (wrap64 (x1 - x6)) 2) == 1)))
end
def escape_Odd.f (k : Nat) (a0 : ByteArray) (a1 : Int) : Option (Int × Bool) := if a1 < 0 then (escape_Odd.j0 k a0 a1 true) else (escape_Odd.j0 k a0 a1 (decide (a1 > (a0.size : Int))))
theorem escape_Odd.mono_l : ∀ k, (∀ y0 y1 y2, LeO (escape_Odd.j0 k y0 y1 y2) (escape_Odd.j0 (k + 1) y0 y1 y2)) ∧ (∀ y0 y1 y2, LeO (escape_Odd.l0 k y0 y1 y2) (escape_Odd.l0 (k + 1) y0 y1 y2))
  | 0 => ⟨fun _ _ _ r h => by simp [escape_Odd.j0] at h, fun _ _ _ r h => by simp [escape_Odd.l0] at h⟩
  | k + 1 => by
    obtain ⟨ih0, ih1⟩ := escape_Odd.mono_l k
    refine ⟨?_, ?_⟩
    · intro y0 y1 y2
      unfold escape_Odd.j0
      repeat' first
      | (with_reducible exact ih0 _ _ _)
      | (with_reducible exact ih1 _ _ _)
      | (with_reducible exact LeO.refl _)
      | (with_reducible exact LeO.none _)
      | (with_reducible refine LeO.ite ?_ ?_)
      | (with_reducible refine LeO.bind ?_ (fun _ => ?_))
      | exact ih0 _ _ _
      | exact ih1 _ _ _
      | exact LeO.none _
      | refine LeO.ite ?_ ?_
      | refine LeO.bind ?_ (fun _ => ?_)
    · intro y0 y1 y2
      unfold escape_Odd.l0
      repeat' first
      | (with_reducible exact ih0 _ _ _)
      | (with_reducible exact ih1 _ _ _)
      | (with_reducible exact LeO.refl _)
      | (with_reducible exact LeO.none _)
      | (with_reducible refine LeO.ite ?_ ?_)
      | (with_reducible refine LeO.bind ?_ (fun _ => ?_))
      | exact ih0 _ _ _
      | exact ih1 _ _ _
      | exact LeO.none _
      | refine LeO.ite ?_ ?_
      | refine LeO.bind ?_ (fun _ => ?_)
theorem escape_Odd.mono : ∀ a0 a1 k, LeO (escape_Odd.f k a0 a1) (escape_Odd.f (k + 1) a0 a1) := by
  intro a0 a1 k
  obtain ⟨ih0, ih1⟩ := escape_Odd.mono_l k
  unfold escape_Odd.f
  repeat' first
      | (with_reducible exact ih0 _ _ _)
      | (with_reducible exact ih1 _ _ _)
      | (with_reducible exact LeO.refl _)
      | (with_reducible exact LeO.none _)
      | (with_reducible refine LeO.ite ?_ ?_)
      | (with_reducible refine LeO.bind ?_ (fun _ => ?_))
      | exact ih0 _ _ _
      | exact ih1 _ _ _
      | exact LeO.none _
      | refine LeO.ite ?_ ?_
      | refine LeO.bind ?_ (fun _ => ?_)
set_option maxHeartbeats 8000000 in
set_option maxRecDepth 100000 in
theorem escape_Odd.calls (k : Nat) (a0 : ByteArray) (a1 : Int) (r1 : Int) (r2 : Bool) (w : World) (h : escape_Odd.f k a0 a1 = some (r1, r2)) :
    Calls Try.prog 33 #[.string a0, .int .i64 a1] w fun e w' => e = .returned (.tuple #[.int .i64 r1, .bool r2]) ∧ Drawn0 w w' := by
  have H : (if a1 < 0 then (escape_Odd.j0 k a0 a1 true) else (escape_Odd.j0 k a0 a1 (decide (a1 > (a0.size : Int))))) = some (r1, r2) := h
  clear h
  have HC3 := Aside0.mk H
  clear H
  go_enter Try.func33, Try.ntmps33
  go_upto_region 1 with (fail)
  go_cut [14] (fun v14 wc => ∃ (kq : Nat) (x14_2 : Bool), v14 = .bool x14_2 ∧ Aside0 (escape_Odd.j0 kq a0 a1 x14_2 = some (r1, r2)) ∧ Aside0 (kq ≤ k) ∧ Drawn0 w wc)
  case first =>
    have H := HC3.out
    clear HC3
    by_cases c4 : a1 < 0
    · rw [if_pos c4] at H
      have c4b0 : decide (a1 < 0) = true := decide_eq_true c4
      clear c4
      (first | rw [c4b0] | (simp only [i64_w, i32_w]; rw [c4b0]) | skip)
      have H' := Aside0.mk H
      clear H
      go_wp2
      go_meet
      case rel => exact ⟨_, (true), (by first | rfl | (simp; done) | (simp [*]; done)), H', ⟨by first | omega | exact Nat.le_refl _⟩, by repeat (first | exact Drawn0.refl _ | apply Drawn0.step)⟩
    · rw [if_neg c4] at H
      have c4b0 : decide (a1 < 0) = false := decide_eq_false c4
      clear c4
      (first | rw [c4b0] | (simp only [i64_w, i32_w]; rw [c4b0]) | skip)
      have H' := Aside0.mk H
      clear H
      go_wp2
      go_meet
      case rel => exact ⟨_, (decide (a1 > (a0.size : Int))), (by first | rfl | (simp; done) | (simp [*]; done)), H', ⟨by first | omega | exact Nat.le_refl _⟩, by repeat (first | exact Drawn0.refl _ | apply Drawn0.step)⟩
  case rest =>
    clear HC3
    try clear p2
    try clear c3
    try clear c4
    try clear c4b0
    obtain ⟨kq, x14_2, rfl, HA, HJ2, ⟨mc2, rfl⟩⟩ := hcut
    cases kq with
    | zero => exact absurd HA.out (by simp [escape_Odd.j0])
    | succ kj2 =>
      have H := HA.out
      clear HA
      simp only [escape_Odd.j0] at H
      by_cases c5 : x14_2 = true
      · subst c5
        have H1 : (some (0, false)) = some (r1, r2) := by rw [if_pos rfl] at H; exact H
        clear H
        have H := H1
        clear H1
        simp only [Option.some.injEq, Prod.mk.injEq] at H
        obtain ⟨rfl, rfl⟩ := H
        go_wp2
        go_ret2
        exact ⟨by first | rfl | (simp; done) | (simp [*]; done), by repeat (first | exact Drawn0.refl _ | apply Drawn0.step)⟩
      · replace c5 := Bool.eq_false_iff.mpr c5
        subst c5
        have H1 : (escape_Odd.l0 kj2 a0 a1 a1) = some (r1, r2) := by rw [if_neg (show ¬ (false = true) by decide)] at H; exact H
        clear H
        have H := H1
        clear H1
        have H' := Aside0.mk H
        clear H
        go_wp2
        go_loopg [6] kj2 (fun kq v6 w' => ∃ (x6_2 : Int), v6 = .int .i64 x6_2 ∧ Aside0 (escape_Odd.l0 kq a0 a1 x6_2 = some (r1, r2)) ∧ Aside0 (kq ≤ kj2) ∧ Drawn0 w w')
        case atStart => exact ⟨(a1), (by first | rfl | (simp; done) | (simp [*]; done)), H', ⟨Nat.le_refl _⟩, by repeat (first | exact Drawn0.refl _ | apply Drawn0.step)⟩
        case round =>
          clear H'
          try clear c2
          try clear p2
          try clear c3
          try clear c4
          try clear c4b0
          try clear c5
          try clear p2
          obtain ⟨x6_2, rfl, HA, HK2, ⟨m2, rfl⟩⟩ := hrel
          cases gk with
          | zero => exact absurd HA.out (by simp [escape_Odd.l0])
          | succ k2 =>
            have H := HA.out
            clear HA
            simp only [escape_Odd.l0] at H
            by_cases c6 : x6_2 > 0
            · rw [if_pos c6] at H
              have c6b0 : decide (0 < x6_2) = true := decide_eq_true c6
              clear c6
              obtain ⟨ji7, hji7⟩ : ∃ j_ : Int, (wrap64 (x6_2 - 1)) = j_ := ⟨_, rfl⟩
              replace H : (if 0 ≤ (ji7) then (if (ji7) < (a0.size : Int) then (if (bt a0 (ji7)) = 92 then (escape_Odd.l0 k2 a0 a1 ji7) else (some (x6_2, ((Int.tmod (wrap64 (a1 - x6_2)) 2) == 1)))) else (none)) else (none)) = some (r1, r2) := by first | (rw [hji7] at H; exact H) | (simp only [hji7] at H ⊢; exact H)
              have hji7w : (IntKind.i64.wrap (x6_2 - 1)) = ji7 := (i64_w _).trans hji7
              by_cases c8 : 0 ≤ (ji7)
              · rw [if_pos c8] at H
                have c8b0 : decide (0 ≤ (ji7)) = true := decide_eq_true c8
                clear c8
                by_cases c9 : (ji7) < (a0.size : Int)
                · rw [if_pos c9] at H
                  have c9b0 : decide ((ji7) < (a0.size : Int)) = true := decide_eq_true c9
                  clear c9
                  by_cases c11 : (bt a0 (ji7)) = 92
                  · rw [if_pos c11] at H
                    have c11b0 : ((bt a0 (ji7)) == 92) = true := beq_iff_eq.mpr c11
                    have c11b1 : ((bt a0 (ji7)) != 92) = false := bne_eq_false_iff_eq.mpr c11
                    clear c11
                    have H' := Aside0.mk H
                    clear H
                    have p10 : 0 ≤ ((ji7) : Int) := of_decide_eq_true (by first | (with_reducible assumption) | assumption)
                    have q10 : (ji7) < (a0.size : Int) := of_decide_eq_true (by first | (with_reducible assumption) | assumption)
                    have hx10 := bt_at a0 (ji7)
                    replace p10 := eq_true p10
                    replace q10 := eq_true q10
                    go_wp2
                    go_roundg k2
                    case measure => have := HJ2.out; have := HK2.out; omega
                    case rel => exact ⟨(ji7), (by first | rfl | (simp; done) | (simp only [← hji7] <;> (first | rfl | simp)) | (simp [*]; done)), H', ⟨by have := HJ2.out; have := HK2.out; omega⟩, by repeat (first | exact Drawn0.refl _ | apply Drawn0.step)⟩
                  · rw [if_neg c11] at H
                    have c11b0 : ((bt a0 (ji7)) == 92) = false := beq_eq_false_iff_ne.mpr c11
                    have c11b1 : ((bt a0 (ji7)) != 92) = true := bne_iff_ne.mpr c11
                    simp only [Option.some.injEq, Prod.mk.injEq] at H
                    obtain ⟨rfl, rfl⟩ := H
                    have p10 : 0 ≤ ((ji7) : Int) := of_decide_eq_true (by first | (with_reducible assumption) | assumption)
                    have q10 : (ji7) < (a0.size : Int) := of_decide_eq_true (by first | (with_reducible assumption) | assumption)
                    have hx10 := bt_at a0 (ji7)
                    replace p10 := eq_true p10
                    replace q10 := eq_true q10
                    go_wp2
                    go_ret2
                    exact ⟨by first | rfl | (simp; done) | (simp only [← hji7] <;> (first | rfl | simp)) | (simp [*]; done), by repeat (first | exact Drawn0.refl _ | apply Drawn0.step)⟩
                · rw [if_neg c9] at H
                  exact absurd H (by simp)
              · rw [if_neg c8] at H
                exact absurd H (by simp)
            · rw [if_neg c6] at H
              have c6b0 : decide (0 < x6_2) = false := decide_eq_false c6
              clear c6
              simp only [Option.some.injEq, Prod.mk.injEq] at H
              obtain ⟨rfl, rfl⟩ := H
              go_wp2
              go_ret2
              exact ⟨by first | rfl | (simp; done) | (simp [*]; done), by repeat (first | exact Drawn0.refl _ | apply Drawn0.step)⟩

/-! ### escape_Behind: function 18 -/
def escape_Behind.f (k : Nat) (a0 : ByteArray) (a1 : Bool) : Option (Bool) := (escape_Odd.f k a0 (a0.size : Int)).bind fun bt101 => (if bt101.1 = 0 then (if a1 = true then (some (!bt101.2)) else (some bt101.2)) else (some bt101.2))
theorem escape_Behind.mono : ∀ a0 a1 k, LeO (escape_Behind.f k a0 a1) (escape_Behind.f (k + 1) a0 a1) := by
  intro a0 a1 k
  unfold escape_Behind.f
  repeat' first
      | (with_reducible exact escape_Odd.mono _ _ _)
      | (with_reducible exact LeO.refl _)
      | (with_reducible exact LeO.none _)
      | (with_reducible refine LeO.ite ?_ ?_)
      | (with_reducible refine LeO.bind ?_ (fun _ => ?_))
      | exact escape_Odd.mono _ _ _
      | exact LeO.none _
      | refine LeO.ite ?_ ?_
      | refine LeO.bind ?_ (fun _ => ?_)
set_option maxHeartbeats 8000000 in
set_option maxRecDepth 100000 in
theorem escape_Behind.calls (k : Nat) (a0 : ByteArray) (a1 : Bool) (r : Bool) (w : World) (h : escape_Behind.f k a0 a1 = some r) :
    Calls Try.prog 18 #[.string a0, .bool a1] w fun e w' => e = .returned (.bool r) ∧ Drawn0 w w' := by
  have H : ((escape_Odd.f k a0 (a0.size : Int)).bind fun bt101 => (if bt101.1 = 0 then (if a1 = true then (some (!bt101.2)) else (some bt101.2)) else (some bt101.2))) = some r := h
  clear h
  replace H := Option.bind_eq_some_iff.mp H
  obtain ⟨⟨t101, t102⟩, A30, H⟩ := H
  replace H : (if t101 = 0 then (if a1 = true then (some (!t102)) else (some t102)) else (some t102)) = some r := H
  have A3 := Aside0.mk A30
  clear A30
  by_cases c4 : t101 = 0
  · rw [if_pos c4] at H
    have c4b0 : (t101 == 0) = true := beq_iff_eq.mpr c4
    have c4b1 : (t101 != 0) = false := bne_eq_false_iff_eq.mpr c4
    clear c4
    by_cases c5 : a1 = true
    · subst c5
      have H1 : (some (!t102)) = some r := by rw [if_pos rfl] at H; exact H
      clear H
      have H := H1
      clear H1
      obtain rfl := Option.some.inj H
      go_enter Try.func18, Try.ntmps18
      go_wp2_with (first | ((with_reducible refine gate_callee (f := 33) rfl ?_); refine goesL_ (some 11) rfl rfl Try.func33 (by kernel_rfl) rfl #[.string a0, .int .i64 (a0.size : Int)] rfl (by (try simp only [List.map_toArray, List.map_cons, List.map_nil]); first | done | rfl | (simp only [List.length_drop, List.length_take]; rfl)) ?_; (with_reducible refine (escape_Odd.calls k a0 (a0.size : Int) t101 t102 _ A3.out).mono ?_); rintro e w' ⟨rfl, ⟨nd, rfl⟩⟩; refine ⟨_, rfl, ?_⟩))
      go_ret
      exact ⟨by first | rfl | (simp; done) | (simp [*]; done), by repeat (first | exact Drawn0.refl _ | apply Drawn0.step)⟩
    · replace c5 := Bool.eq_false_iff.mpr c5
      subst c5
      have H1 : (some t102) = some r := by rw [if_neg (show ¬ (false = true) by decide)] at H; exact H
      clear H
      have H := H1
      clear H1
      obtain rfl := Option.some.inj H
      go_enter Try.func18, Try.ntmps18
      go_wp2_with (first | ((with_reducible refine gate_callee (f := 33) rfl ?_); refine goesL_ (some 11) rfl rfl Try.func33 (by kernel_rfl) rfl #[.string a0, .int .i64 (a0.size : Int)] rfl (by (try simp only [List.map_toArray, List.map_cons, List.map_nil]); first | done | rfl | (simp only [List.length_drop, List.length_take]; rfl)) ?_; (with_reducible refine (escape_Odd.calls k a0 (a0.size : Int) t101 t102 _ A3.out).mono ?_); rintro e w' ⟨rfl, ⟨nd, rfl⟩⟩; refine ⟨_, rfl, ?_⟩))
      go_ret
      exact ⟨by first | rfl | (simp; done) | (simp [*]; done), by repeat (first | exact Drawn0.refl _ | apply Drawn0.step)⟩
  · rw [if_neg c4] at H
    have c4b0 : (t101 == 0) = false := beq_eq_false_iff_ne.mpr c4
    have c4b1 : (t101 != 0) = true := bne_iff_ne.mpr c4
    obtain rfl := Option.some.inj H
    go_enter Try.func18, Try.ntmps18
    go_wp2_with (first | ((with_reducible refine gate_callee (f := 33) rfl ?_); refine goesL_ (some 11) rfl rfl Try.func33 (by kernel_rfl) rfl #[.string a0, .int .i64 (a0.size : Int)] rfl (by (try simp only [List.map_toArray, List.map_cons, List.map_nil]); first | done | rfl | (simp only [List.length_drop, List.length_take]; rfl)) ?_; (with_reducible refine (escape_Odd.calls k a0 (a0.size : Int) t101 t102 _ A3.out).mono ?_); rintro e w' ⟨rfl, ⟨nd, rfl⟩⟩; refine ⟨_, rfl, ?_⟩))
    go_ret
    exact ⟨by first | rfl | (simp; done) | (simp [*]; done), by repeat (first | exact Drawn0.refl _ | apply Drawn0.step)⟩

/-! ### pieces_Of: function 10 -/
section
open Go.Proofs.YtifpahkgielocaaQ Go.Proofs.YtifpahkgielocaaM
/-- How many backslashes end ahead of a place. -/
def runs (s : ByteArray) : Nat → Nat
  | 0 => 0
  | i + 1 => if bt s (i : Int) = 92 then runs s i + 1 else 0
theorem runs_le (s : ByteArray) : ∀ i, runs s i ≤ i
  | 0 => Nat.le_refl _
  | i + 1 => by have := runs_le s i; unfold runs; split <;> omega
theorem odd_loop (s : ByteArray) (a : Int) (ha0 : 0 ≤ a) (ha : a ≤ s.size) (hn : s.size ≤ 844424930107392) :
    ∀ (i k : Nat), (i : Int) ≤ a → i < k → escape_Odd.l0 k s a (i : Int) = some ((i : Int) - runs s i, (Int.tmod (a - ((i : Int) - runs s i)) 2 == 1)) := by
  intro i
  induction i with
  | zero =>
    intro k hi hk
    obtain ⟨k, rfl⟩ : ∃ m, k = m + 1 := ⟨k - 1, by omega⟩
    have e : wrap64 (a - ((0 : Nat) : Int)) = a - ((0 : Nat) : Int) := by unfold wrap64; omega
    simp only [escape_Odd.l0, runs]
    rw [if_neg (by omega), e]
    simp
  | succ i ih =>
    intro k hi hk
    obtain ⟨k, rfl⟩ : ∃ m, k = m + 1 := ⟨k - 1, by omega⟩
    have e1 : wrap64 (((i + 1 : Nat) : Int) - 1) = (i : Int) := by unfold wrap64; omega
    have hr := runs_le s i
    simp only [escape_Odd.l0, e1]
    rw [if_pos (by omega), if_pos (by omega), if_pos (by omega)]
    by_cases h : bt s (i : Int) = 92
    · rw [if_pos h, ih k (by omega) (by omega)]
      simp only [runs, if_pos h]
      have : ((i : Int) - (runs s i : Nat)) = ((i + 1 : Nat) : Int) - ((runs s i + 1 : Nat) : Int) := by omega
      rw [this]
    · rw [if_neg h]
      simp only [runs, if_neg h]
      have e : wrap64 (a - ((i + 1 : Nat) : Int)) = a - ((i + 1 : Nat) : Int) := by unfold wrap64; omega
      rw [e]
      simp
/-- An odd number of backslashes ahead, and the byte is escaped. -/
theorem esc_runs (s : ByteArray) : ∀ i, esc s false i = decide (runs s i % 2 = 1)
  | 0 => rfl
  | i + 1 => by
    have := esc_runs s i
    show (decide (bt s (i : Int) = 92) && !esc s false i) = _
    by_cases h : bt s (i : Int) = 92
    · have e : runs s (i + 1) = runs s i + 1 := if_pos h
      rw [e, this, decide_eq_true h, Bool.true_and]
      by_cases g : runs s i % 2 = 1
      · rw [decide_eq_true g, decide_eq_false (by omega)]; rfl
      · rw [decide_eq_false g, decide_eq_true (by omega)]; rfl
    · have e : runs s (i + 1) = 0 := if_neg h
      rw [e, decide_eq_false h]; rfl
theorem odd_eq (s : ByteArray) (hn : s.size ≤ 844424930107392) (i k : Nat) (hi : i ≤ s.size) (hk : s.size + 1 < k) :
    escape_Odd.f k s (i : Int) = some (((i - runs s i : Nat) : Int), esc s false i) := by
  obtain ⟨k, rfl⟩ : ∃ m, k = m + 1 := ⟨k - 1, by omega⟩
  have hr := runs_le s i
  unfold escape_Odd.f
  rw [if_neg (by omega)]
  simp only [escape_Odd.j0]
  rw [if_neg (by simpa using by omega), odd_loop s (i : Int) (by omega) (by omega) hn i k (by omega) (by omega)]
  have e : (i : Int) - (runs s i : Nat) = ((i - runs s i : Nat) : Int) := by omega
  have e2 : (i : Int) - ((i - runs s i : Nat) : Int) = ((runs s i : Nat) : Int) := by omega
  rw [e, e2, esc_runs]
  have e3 : Int.tmod ((runs s i : Nat) : Int) 2 = ((runs s i % 2 : Nat) : Int) := rfl
  rw [e3]
  by_cases g : runs s i % 2 = 1
  · rw [g]; rfl
  · rw [show runs s i % 2 = 0 by omega]; rfl
/-- The bytes of the run are backslashes, and the byte ahead of it is none. -/
theorem runs_all (s : ByteArray) : ∀ i j, i - runs s i ≤ j → j < i → bt s (j : Int) = 92
  | 0, _, _, h => absurd h (by omega)
  | i + 1, j, h1, h2 => by
    simp only [runs] at h1
    by_cases h : bt s (i : Int) = 92
    · rw [if_pos h] at h1
      by_cases g : j = i
      · rw [g]; exact h
      · exact runs_all s i j (by omega) (by omega)
    · rw [if_neg h] at h1; omega
theorem runs_before (s : ByteArray) : ∀ i, 0 < i - runs s i → bt s ((i - runs s i - 1 : Nat) : Int) ≠ 92
  | 0, h => absurd h (by omega)
  | i + 1, h1 => by
    simp only [runs] at h1 ⊢
    have hr := runs_le s i
    by_cases h : bt s (i : Int) = 92
    · rw [if_pos h] at h1 ⊢
      have := runs_before s i (by omega)
      rw [show i + 1 - (runs s i + 1) - 1 = i - runs s i - 1 by omega]
      exact this
    · rw [if_neg h]; exact h
theorem esc_first (s : ByteArray) (f : Bool) : ∀ i, esc s f i = (esc s false i ^^ (f && decide (runs s i = i)))
  | 0 => by cases f <;> rfl
  | i + 1 => by
    have h := esc_first s f i
    have hr := runs_le s i
    show (decide (bt s (i : Int) = 92) && !esc s f i) = ((decide (bt s (i : Int) = 92) && !esc s false i) ^^ _)
    by_cases g : bt s (i : Int) = 92
    · have e : runs s (i + 1) = runs s i + 1 := if_pos g
      have e2 : decide (runs s i + 1 = i + 1) = decide (runs s i = i) := decide_eq_decide.mpr (by omega)
      rw [e, e2, h, decide_eq_true g]
      cases esc s false i <;> cases (f && decide (runs s i = i)) <;> rfl
    · have e : runs s (i + 1) = 0 := if_neg g
      rw [e, decide_eq_false g, decide_eq_false (show ¬ 0 = i + 1 by omega)]
      cases f <;> rfl
/-- Behind: is what comes behind the text escaped. -/
theorem behind_all (s : ByteArray) (hn : s.size ≤ 844424930107392) (f : Bool) (k : Nat) (hk : s.size + 1 < k) : escape_Behind.f k s f = some (esc s f s.size) := by
  have hr := runs_le s s.size
  unfold escape_Behind.f
  rw [odd_eq s hn s.size k (Nat.le_refl _) hk, Option.bind_some, esc_first s f]
  by_cases h : ((s.size - runs s s.size : Nat) : Int) = 0
  · rw [if_pos h, decide_eq_true (show runs s s.size = s.size by omega)]
    cases f
    · rw [if_neg (by decide)]; simp
    · rw [if_pos rfl]; simp
  · rw [if_neg h, decide_eq_false (show ¬ runs s s.size = s.size by intro g; exact h (by omega))]
    simp
set_option maxHeartbeats 400000 in
set_option maxRecDepth 100000 in
theorem pieces_Of.calls (s : ByteArray) (w : World) (hs : s.size ≤ 844424930107392) :
    Calls Try.prog 10 #[.string s] w fun e w' => e = .returned (.agg (partA (partO s) (partU s))) ∧ Below w.heap.size w w' := by
  have HB := BelowH.refl w
  have HS := Aside0.mk hs
  clear hs
  go_enter Try.func10, Try.ntmps10
  go_wp2_with (first
    | ((with_reducible refine gate_dst (N := 2) rfl ?_); refine ev_alloc HB rfl (partA (fun _ => false) (fun _ => 0)) 25 ?hr ?_; (case hr => (rw [← partA_zero]; first | (go_simp; done) | (go_simp; rfl))); intro g0 w1 G_g0 GE_g0 B_g0 HBn K_g0; clear HB; have HB := HBn; clear HBn)
    | ((with_reducible refine gate_dst (N := 3) rfl ?_); refine ev_alloc HB rfl (partA (fun _ => false) (fun _ => 0)) 25 ?hr ?_; (case hr => (rw [← partA_zero]; first | (go_simp; done) | (go_simp; rfl))); intro g1 w2 G_g1 GE_g1 B_g1 HBn K_g1; clear HB; have HB := HBn; clear HBn))
  have N01 := Aside0.mk (show g0 < g1 by have := B_g0.lt; have := G_g1.out; omega)
  go_loopw [7] (fun v7 wr => ∃ x : Nat, x ≤ 2 ∧ v7 = .int .i64 x ∧ Blk wr g0 (partA (fun _ => false) (fun _ => 0)) 25 ∧ Blk wr g1 (partA (fun y => decide (y < x) && partO s y) (fun y => if y < x then partU s y else 0)) 25 ∧ BelowH w wr) (fun v7 _ => 2 - (intOf v7).toNat)
  case atStart => exact ⟨0, by omega, rfl, B_g0.below K_g1.out, B_g1.eqA (partA_congr (fun _ _ => by simp) (fun _ _ => by simp)), HB⟩
  case round =>
    clear B_g0 B_g1 HB
    obtain ⟨x, hx, rfl, B0, B1, HB⟩ := hrel
    by_cases hlt : x < 2
    · have h1 : (x : Int) < 2 := by omega
      have KX := Aside0.mk hlt
      obtain ⟨fx, hfx⟩ : ∃ fx : Bool, fx = (x == 1) := ⟨_, rfl⟩
      have hf1 : ((x : Int) == 1) = fx := by rw [hfx, Bool.eq_iff_iff, beq_iff_eq, beq_iff_eq]; omega
      have HFX := Aside0.mk hfx
      clear hfx hx hlt
      rw [acc_start] at B1
      go_upto_region 7 with (fail)
      go_loopw [5, 14] (fun v5 v14 wi => ∃ i : Nat, i ≤ s.size ∧ v14 = .int .i64 i ∧ v5 = .bool (esc s fx i) ∧ Blk wi g0 (partA (fun _ => false) (fun _ => 0)) 25 ∧ Blk wi g1 (partA (accO s x i) (fun y => if y < x then partU s y else 0)) 25 ∧ BelowH w wi) (fun _ v14 _ => s.size - (intOf v14).toNat)
      case atStart => exact ⟨0, by omega, rfl, rfl, B0, B1, HB⟩
      case round =>
        clear B0 B1 HB
        obtain ⟨i, hi, rfl, rfl, B0, B1, HB⟩ := hrel
        by_cases hlt : i < s.size
        · have KI := Aside0.mk hlt
          have hlt' : decide ((i : Int) < (s.size : Int)) = true := decide_eq_true (by omega)
          have hb : ∀ h : i < s.size, (((s[i]'h).toNat : Nat) : Int) = bt s (i : Int) := fun h => bt_at s (i : Int) h
          have hc := B1.cell (partA_o (accO s x i) (fun y => if y < x then partU s y else 0) KX.out)
          rw [accO_self s x i HFX.out] at hc
          have hesc : esc s fx (i + 1) = (decide (bt s (i : Int) = 92) && !esc s fx i) := rfl
          obtain ⟨o, ho⟩ : ∃ o, o = oddQ s fx i := ⟨_, rfl⟩
          obtain ⟨e, he⟩ : ∃ e, e = esc s fx i := ⟨_, rfl⟩
          rw [← ho] at hc
          rw [← he] at hesc ⊢
          have HO := Aside0.mk ho
          have HE := Aside0.mk he
          have hx01 : (0 : Int) ≤ (x : Int) := by omega
          have HES := Aside0.mk hesc
          clear ho he hesc
          have e0 : decide (bt s (i : Int) = 34) = (bt s (i : Int) == 34) := rfl
          by_cases q34 : bt s (i : Int) = 34
          · have n92 : ¬ bt s (i : Int) = 92 := by omega
            have f34 : (bt s (i : Int) == 34) = true := beq_iff_eq.mpr q34
            have f92 : (bt s (i : Int) == 92) = false := beq_eq_false_iff_ne.mpr n92
            have EE : (decide (bt s (i : Int) = 92) && !e) = false := by rw [decide_eq_false n92, Bool.false_and]
            have EE := Aside0.mk EE
            cases e with
            | false =>
              have ST := Aside0.mk (acc_turn s x i (fun y => if y < x then partU s y else 0) KX.out HFX.out (by rw [← HE.out, decide_eq_true q34]; rfl))
              rw [← HO.out] at ST
              clear q34 n92
              go_wp2_with (first
                | ((with_reducible refine gate_ (Op.store 4 (.tmp 32) (.tmp 30)) rfl ?_); refine ev_store1 (i := x) HB B1 GE_g1 rfl 4 _ _ rfl rfl (.bool (!o)) rfl (by rw [partA_size]; omega) (by kernel_rfl) rfl ?_; intro w5 B5 HB5 K5))
              rw [ST.out] at B5
              go_roundw
              case rel => exact ⟨i + 1, by have := KI.out; omega, by rw [w64_up' KI.out HS.out], by rw [HES.out]; exact congrArg Value.bool EE.out.symm, B0.other K5 (Nat.ne_of_lt N01.out), B5, HB5⟩
              case measure =>
                rw [w64_up' KI.out HS.out]
                simp [intOf]
                have := KI.out
                omega
            | true =>
              have ST := Aside0.mk (acc_same s x i (fun y => if y < x then partU s y else 0) HFX.out (by rw [← HE.out, Bool.not_true, Bool.and_false]))
              clear q34 n92
              go_wp2
              rw [ST.out] at B1
              go_roundw
              case rel => exact ⟨i + 1, by have := KI.out; omega, by rw [w64_up' KI.out HS.out], by rw [HES.out]; exact congrArg Value.bool EE.out.symm, B0, B1, HB⟩
              case measure =>
                rw [w64_up' KI.out HS.out]
                simp [intOf]
                have := KI.out
                omega
          · have f34 : (bt s (i : Int) == 34) = false := beq_eq_false_iff_ne.mpr q34
            have ST := Aside0.mk (acc_same s x i (fun y => if y < x then partU s y else 0) HFX.out (by rw [decide_eq_false q34, Bool.false_and]))
            by_cases q92 : bt s (i : Int) = 92
            · have f92 : (bt s (i : Int) == 92) = true := beq_iff_eq.mpr q92
              have EE := Aside0.mk (show (decide (bt s (i : Int) = 92) && !e) = !e by rw [decide_eq_true q92, Bool.true_and])
              clear q34 q92
              cases e with
              | false =>
                go_wp2
                rw [ST.out] at B1
                go_roundw
                case rel => exact ⟨i + 1, by have := KI.out; omega, by rw [w64_up' KI.out HS.out], by rw [HES.out]; exact congrArg Value.bool EE.out.symm, B0, B1, HB⟩
                case measure =>
                  rw [w64_up' KI.out HS.out]
                  simp [intOf]
                  have := KI.out
                  omega
              | true =>
                go_wp2
                rw [ST.out] at B1
                go_roundw
                case rel => exact ⟨i + 1, by have := KI.out; omega, by rw [w64_up' KI.out HS.out], by rw [HES.out]; exact congrArg Value.bool EE.out.symm, B0, B1, HB⟩
                case measure =>
                  rw [w64_up' KI.out HS.out]
                  simp [intOf]
                  have := KI.out
                  omega
            · have f92 : (bt s (i : Int) == 92) = false := beq_eq_false_iff_ne.mpr q92
              have EE := Aside0.mk (show (decide (bt s (i : Int) = 92) && !e) = false by rw [decide_eq_false q92, Bool.false_and])
              clear q34 q92
              go_wp2
              rw [ST.out] at B1
              go_roundw
              case rel => exact ⟨i + 1, by have := KI.out; omega, by rw [w64_up' KI.out HS.out], by rw [HES.out]; exact congrArg Value.bool EE.out.symm, B0, B1, HB⟩
              case measure =>
                rw [w64_up' KI.out HS.out]
                simp [intOf]
                have := KI.out
                omega
        · obtain rfl : i = s.size := by omega
          have hlt' : decide ((s.size : Int) < (s.size : Int)) = false := decide_eq_false (by omega)
          obtain ⟨e, he⟩ : ∃ e, e = esc s fx s.size := ⟨_, rfl⟩
          have CB := Aside0.mk (fun W => escape_Behind.calls (s.size + 2) s fx (esc s fx s.size) W (behind_all s HS.out fx _ (by omega)))
          rw [← he] at CB ⊢
          clear hlt
          have HE := Aside0.mk he
          clear he
          cases e with
          | true =>
            have ST := Aside0.mk (accU_one s x (accO s x s.size) KX.out HFX.out HE.out.symm)
            have SE := Aside0.mk (acc_end s x (fun y => if y < x + 1 then partU s y else 0) (fun y => if y < x + 1 then partU s y else 0) (fun _ _ => rfl))
            go_wp2_with (first
              | (go_at_call 18; refine (CB.out _).mono ?_; rintro e w5 ⟨rfl, ⟨nd, rfl⟩⟩; have B2 := B1.drewN nd; have B3 := B0.drewN nd; have HB2 := HB.drewN nd; clear B1 B0 HB)
              | ((with_reducible refine gate_ (Op.store 3 (.tmp 48) (.const (.int .i64 1))) rfl ?_); refine ev_store1 (i := 2 + x) HB2 B2 GE_g1 rfl 3 _ _ rfl rfl (.int .i64 1) rfl (by rw [partA_size]; omega) (by kernel_rfl) rfl ?_; intro w6 B5 HB5 K5))
            rw [ST.out, SE.out] at B5
            go_roundw
            case rel => exact ⟨x + 1, by have := KX.out; omega, by simp, B3.other K5 (Nat.ne_of_lt N01.out), B5, HB5⟩
            case measure =>
              simp [intOf]
              have := KX.out
              omega
          | false =>
            have SE := Aside0.mk (acc_end s x (fun y => if y < x then partU s y else 0) (fun y => if y < x + 1 then partU s y else 0) (accU_none s x HFX.out HE.out.symm))
            go_wp2_with (first
              | (go_at_call 18; refine (CB.out _).mono ?_; rintro e w5 ⟨rfl, ⟨nd, rfl⟩⟩; have B2 := B1.drewN nd; have B3 := B0.drewN nd; have HB2 := HB.drewN nd; clear B1 B0 HB))
            rw [SE.out] at B2
            go_roundw
            case rel => exact ⟨x + 1, by have := KX.out; omega, by simp, B3, B2, HB2⟩
            case measure =>
              simp [intOf]
              have := KX.out
              omega
    · obtain rfl : x = 2 := by omega
      rw [part_end] at B1
      go_wp2_with (first
        | ((with_reducible refine gate_dst (N := 50) rfl ?_); (try (refine gate_guard (by rfl) ?_; dsimp only)); refine ev_loadS B1 rfl 25 _ rfl rfl Try.underlying25 rfl (sizeP' _ _) ?_)
        | ((with_reducible refine gate_ (Op.store 25 (.tmp 2) (.tmp 50)) rfl ?_); refine ev_store HB B0 GE_g0 rfl 25 _ _ rfl rfl rfl (sizeP' _ _) rfl (partA_one _ _) ?_; intro w6 B6 HBn K_w6; clear HB; have HB := HBn; clear HBn))
      refine bodyPost_ret (results_cell_row rfl _ _ g0 25 _ (0, 0) _ rfl B6.out Try.underlying25 rfl (sizeP' _ _)) rfl ?_
      exact ⟨rfl, HB.out⟩
end


/-! ### quarryref06_Is: function 29 -/
def quarryref06_Is.l0 : Nat → ByteArray → List Bool → Int → Option (List Bool)
  | 0, _, _, _ => none
  | k + 1, x0, x5, x6 => if x6 < (x0.size : Int) then (if 0 ≤ x6 then (if (bt x0 x6) = 92 then (if x6 < (x5.length : Int) then (if x5.length < 140737488355328 then (quarryref06_Is.l0 k x0 (x5 ++ [!(rdOf false x5 x6)]) (wrap64 (x6 + 1))) else (none)) else (none)) else (if x5.length < 140737488355328 then (quarryref06_Is.l0 k x0 (x5 ++ [false]) (wrap64 (x6 + 1))) else (none))) else (none)) else (some x5)
def quarryref06_Is.f (k : Nat) (a0 : ByteArray) (a1 : Bool) : Option (List Bool) := quarryref06_Is.l0 k a0 (([a1] : List Bool)) 0
theorem quarryref06_Is.mono_l : ∀ k, (∀ y0 y1 y2, LeO (quarryref06_Is.l0 k y0 y1 y2) (quarryref06_Is.l0 (k + 1) y0 y1 y2))
  | 0 => fun _ _ _ r h => by simp [quarryref06_Is.l0] at h
  | k + 1 => by
    have ih0 := quarryref06_Is.mono_l k
    · intro y0 y1 y2
      unfold quarryref06_Is.l0
      repeat' first
      | (with_reducible exact ih0 _ _ _)
      | (with_reducible exact LeO.refl _)
      | (with_reducible exact LeO.none _)
      | (with_reducible refine LeO.ite ?_ ?_)
      | (with_reducible refine LeO.bind ?_ (fun _ => ?_))
      | exact ih0 _ _ _
      | exact LeO.none _
      | refine LeO.ite ?_ ?_
      | refine LeO.bind ?_ (fun _ => ?_)
theorem quarryref06_Is.mono : ∀ a0 a1 k, LeO (quarryref06_Is.f k a0 a1) (quarryref06_Is.f (k + 1) a0 a1) := by
  intro a0 a1 k
  have ih0 := quarryref06_Is.mono_l k
  unfold quarryref06_Is.f
  repeat' first
      | (with_reducible exact ih0 _ _ _)
      | (with_reducible exact LeO.refl _)
      | (with_reducible exact LeO.none _)
      | (with_reducible refine LeO.ite ?_ ?_)
      | (with_reducible refine LeO.bind ?_ (fun _ => ?_))
      | exact ih0 _ _ _
      | exact LeO.none _
      | refine LeO.ite ?_ ?_
      | refine LeO.bind ?_ (fun _ => ?_)
set_option maxHeartbeats 8000000 in
set_option maxRecDepth 100000 in
theorem quarryref06_Is.calls (k : Nat) (a0 : ByteArray) (a1 : Bool) (r : List Bool) (w : World) (h : quarryref06_Is.f k a0 a1 = some r) :
    Calls Try.prog 29 #[.string a0, .bool a1] w fun e w' => ∃ v0_ : Value, e = .returned (v0_) ∧ Kd.R Kd.bool 4 w' w.heap.size (fun _ => True) v0_ r ∧ Below w.heap.size w w' := by
  have HB := Aside0.mk (Below.refl w.heap.size w)
  have H : (quarryref06_Is.l0 k a0 (([a1] : List Bool)) 0) = some r := h
  clear h
  obtain ⟨y103, hy103⟩ : ∃ y_ : List Bool, y_ = (([a1] : List Bool)) := ⟨_, rfl⟩
  replace H : (quarryref06_Is.l0 k a0 y103 0) = some r := by first | (rw [hy103]; with_reducible exact H) | (have H2_ := (Option.bind_some _ _).symm.trans H; rw [hy103]; with_reducible exact H2_) | (have H2_ := (Option.bind_some _ _).symm.trans H; with_reducible exact H2_) | with_reducible exact H | (rw [hy103]; exact H) | exact H
  have Ny103 := Aside0.mk hy103
  clear hy103
  have H' := Aside0.mk H
  clear H
  go_enter Try.func29, Try.ntmps29
  go_wp2_with (first | ((with_reducible refine gate_dst (N := 9) rfl ?_); refine Kd.R_lit Kd.bool _ 4 ?hg (N := 9) ?hd (xs := ([a1] : List Bool)) (inner := [.bool a1]) (ok := fun _ => True) (okp := fun _ => True) ?hr ?hp (fun _ hk => hk) trivial (Below.refl _ _) (Nat.le_refl _) (by simp) ?_; (case hd => rfl); (case hg => rfl); (case hr => first | (go_simp; done) | (go_simp; rfl)); (case hp => exact (Reps.one (show Kd.M Kd.bool _ _ _ a1 [.bool a1] from rfl) (Reps.none _ _))); intro v104 w3 ho4 hb hg_ hnew_; clear hg_ hnew_; (first | rw [← Ny103.out] at ho4 | (simp only [Int.reduceToNat] at ho4; rw [← Ny103.out] at ho4)); have n0_ := Aside0.mk (Kd.R_lower ho4 (below_size (by repeat (first | (with_reducible first | exact HB.out | apply below_alloc | apply pw_below_drewN | apply below_drew1) | exact HB.out)))); have n1_ := Aside0.mk (below_step (by repeat (first | (with_reducible first | exact HB.out | apply below_alloc | apply pw_below_drewN | apply below_drew1) | exact HB.out)) hb); clear HB; have HO105 := n0_; have HB := n1_; clear n0_ n1_; clear hb ho4))
  go_loopg [5, 6] k (fun kq v5 v6 w' => ∃ (x5_1 : List Bool) (x6_1 : Int), v6 = .int .i64 x6_1 ∧ Aside0 (quarryref06_Is.l0 kq a0 x5_1 x6_1 = some r) ∧ Aside0 (kq ≤ k) ∧ Aside0 (Kd.R Kd.bool 4 w' w.heap.size (fun _ => True) v5 x5_1) ∧ Aside0 (Below w.heap.size w w'))
  case atStart => exact ⟨(y103), (0), (by first | rfl | (simp; done) | (simp [*]; done)), H', ⟨Nat.le_refl _⟩, ⟨by (with_reducible repeat (first | apply Kd.R_alloc | apply Kd.R_drewN | apply Kd.R_drew)); exact HO105.out⟩, ⟨by repeat (first | (with_reducible first | exact HB.out | apply below_alloc | apply pw_below_drewN | apply below_drew1) | exact HB.out)⟩⟩
  case round =>
    clear H'
    try clear c2
    try clear p2
    obtain ⟨x5_1, x6_1, rfl, HA, HK1, HO_5, HB⟩ := hrel
    cases gk with
    | zero => exact absurd HA.out (by simp [quarryref06_Is.l0])
    | succ k1 =>
      have H := HA.out
      clear HA
      simp only [quarryref06_Is.l0] at H
      by_cases c5 : x6_1 < (a0.size : Int)
      · rw [if_pos c5] at H
        have c5b0 : decide (x6_1 < (a0.size : Int)) = true := decide_eq_true c5
        clear c5
        by_cases c6 : 0 ≤ x6_1
        · rw [if_pos c6] at H
          have c6b0 : decide (0 ≤ x6_1) = true := decide_eq_true c6
          clear c6
          by_cases c8 : (bt a0 x6_1) = 92
          · rw [if_pos c8] at H
            have c8b0 : ((bt a0 x6_1) == 92) = true := beq_iff_eq.mpr c8
            have c8b1 : ((bt a0 x6_1) != 92) = false := bne_eq_false_iff_eq.mpr c8
            clear c8
            by_cases c9 : x6_1 < (x5_1.length : Int)
            · rw [if_pos c9] at H
              have c9b0 : decide (x6_1 < (x5_1.length : Int)) = true := decide_eq_true c9
              clear c9
              by_cases c10 : x5_1.length < 140737488355328
              · rw [if_pos c10] at H
                have LMc10 := Aside0.mk c10
                clear c10
                obtain ⟨y107, hy107⟩ : ∃ y_ : List Bool, y_ = (x5_1 ++ [!(rdOf false x5_1 x6_1)]) := ⟨_, rfl⟩
                replace H : (quarryref06_Is.l0 k1 a0 y107 (wrap64 (x6_1 + 1))) = some r := by first | (rw [hy107]; with_reducible exact H) | (have H2_ := (Option.bind_some _ _).symm.trans H; rw [hy107]; with_reducible exact H2_) | (have H2_ := (Option.bind_some _ _).symm.trans H; with_reducible exact H2_) | with_reducible exact H | (rw [hy107]; exact H) | exact H
                have Ny107 := Aside0.mk hy107
                clear hy107
                have H' := Aside0.mk H
                clear H
                have p7 : 0 ≤ (x6_1 : Int) := of_decide_eq_true (by first | (with_reducible assumption) | assumption)
                have q7 : x6_1 < (a0.size : Int) := of_decide_eq_true (by first | (with_reducible assumption) | assumption)
                have hx7 := bt_at a0 x6_1
                replace p7 := eq_true p7
                replace q7 := eq_true q7
                obtain ⟨Ao11, co11, eo11⟩ := Kd.R_slice HO_5.out
                subst eo11
                have p106 : 0 ≤ (x6_1 : Int) := of_decide_eq_true (by first | (with_reducible assumption) | assumption)
                have q106 : x6_1 < (x5_1.length : Int) := of_decide_eq_true (by first | (with_reducible assumption) | assumption)
                obtain ⟨ad106, e106, hx106_0⟩ := Kd.at_bool (Kd.R_reads' HO_5.out).2.2 x6_1 p106 q106
                cases e106
                replace p106 := eq_true p106
                replace q106 := eq_true q106
                go_wp2_with (first | ((with_reducible refine gate_builtin (b := .append) (xs := #[.tmp 27, .tmp 29]) rfl ?_); at_builtin; refine Kd.R_append Kd.bool (w0 := w) w.heap.size rfl (.tmp 27) (.tmp 29) 48 4 (.bool false) 1 rfl Try.underlying48 info4 rfl (by decide) (by omega) (.slice (some ad106) x5_1.length co11) x5_1 (!(rdOf false x5_1 x6_1)) [.bool (!(rdOf false x5_1 x6_1))] (fun _ => True) (fun _ => False) rfl rfl ?aP (fun _ hk => hk.elim) ?aF ?aO ?aB ?aS ?aL ?_; (case aP => exact rfl); (case aB => exact (by repeat (first | (with_reducible first | exact HB.out | apply below_alloc | apply pw_below_drewN | apply below_drew1) | exact HB.out))); (case aF => exact (fun _ _ => trivial)); (case aO => exact (by (with_reducible repeat (first | apply Kd.R_alloc | apply Kd.R_drewN | apply Kd.R_drew)); exact HO_5.out)); (case aS => exact (below_size (by repeat (first | (with_reducible first | exact HB.out | apply below_alloc | apply pw_below_drewN | apply below_drew1) | exact HB.out)))); (case aL => have := LMc10.out; omega); intro v108 w12 ho hb hg hat; rw [← Ny107.out] at ho; have n0_ := Aside0.mk (hb); have n1_ := Aside0.mk (ho); clear HB; clear HO_5; have HB := n0_; have HO109 := n1_; clear n0_ n1_; clear ho hb hg hat))
                go_roundg k1
                case measure => have := HK1.out; omega
                case rel => exact ⟨(y107), (wrap64 (x6_1 + 1)), (by first | rfl | (simp; done) | (simp [*]; done)), H', ⟨by have := HK1.out; omega⟩, ⟨by (with_reducible repeat (first | apply Kd.R_alloc | apply Kd.R_drewN | apply Kd.R_drew)); exact HO109.out⟩, ⟨by repeat (first | (with_reducible first | exact HB.out | apply below_alloc | apply pw_below_drewN | apply below_drew1) | exact HB.out)⟩⟩
              · rw [if_neg c10] at H
                exact absurd H (by simp)
            · rw [if_neg c9] at H
              exact absurd H (by simp)
          · rw [if_neg c8] at H
            have c8b0 : ((bt a0 x6_1) == 92) = false := beq_eq_false_iff_ne.mpr c8
            have c8b1 : ((bt a0 x6_1) != 92) = true := bne_iff_ne.mpr c8
            by_cases c13 : x5_1.length < 140737488355328
            · rw [if_pos c13] at H
              have LMc13 := Aside0.mk c13
              clear c13
              obtain ⟨y110, hy110⟩ : ∃ y_ : List Bool, y_ = (x5_1 ++ [false]) := ⟨_, rfl⟩
              replace H : (quarryref06_Is.l0 k1 a0 y110 (wrap64 (x6_1 + 1))) = some r := by first | (rw [hy110]; with_reducible exact H) | (have H2_ := (Option.bind_some _ _).symm.trans H; rw [hy110]; with_reducible exact H2_) | (have H2_ := (Option.bind_some _ _).symm.trans H; with_reducible exact H2_) | with_reducible exact H | (rw [hy110]; exact H) | exact H
              have Ny110 := Aside0.mk hy110
              clear hy110
              have H' := Aside0.mk H
              clear H
              have p7 : 0 ≤ (x6_1 : Int) := of_decide_eq_true (by first | (with_reducible assumption) | assumption)
              have q7 : x6_1 < (a0.size : Int) := of_decide_eq_true (by first | (with_reducible assumption) | assumption)
              have hx7 := bt_at a0 x6_1
              replace p7 := eq_true p7
              replace q7 := eq_true q7
              go_wp2_with (first | ((with_reducible refine gate_builtin (b := .append) (xs := #[.tmp 27, .tmp 29]) rfl ?_); at_builtin; refine Kd.R_append Kd.bool (w0 := w) w.heap.size rfl (.tmp 27) (.tmp 29) 48 4 (.bool false) 1 rfl Try.underlying48 info4 rfl (by decide) (by omega) u5 x5_1 false [.bool false] (fun _ => True) (fun _ => False) rfl rfl ?aP (fun _ hk => hk.elim) ?aF ?aO ?aB ?aS ?aL ?_; (case aP => exact rfl); (case aB => exact (by repeat (first | (with_reducible first | exact HB.out | apply below_alloc | apply pw_below_drewN | apply below_drew1) | exact HB.out))); (case aF => exact (fun _ _ => trivial)); (case aO => exact (by (with_reducible repeat (first | apply Kd.R_alloc | apply Kd.R_drewN | apply Kd.R_drew)); exact HO_5.out)); (case aS => exact (below_size (by repeat (first | (with_reducible first | exact HB.out | apply below_alloc | apply pw_below_drewN | apply below_drew1) | exact HB.out)))); (case aL => have := LMc13.out; omega); intro v111 w14 ho hb hg hat; rw [← Ny110.out] at ho; have n0_ := Aside0.mk (hb); have n1_ := Aside0.mk (ho); clear HB; clear HO_5; have HB := n0_; have HO112 := n1_; clear n0_ n1_; clear ho hb hg hat))
              go_roundg k1
              case measure => have := HK1.out; omega
              case rel => exact ⟨(y110), (wrap64 (x6_1 + 1)), (by first | rfl | (simp; done) | (simp [*]; done)), H', ⟨by have := HK1.out; omega⟩, ⟨by (with_reducible repeat (first | apply Kd.R_alloc | apply Kd.R_drewN | apply Kd.R_drew)); exact HO112.out⟩, ⟨by repeat (first | (with_reducible first | exact HB.out | apply below_alloc | apply pw_below_drewN | apply below_drew1) | exact HB.out)⟩⟩
            · rw [if_neg c13] at H
              exact absurd H (by simp)
        · rw [if_neg c6] at H
          exact absurd H (by simp)
      · rw [if_neg c5] at H
        have c5b0 : decide (x6_1 < (a0.size : Int)) = false := decide_eq_false c5
        clear c5
        obtain rfl := Option.some.inj H
        go_wp2
        go_ret
        exact ⟨_, by first | rfl | (simp [errW_none, errW_some] <;> rfl) | (simp [*, errW_none, errW_some] <;> rfl), by (with_reducible repeat (first | apply Kd.R_alloc | apply Kd.R_drewN | apply Kd.R_drew)); exact HO_5.out, by repeat (first | (with_reducible first | exact HB.out | apply below_alloc | apply pw_below_drewN | apply below_drew1) | exact HB.out)⟩

/-! ### quarryref09_Of: function 11 -/
section
open Go.Proofs.YtifpahkgielocaaQ Go.Proofs.YtifpahkgielocaaM
theorem is_loop (s : ByteArray) (f : Bool) (hn : s.size ≤ 140737488351232) :
    ∀ (d i k : Nat), i + d = s.size → d < k → quarryref06_Is.l0 k s ((List.range (i + 1)).map (esc s f)) (i : Int) = some ((List.range (s.size + 1)).map (esc s f)) := by
  intro d
  induction d with
  | zero =>
    intro i k hi hk
    obtain ⟨k, rfl⟩ : ∃ m, k = m + 1 := ⟨k - 1, by omega⟩
    unfold quarryref06_Is.l0
    rw [if_neg (by omega), show i = s.size by omega]
  | succ d ih =>
    intro i k hi hk
    obtain ⟨k, rfl⟩ : ∃ m, k = m + 1 := ⟨k - 1, by omega⟩
    have e1 : wrap64 ((i : Int) + 1) = ((i + 1 : Nat) : Int) := by unfold wrap64; omega
    have hl : ((List.range (i + 1)).map (esc s f)).length = i + 1 := by simp
    have h2 := ih (i + 1) k (by omega) (by omega)
    rw [List.range_succ, List.map_append] at h2
    have er : rdOf false ((List.range (i + 1)).map (esc s f)) (i : Int) = esc s f i := by
      unfold rdOf
      rw [Int.toNat_natCast]
      simp
    unfold quarryref06_Is.l0
    rw [if_pos (by omega), if_pos (by omega), e1, er, hl]
    by_cases h : bt s (i : Int) = 92
    · rw [if_pos h, if_pos (by omega), if_pos (by omega)]
      rw [show ((List.map (esc s f) [i + 1])) = [!esc s f i] by simp [esc, h]] at h2
      exact h2
    · rw [if_neg h, if_pos (by omega)]
      rw [show ((List.map (esc s f) [i + 1])) = [false] by simp [esc, h]] at h2
      exact h2
/-- The document's Is: is each byte escaped, and the one behind the last. -/
theorem is_eq (s : ByteArray) (f : Bool) (hn : s.size ≤ 140737488351232) (k : Nat) (hk : s.size < k) : quarryref06_Is.f k s f = some ((List.range (s.size + 1)).map (esc s f)) := by
  unfold quarryref06_Is.f
  exact is_loop s f hn s.size 0 k (by omega) hk
theorem cell_other {W W1 : World} {g : Nat} (K : Aside0 (W.heap.size ≤ W1.heap.size ∧ ∀ k, k ≠ g → W1.heap[k]? = W.heap[k]?)) {a : Addr} (hne : a.block ≠ g) {v : Value} (h : W.cell? a = some v) : W1.cell? a = some v := by
  have e := K.out.2 a.block hne
  unfold World.cell? at h ⊢
  rw [e]
  exact h
theorem add_block (a : Addr) (n : Nat) : (a.add n).block = a.block := by
  unfold Addr.add
  split <;> rfl
set_option maxHeartbeats 1000000 in
set_option maxRecDepth 100000 in
theorem quarryref09_Of.calls (s : ByteArray) (w : World) (hs : s.size ≤ 140737488351232) :
    Calls Try.prog 11 #[.string s] w fun e w' => e = .returned (.agg (partA (partO s) (partU s))) ∧ Below w.heap.size w w' := by
  have HB := BelowH.refl w
  have HS := Aside0.mk hs
  have HS2 := Aside0.mk (show s.size ≤ 844424930107392 by omega)
  clear hs
  go_enter Try.func11, Try.ntmps11
  go_wp2_with (first
    | ((with_reducible refine gate_dst (N := 2) rfl ?_); refine ev_alloc HB rfl (partA (fun _ => false) (fun _ => 0)) 25 ?hr ?_; (case hr => (rw [← partA_zero]; first | (go_simp; done) | (go_simp; rfl))); intro g0 w1 G_g0 GE_g0 B_g0 HBn K_g0; clear HB; have HB := HBn; clear HBn)
    | ((with_reducible refine gate_dst (N := 3) rfl ?_); refine ev_alloc HB rfl (partA (fun _ => false) (fun _ => 0)) 25 ?hr ?_; (case hr => (rw [← partA_zero]; first | (go_simp; done) | (go_simp; rfl))); intro g1 w2 G_g1 GE_g1 B_g1 HBn K_g1; clear HB; have HB := HBn; clear HBn)
    | ((with_reducible refine gate_ (Op.store 25 (.tmp 3) (.tmp 7)) rfl ?_); refine ev_store (cs := partA (fun _ => false) (fun _ => 0)) HB B_g1 GE_g1 rfl 25 _ _ rfl rfl rfl (sizeP' _ _) rfl (partA_one _ _) ?_; intro w3 B1 HB3 K3))
  have N01 := Aside0.mk (show g0 < g1 by have := B_g0.lt; have := G_g1.out; omega)
  have B0 := (B_g0.below K_g1.out).other K3 (Nat.ne_of_lt N01.out)
  clear B_g0 B_g1 K_g1 K_g0 HB K3
  go_loopw [4] (fun v4 wr => ∃ x : Nat, x ≤ 2 ∧ v4 = .int .i64 x ∧ Blk wr g0 (partA (fun _ => false) (fun _ => 0)) 25 ∧ Blk wr g1 (partA (fun y => decide (y < x) && partO s y) (fun y => if y < x then partU s y else 0)) 25 ∧ BelowH w wr) (fun v4 _ => 2 - (intOf v4).toNat)
  case atStart => exact ⟨0, by omega, rfl, B0, B1.eqA (partA_congr (fun _ _ => by simp) (fun _ _ => by simp)), HB3⟩
  case round =>
    clear B0 B1 HB3
    obtain ⟨x, hx, rfl, B0, B1, HB⟩ := hrel
    by_cases hlt : x < 2
    · have h1 : (x : Int) < 2 := by omega
      have KX := Aside0.mk hlt
      obtain ⟨fx, hfx⟩ : ∃ fx : Bool, fx = (x == 1) := ⟨_, rfl⟩
      have hf1 : ((x : Int) == 1) = fx := by rw [hfx, Bool.eq_iff_iff, beq_iff_eq, beq_iff_eq]; omega
      have HFX := Aside0.mk hfx
      have CI := Aside0.mk (fun W => quarryref06_Is.calls (s.size + 1) s fx _ W (is_eq s fx HS.out _ (by omega)))
      clear hfx hx hlt
      rw [acc_start] at B1
      go_upto_region 6 with (first
        | (go_at_call 29; (with_reducible refine (CI.out _).mono ?_); rintro e w5 ⟨v0, rfl, hR, hb5⟩; obtain ⟨ad, cap, rfl⟩ := Kd.R_slice1 hR (by simp); have HR5 := Aside0.mk hR; have D1 := B1.below hb5; have D0 := B0.below hb5; have HB5 := HB.step hb5; clear B1 B0 HB hb5 hR))
      have CE : Aside0 (∀ j, j ≤ s.size → w5.cell? (ad.add j) = some (.bool (esc s fx j))) := ⟨fun j hj => by
        obtain ⟨A, c, e, _, hC⟩ := Kd.R_reads HR5.out
        cases e
        have h := Kd.foot_bool hC (j : Int) (by omega) (by simp; omega)
        rw [Int.toNat_natCast] at h
        rw [h]
        unfold rdOf
        rw [Int.toNat_natCast]
        simp [show j < s.size + 1 by omega]⟩
      have NA := Aside0.mk (show ad.block ≠ g1 from fun h => Kd.R_ne HR5.out D1.out (by decide) (by rw [← h]; rfl))
      clear HR5
      go_wp2
      go_loopw [6] (fun v6 wi => ∃ i : Nat, i ≤ s.size ∧ v6 = .int .i64 i ∧ Blk wi g0 (partA (fun _ => false) (fun _ => 0)) 25 ∧ Blk wi g1 (partA (accO s x i) (fun y => if y < x then partU s y else 0)) 25 ∧ BelowH w wi ∧ Aside0 (∀ j, j ≤ s.size → wi.cell? (ad.add j) = some (.bool (esc s fx j)))) (fun v6 _ => s.size - (intOf v6).toNat)
      case atStart => exact ⟨0, by omega, rfl, D0, D1, HB5, CE⟩
      case round =>
        clear D0 D1 HB5 CE
        obtain ⟨i, hi, rfl, B0, B1, HB, CE⟩ := hrel
        by_cases hlt : i < s.size
        · have KI := Aside0.mk hlt
          have hlt' : decide ((i : Int) < (s.size : Int)) = true := decide_eq_true (by omega)
          have hb : ∀ h : i < s.size, (((s[i]'h).toNat : Nat) : Int) = bt s (i : Int) := fun h => bt_at s (i : Int) h
          have hc := B1.cell (partA_o (accO s x i) (fun y => if y < x then partU s y else 0) KX.out)
          rw [accO_self s x i HFX.out] at hc
          obtain ⟨o, ho⟩ : ∃ o, o = oddQ s fx i := ⟨_, rfl⟩
          obtain ⟨e, he⟩ : ∃ e, e = esc s fx i := ⟨_, rfl⟩
          rw [← ho] at hc
          have ce := CE.out i (by omega)
          rw [← he] at ce
          have hin : (i : Int) < (s.size : Int) + 1 := by omega
          have HO := Aside0.mk ho
          have HE := Aside0.mk he
          clear ho he hi
          by_cases q34 : bt s (i : Int) = 34
          · have f34 : (bt s (i : Int) == 34) = true := beq_iff_eq.mpr q34
            cases e with
            | false =>
              have ST := Aside0.mk (acc_turn s x i (fun y => if y < x then partU s y else 0) KX.out HFX.out (by rw [← HE.out, decide_eq_true q34]; rfl))
              rw [← HO.out] at ST
              clear q34
              go_wp2_with (first
                | ((with_reducible refine gate_ (Op.store 4 (.tmp 40) (.tmp 38)) rfl ?_); refine ev_store1 (i := x) HB B1 GE_g1 rfl 4 _ _ rfl rfl (.bool (!o)) rfl (by rw [partA_size]; have := KX.out; omega) (by kernel_rfl) rfl ?_; intro w7 B7 HB7 K7))
              rw [ST.out] at B7
              go_roundw
              case rel => exact ⟨i + 1, by have := KI.out; omega, by rw [w64_up' KI.out HS2.out], B0.other K7 (Nat.ne_of_lt N01.out), B7, HB7, ⟨fun j hj => cell_other (a := ad.add j) K7 (by rw [add_block]; exact NA.out) (CE.out j hj)⟩⟩
              case measure =>
                rw [w64_up' KI.out HS2.out]
                simp [intOf]
                have := KI.out
                omega
            | true =>
              have ST := Aside0.mk (acc_same s x i (fun y => if y < x then partU s y else 0) HFX.out (by rw [← HE.out, Bool.not_true, Bool.and_false]))
              clear q34
              go_wp2
              rw [ST.out] at B1
              go_roundw
              case rel => exact ⟨i + 1, by have := KI.out; omega, by rw [w64_up' KI.out HS2.out], B0, B1, HB, CE⟩
              case measure =>
                rw [w64_up' KI.out HS2.out]
                simp [intOf]
                have := KI.out
                omega
          · have f34 : (bt s (i : Int) == 34) = false := beq_eq_false_iff_ne.mpr q34
            have ST := Aside0.mk (acc_same s x i (fun y => if y < x then partU s y else 0) HFX.out (by rw [decide_eq_false q34, Bool.false_and]))
            clear q34
            go_wp2
            rw [ST.out] at B1
            go_roundw
            case rel => exact ⟨i + 1, by have := KI.out; omega, by rw [w64_up' KI.out HS2.out], B0, B1, HB, CE⟩
            case measure =>
              rw [w64_up' KI.out HS2.out]
              simp [intOf]
              have := KI.out
              omega
        · obtain rfl : i = s.size := by omega
          have hlt' : decide ((s.size : Int) < (s.size : Int)) = false := decide_eq_false (by omega)
          have hin : (s.size : Int) < (s.size : Int) + 1 := by omega
          obtain ⟨e, he⟩ : ∃ e, e = esc s fx s.size := ⟨_, rfl⟩
          have ce := CE.out s.size (by omega)
          rw [← he] at ce
          have HE := Aside0.mk he
          clear he hlt hi
          cases e with
          | true =>
            have ST := Aside0.mk (accU_one s x (accO s x s.size) KX.out HFX.out HE.out.symm)
            have SE := Aside0.mk (acc_end s x (fun y => if y < x + 1 then partU s y else 0) (fun y => if y < x + 1 then partU s y else 0) (fun _ _ => rfl))
            go_wp2_with (first
              | ((with_reducible refine gate_ (Op.store 3 (.tmp 48) (.const (.int .i64 1))) rfl ?_); refine ev_store1 (i := 2 + x) HB B1 GE_g1 rfl 3 _ _ rfl rfl (.int .i64 1) rfl (by rw [partA_size]; have := KX.out; omega) (by kernel_rfl) rfl ?_; intro w7 B7 HB7 K7))
            rw [ST.out, SE.out] at B7
            go_roundw
            case rel => exact ⟨x + 1, by have := KX.out; omega, by simp, B0.other K7 (Nat.ne_of_lt N01.out), B7, HB7⟩
            case measure =>
              simp [intOf]
              have := KX.out
              omega
          | false =>
            have SE := Aside0.mk (acc_end s x (fun y => if y < x then partU s y else 0) (fun y => if y < x + 1 then partU s y else 0) (accU_none s x HFX.out HE.out.symm))
            go_wp2
            rw [SE.out] at B1
            go_roundw
            case rel => exact ⟨x + 1, by have := KX.out; omega, by simp, B0, B1, HB⟩
            case measure =>
              simp [intOf]
              have := KX.out
              omega
    · obtain rfl : x = 2 := by omega
      rw [part_end] at B1
      go_wp2_with (first
        | ((with_reducible refine gate_dst (N := 49) rfl ?_); (try (refine gate_guard (by rfl) ?_; dsimp only)); refine ev_loadS B1 rfl 25 _ rfl rfl Try.underlying25 rfl (sizeP' _ _) ?_)
        | ((with_reducible refine gate_ (Op.store 25 (.tmp 2) (.tmp 49)) rfl ?_); refine ev_store HB B0 GE_g0 rfl 25 _ _ rfl rfl rfl (sizeP' _ _) rfl (partA_one _ _) ?_; intro w6 B6 HBn K_w6; clear HB; have HB := HBn; clear HBn))
      refine bodyPost_ret (results_cell_row rfl _ _ g0 25 _ (0, 0) _ rfl B6.out Try.underlying25 rfl (sizeP' _ _)) rfl ?_
      exact ⟨rfl, HB.out⟩
end


end Go.Proofs.Ytifpahkgielocaa.PR
