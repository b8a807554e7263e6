/- Parts of a claim (TS), packed by a program (pack.py) out of the texts that it names. -/
import Derived.Test.YtfihkkjkifkemaaDoorCards
import Derived.Test.YtfihkkjkifkemaaDoorTie
import Derived.WalkKit
import Derived.ProofKit
import Derived.OpenShut
import Derived.ShutString
import Derived.ChangeOld
import Derived.Below
import Derived.SizedLaws
import Derived.Deep.DeepHandedRow
import Derived.Lib.LaidTab
import Derived.Test.YtfihkkjkifkemaaDoorTS3
-- PSx9
section
namespace Go.Proofs.YtfihkkjkifkemaaDoor.PS
open Go.RowKit Go.Proofs.YtfihkkjkifkemaaDoorW.PrintWords Go.Proofs.YtfihkkjkifkemaaDoorW.PrintLast Go.Proofs.YtfihkkjkifkemaaDoorW.PrintMore
attribute [local go_sem] max2_int min2_int max_two min_two max_three min_three max_four min_four   -- for this text's walks alone
set_option linter.unusedVariables false
set_option linter.unusedSimpArgs false

mutual
def quarryref27_bracket.l0 : Nat → ByteArray → List Int → Int → Int → Option (Int)
  | 0, _, _, _, _ => none
  | k + 1, x0, x1, x7, x8 => if x8 < (x0.size : Int) then (if 0 ≤ x8 then (if x8 < (x1.length : Int) then (if (rd x1 x8) = 3 then (if (bt x0 x8) = 123 then (quarryref27_bracket.j1 k x0 x1 x7 x8 true) else (quarryref27_bracket.j1 k x0 x1 x7 x8 ((bt x0 x8) == 91))) else (quarryref27_bracket.j1 k x0 x1 x7 x8 false)) else (none)) else (none)) else (some (-1))
def quarryref27_bracket.j1 : Nat → ByteArray → List Int → Int → Int → Bool → Option (Int)
  | 0, _, _, _, _, _ => none
  | k + 1, x0, x1, x7, x8, x32 => if x32 = true then (quarryref27_bracket.j2 k x0 x1 (wrap64 (x7 + 1)) x8) else (quarryref27_bracket.j2 k x0 x1 x7 x8)
def quarryref27_bracket.j2 : Nat → ByteArray → List Int → Int → Int → Option (Int)
  | 0, _, _, _, _ => none
  | k + 1, x0, x1, x7, x8 => if 0 ≤ x8 then (if x8 < (x1.length : Int) then (if (rd x1 x8) = 3 then (if x8 < (x0.size : Int) then (if (bt x0 x8) = 125 then (quarryref27_bracket.j3 k x0 x1 x7 x8 true) else (quarryref27_bracket.j3 k x0 x1 x7 x8 ((bt x0 x8) == 93))) else (none)) else (quarryref27_bracket.j3 k x0 x1 x7 x8 false)) else (none)) else (none)
def quarryref27_bracket.j3 : Nat → ByteArray → List Int → Int → Int → Bool → Option (Int)
  | 0, _, _, _, _, _ => none
  | k + 1, x0, x1, x7, x8, x51 => if x51 = true then (if (wrap64 (x7 - 1)) = 0 then (some (wrap64 (x8 + 1))) else (quarryref27_bracket.l0 k x0 x1 (wrap64 (x7 - 1)) (wrap64 (x8 + 1)))) else (if x7 = 0 then (some (wrap64 (x8 + 1))) else (quarryref27_bracket.l0 k x0 x1 x7 (wrap64 (x8 + 1))))
end
def quarryref27_bracket.f (k : Nat) (a0 : ByteArray) (l1 : List Int) (a2 : Int) : Option (Int) := quarryref27_bracket.l0 k a0 l1 0 a2
theorem quarryref27_bracket.mono_l : ∀ k, (∀ y0 y1 y2 y3, LeO (quarryref27_bracket.l0 k y0 y1 y2 y3) (quarryref27_bracket.l0 (k + 1) y0 y1 y2 y3)) ∧ (∀ y0 y1 y2 y3 y4, LeO (quarryref27_bracket.j1 k y0 y1 y2 y3 y4) (quarryref27_bracket.j1 (k + 1) y0 y1 y2 y3 y4)) ∧ (∀ y0 y1 y2 y3, LeO (quarryref27_bracket.j2 k y0 y1 y2 y3) (quarryref27_bracket.j2 (k + 1) y0 y1 y2 y3)) ∧ (∀ y0 y1 y2 y3 y4, LeO (quarryref27_bracket.j3 k y0 y1 y2 y3 y4) (quarryref27_bracket.j3 (k + 1) y0 y1 y2 y3 y4))
  | 0 => ⟨fun _ _ _ _ r h => by simp [quarryref27_bracket.l0] at h, fun _ _ _ _ _ r h => by simp [quarryref27_bracket.j1] at h, fun _ _ _ _ r h => by simp [quarryref27_bracket.j2] at h, fun _ _ _ _ _ r h => by simp [quarryref27_bracket.j3] at h⟩
  | k + 1 => by
    obtain ⟨ih0, ih1, ih2, ih3⟩ := quarryref27_bracket.mono_l k
    refine ⟨?_, ?_, ?_, ?_⟩
    · intro y0 y1 y2 y3
      unfold quarryref27_bracket.l0
      repeat' first
      | (with_reducible exact ih0 _ _ _ _)
      | (with_reducible exact ih1 _ _ _ _ _)
      | (with_reducible exact ih2 _ _ _ _)
      | (with_reducible exact ih3 _ _ _ _ _)
      | (with_reducible exact LeO.refl _)
      | (with_reducible exact LeO.none _)
      | (with_reducible refine LeO.ite ?_ ?_)
      | (with_reducible refine LeO.bind ?_ (fun _ => ?_))
      | exact ih0 _ _ _ _
      | exact ih1 _ _ _ _ _
      | exact ih2 _ _ _ _
      | exact ih3 _ _ _ _ _
      | exact LeO.none _
      | refine LeO.ite ?_ ?_
      | refine LeO.bind ?_ (fun _ => ?_)
    · intro y0 y1 y2 y3 y4
      unfold quarryref27_bracket.j1
      repeat' first
      | (with_reducible exact ih0 _ _ _ _)
      | (with_reducible exact ih1 _ _ _ _ _)
      | (with_reducible exact ih2 _ _ _ _)
      | (with_reducible exact ih3 _ _ _ _ _)
      | (with_reducible exact LeO.refl _)
      | (with_reducible exact LeO.none _)
      | (with_reducible refine LeO.ite ?_ ?_)
      | (with_reducible refine LeO.bind ?_ (fun _ => ?_))
      | exact ih0 _ _ _ _
      | exact ih1 _ _ _ _ _
      | exact ih2 _ _ _ _
      | exact ih3 _ _ _ _ _
      | exact LeO.none _
      | refine LeO.ite ?_ ?_
      | refine LeO.bind ?_ (fun _ => ?_)
    · intro y0 y1 y2 y3
      unfold quarryref27_bracket.j2
      repeat' first
      | (with_reducible exact ih0 _ _ _ _)
      | (with_reducible exact ih1 _ _ _ _ _)
      | (with_reducible exact ih2 _ _ _ _)
      | (with_reducible exact ih3 _ _ _ _ _)
      | (with_reducible exact LeO.refl _)
      | (with_reducible exact LeO.none _)
      | (with_reducible refine LeO.ite ?_ ?_)
      | (with_reducible refine LeO.bind ?_ (fun _ => ?_))
      | exact ih0 _ _ _ _
      | exact ih1 _ _ _ _ _
      | exact ih2 _ _ _ _
      | exact ih3 _ _ _ _ _
      | exact LeO.none _
      | refine LeO.ite ?_ ?_
      | refine LeO.bind ?_ (fun _ => ?_)
    · intro y0 y1 y2 y3 y4
      unfold quarryref27_bracket.j3
      repeat' first
      | (with_reducible exact ih0 _ _ _ _)
      | (with_reducible exact ih1 _ _ _ _ _)
      | (with_reducible exact ih2 _ _ _ _)
      | (with_reducible exact ih3 _ _ _ _ _)
      | (with_reducible exact LeO.refl _)
      | (with_reducible exact LeO.none _)
      | (with_reducible refine LeO.ite ?_ ?_)
      | (with_reducible refine LeO.bind ?_ (fun _ => ?_))
      | exact ih0 _ _ _ _
      | exact ih1 _ _ _ _ _
      | exact ih2 _ _ _ _
      | exact ih3 _ _ _ _ _
      | exact LeO.none _
      | refine LeO.ite ?_ ?_
      | refine LeO.bind ?_ (fun _ => ?_)
theorem quarryref27_bracket.mono : ∀ a0 a1 a2 k, LeO (quarryref27_bracket.f k a0 a1 a2) (quarryref27_bracket.f (k + 1) a0 a1 a2) := by
  intro a0 a1 a2 k
  obtain ⟨ih0, ih1, ih2, ih3⟩ := quarryref27_bracket.mono_l k
  unfold quarryref27_bracket.f
  repeat' first
      | (with_reducible exact ih0 _ _ _ _)
      | (with_reducible exact ih1 _ _ _ _ _)
      | (with_reducible exact ih2 _ _ _ _)
      | (with_reducible exact ih3 _ _ _ _ _)
      | (with_reducible exact LeO.refl _)
      | (with_reducible exact LeO.none _)
      | (with_reducible refine LeO.ite ?_ ?_)
      | (with_reducible refine LeO.bind ?_ (fun _ => ?_))
      | exact ih0 _ _ _ _
      | exact ih1 _ _ _ _ _
      | exact ih2 _ _ _ _
      | exact ih3 _ _ _ _ _
      | exact LeO.none _
      | refine LeO.ite ?_ ?_
      | refine LeO.bind ?_ (fun _ => ?_)
set_option maxHeartbeats 8000000 in
set_option maxRecDepth 100000 in
theorem quarryref27_bracket.calls (k : Nat) (a0 : ByteArray) (A1 : Option Addr) (c1 : Nat) (l1 : List Int) (a2 : Int) (r : Int) (w : World) (hr1 : Kd.C (Kd.int .i64) w A1 l1.length l1) (hc1 : l1.length ≤ c1) (h : quarryref27_bracket.f k a0 l1 a2 = some r) :
    Calls Tryd.prog 44 #[.string a0, .slice A1 l1.length c1, .int .i64 a2] w fun e w' => e = .returned (.int .i64 r) ∧ Drawn0 w w' := by
  have HR1 := Aside0.mk hr1
  have HC1 := Aside0.mk hc1
  clear hr1 hc1
  have H : (quarryref27_bracket.l0 k a0 l1 0 a2) = some r := h
  clear h
  have H' := Aside0.mk H
  clear H
  go_enter Tryd.func44, Tryd.ntmps44
  go_wp2
  go_loopg [7, 8] k (fun kq v7 v8 w' => ∃ (x7_1 : Int) (x8_1 : Int), v7 = .int .i64 x7_1 ∧ v8 = .int .i64 x8_1 ∧ Aside0 (quarryref27_bracket.l0 kq a0 l1 x7_1 x8_1 = some r) ∧ Aside0 (kq ≤ k) ∧ Drawn0 w w')
  case atStart => exact ⟨(0), (a2), (by first | rfl | (simp; done) | (simp [*]; done)), (by first | rfl | (simp; done) | (simp [*]; done)), H', ⟨Nat.le_refl _⟩, by repeat (first | exact Drawn0.refl _ | apply Drawn0.step)⟩
  case round =>
    clear H'
    try clear c1
    try clear p2
    obtain ⟨x7_1, x8_1, rfl, rfl, HA, HK1, ⟨m1, rfl⟩⟩ := hrel
    cases gk with
    | zero => exact absurd HA.out (by simp [quarryref27_bracket.l0])
    | succ k1 =>
      have H := HA.out
      clear HA
      simp only [quarryref27_bracket.l0] at H
      by_cases c4 : x8_1 < (a0.size : Int)
      · rw [if_pos c4] at H
        have c4b0 : decide (x8_1 < (a0.size : Int)) = true := decide_eq_true c4
        clear c4
        have HC5 := Aside0.mk H
        clear H
        go_upto_region 5 with (fail)
        go_cut [32] (fun v32 wc => ∃ (kq : Nat) (x32_4 : Bool), v32 = .bool x32_4 ∧ Aside0 (quarryref27_bracket.j1 kq a0 l1 x7_1 x8_1 x32_4 = some r) ∧ Aside0 (kq ≤ k1) ∧ Drawn0 w wc)
        case first =>
          have H := HC5.out
          clear HC5
          by_cases c6 : 0 ≤ x8_1
          · rw [if_pos c6] at H
            have c6b0 : decide (0 ≤ x8_1) = true := decide_eq_true c6
            clear c6
            (first | rw [c6b0] | (simp only [i64_w, i32_w]; rw [c6b0]) | skip)
            by_cases c7 : x8_1 < (l1.length : Int)
            · rw [if_pos c7] at H
              have c7b0 : decide (x8_1 < (l1.length : Int)) = true := decide_eq_true c7
              clear c7
              by_cases c8 : (rd l1 x8_1) = 3
              · rw [if_pos c8] at H
                have c8b0 : ((rd l1 x8_1) == 3) = true := beq_iff_eq.mpr c8
                have c8b1 : ((rd l1 x8_1) != 3) = false := bne_eq_false_iff_eq.mpr c8
                clear c8
                by_cases c10 : (bt a0 x8_1) = 123
                · rw [if_pos c10] at H
                  have c10b0 : ((bt a0 x8_1) == 123) = true := beq_iff_eq.mpr c10
                  have c10b1 : ((bt a0 x8_1) != 123) = false := bne_eq_false_iff_eq.mpr c10
                  clear c10
                  have H' := Aside0.mk H
                  clear H
                  have p164 : 0 ≤ (x8_1 : Int) := of_decide_eq_true (by first | (with_reducible assumption) | assumption)
                  have q164 : x8_1 < (l1.length : Int) := of_decide_eq_true (by first | (with_reducible assumption) | assumption)
                  obtain ⟨ad164, e164, hx164_0⟩ := Kd.at_int HR1.out x8_1 p164 q164
                  cases e164
                  replace p164 := eq_true p164
                  replace q164 := eq_true q164
                  have p9 : 0 ≤ (x8_1 : Int) := of_decide_eq_true (by first | (with_reducible assumption) | assumption)
                  have q9 : x8_1 < (a0.size : Int) := of_decide_eq_true (by first | (with_reducible assumption) | assumption)
                  have hx9 := bt_at a0 x8_1
                  replace p9 := eq_true p9
                  replace q9 := eq_true q9
                  go_wp2
                  go_meet
                  case rel => exact ⟨_, (true), (by first | rfl | (simp; done) | (simp [*]; done)), H', ⟨by have := HK1.out; first | omega | exact Nat.le_refl _⟩, by repeat (first | exact Drawn0.refl _ | apply Drawn0.step)⟩
                · rw [if_neg c10] at H
                  have c10b0 : ((bt a0 x8_1) == 123) = false := beq_eq_false_iff_ne.mpr c10
                  have c10b1 : ((bt a0 x8_1) != 123) = true := bne_iff_ne.mpr c10
                  have H' := Aside0.mk H
                  clear H
                  have p164 : 0 ≤ (x8_1 : Int) := of_decide_eq_true (by first | (with_reducible assumption) | assumption)
                  have q164 : x8_1 < (l1.length : Int) := of_decide_eq_true (by first | (with_reducible assumption) | assumption)
                  obtain ⟨ad164, e164, hx164_0⟩ := Kd.at_int HR1.out x8_1 p164 q164
                  cases e164
                  replace p164 := eq_true p164
                  replace q164 := eq_true q164
                  have p9 : 0 ≤ (x8_1 : Int) := of_decide_eq_true (by first | (with_reducible assumption) | assumption)
                  have q9 : x8_1 < (a0.size : Int) := of_decide_eq_true (by first | (with_reducible assumption) | assumption)
                  have hx9 := bt_at a0 x8_1
                  replace p9 := eq_true p9
                  replace q9 := eq_true q9
                  have p11 : 0 ≤ (x8_1 : Int) := of_decide_eq_true (by first | (with_reducible assumption) | assumption)
                  have q11 : x8_1 < (a0.size : Int) := of_decide_eq_true (by first | (with_reducible assumption) | assumption)
                  have hx11 := bt_at a0 x8_1
                  replace p11 := eq_true p11
                  replace q11 := eq_true q11
                  go_wp2
                  go_meet
                  case rel => exact ⟨_, (((bt a0 x8_1) == 91)), (by first | rfl | (simp; done) | (simp [*]; done)), H', ⟨by have := HK1.out; first | omega | exact Nat.le_refl _⟩, by repeat (first | exact Drawn0.refl _ | apply Drawn0.step)⟩
              · rw [if_neg c8] at H
                have c8b0 : ((rd l1 x8_1) == 3) = false := beq_eq_false_iff_ne.mpr c8
                have c8b1 : ((rd l1 x8_1) != 3) = true := bne_iff_ne.mpr c8
                have H' := Aside0.mk H
                clear H
                have p164 : 0 ≤ (x8_1 : Int) := of_decide_eq_true (by first | (with_reducible assumption) | assumption)
                have q164 : x8_1 < (l1.length : Int) := of_decide_eq_true (by first | (with_reducible assumption) | assumption)
                obtain ⟨ad164, e164, hx164_0⟩ := Kd.at_int HR1.out x8_1 p164 q164
                cases e164
                replace p164 := eq_true p164
                replace q164 := eq_true q164
                go_wp2
                go_meet
                case rel => exact ⟨_, (false), (by first | rfl | (simp; done) | (simp [*]; done)), H', ⟨by have := HK1.out; first | omega | exact Nat.le_refl _⟩, by repeat (first | exact Drawn0.refl _ | apply Drawn0.step)⟩
            · rw [if_neg c7] at H
              exact absurd H (by simp)
          · rw [if_neg c6] at H
            exact absurd H (by simp)
        case rest =>
          clear HC5
          try clear c1
          try clear p1
          try clear q1
          try clear hx1
          try clear p2
          try clear c4
          try clear c4b0
          try clear c6
          try clear c6b0
          try clear c7
          try clear c7b0
          try clear c8
          try clear c8b0
          try clear c8b1
          try clear p9
          try clear q9
          try clear hx9
          try clear c10
          try clear c10b0
          try clear c10b1
          try clear p11
          try clear q11
          try clear hx11
          try clear hx164_0
          try clear p11
          try clear p164
          try clear p2
          try clear p9
          try clear q11
          try clear q164
          try clear q9
          obtain ⟨kq, x32_4, rfl, HA, HJ4, ⟨mc4, rfl⟩⟩ := hcut
          cases kq with
          | zero => exact absurd HA.out (by simp [quarryref27_bracket.j1])
          | succ kj4 =>
            have H := HA.out
            clear HA
            simp only [quarryref27_bracket.j1] at H
            have HC12 := Aside0.mk H
            clear H
            go_upto_if 32 with (fail)
            go_cut [7] (fun v7 wc => ∃ (kq : Nat) (x7_11 : Int), v7 = .int .i64 x7_11 ∧ Aside0 (quarryref27_bracket.j2 kq a0 l1 x7_11 x8_1 = some r) ∧ Aside0 (kq ≤ kj4) ∧ Drawn0 w wc)
            case first =>
              have H := HC12.out
              clear HC12
              by_cases c13 : x32_4 = true
              · subst c13
                have H1 : (quarryref27_bracket.j2 kj4 a0 l1 (wrap64 (x7_1 + 1)) x8_1) = some r := by rw [if_pos rfl] at H; exact H
                clear H
                have H := H1
                clear H1
                have H' := Aside0.mk H
                clear H
                go_wp2
                go_meet
                case rel => exact ⟨_, (wrap64 (x7_1 + 1)), (by first | rfl | (simp; done) | (simp [*]; done)), H', ⟨by have := HK1.out; have := HJ4.out; first | omega | exact Nat.le_refl _⟩, by repeat (first | exact Drawn0.refl _ | apply Drawn0.step)⟩
              · replace c13 := Bool.eq_false_iff.mpr c13
                subst c13
                have H1 : (quarryref27_bracket.j2 kj4 a0 l1 x7_1 x8_1) = some r := by rw [if_neg (show ¬ (false = true) by decide)] at H; exact H
                clear H
                have H := H1
                clear H1
                have H' := Aside0.mk H
                clear H
                go_wp2
                go_meet
                case rel => exact ⟨_, (x7_1), (by first | rfl | (simp; done) | (simp [*]; done)), H', ⟨by have := HK1.out; have := HJ4.out; first | omega | exact Nat.le_refl _⟩, by repeat (first | exact Drawn0.refl _ | apply Drawn0.step)⟩
            case rest =>
              clear HC12
              try clear c1
              try clear p1
              try clear q1
              try clear hx1
              try clear p2
              try clear c4
              try clear c4b0
              try clear c6
              try clear c6b0
              try clear p6
              try clear c7
              try clear c7b0
              try clear c8
              try clear c8b0
              try clear c8b1
              try clear p9
              try clear q9
              try clear hx9
              try clear c10
              try clear c10b0
              try clear c10b1
              try clear p11
              try clear q11
              try clear hx11
              try clear c13
              try clear hx164_0
              try clear p1
              try clear p11
              try clear p164
              try clear p2
              try clear p9
              try clear q1
              try clear q11
              try clear q164
              try clear q9
              obtain ⟨kq, x7_11, rfl, HA, HJ11, ⟨mc11, rfl⟩⟩ := hcut
              cases kq with
              | zero => exact absurd HA.out (by simp [quarryref27_bracket.j2])
              | succ kj11 =>
                have H := HA.out
                clear HA
                simp only [quarryref27_bracket.j2] at H
                have HC14 := Aside0.mk H
                clear H
                go_upto_region 7 with (fail)
                go_cut [51] (fun v51 wc => ∃ (kq : Nat) (x51_13 : Bool), v51 = .bool x51_13 ∧ Aside0 (quarryref27_bracket.j3 kq a0 l1 x7_11 x8_1 x51_13 = some r) ∧ Aside0 (kq ≤ kj11) ∧ Drawn0 w wc)
                case first =>
                  have H := HC14.out
                  clear HC14
                  by_cases c15 : 0 ≤ x8_1
                  · rw [if_pos c15] at H
                    have c15b0 : decide (0 ≤ x8_1) = true := decide_eq_true c15
                    clear c15
                    (first | rw [c15b0] | (simp only [i64_w, i32_w]; rw [c15b0]) | skip)
                    by_cases c16 : x8_1 < (l1.length : Int)
                    · rw [if_pos c16] at H
                      have c16b0 : decide (x8_1 < (l1.length : Int)) = true := decide_eq_true c16
                      clear c16
                      by_cases c17 : (rd l1 x8_1) = 3
                      · rw [if_pos c17] at H
                        have c17b0 : ((rd l1 x8_1) == 3) = true := beq_iff_eq.mpr c17
                        have c17b1 : ((rd l1 x8_1) != 3) = false := bne_eq_false_iff_eq.mpr c17
                        clear c17
                        by_cases c18 : x8_1 < (a0.size : Int)
                        · rw [if_pos c18] at H
                          have c18b0 : decide (x8_1 < (a0.size : Int)) = true := decide_eq_true c18
                          clear c18
                          by_cases c20 : (bt a0 x8_1) = 125
                          · rw [if_pos c20] at H
                            have c20b0 : ((bt a0 x8_1) == 125) = true := beq_iff_eq.mpr c20
                            have c20b1 : ((bt a0 x8_1) != 125) = false := bne_eq_false_iff_eq.mpr c20
                            clear c20
                            have H' := Aside0.mk H
                            clear H
                            have p165 : 0 ≤ (x8_1 : Int) := of_decide_eq_true (by first | (with_reducible assumption) | assumption)
                            have q165 : x8_1 < (l1.length : Int) := of_decide_eq_true (by first | (with_reducible assumption) | assumption)
                            obtain ⟨ad165, e165, hx165_0⟩ := Kd.at_int HR1.out x8_1 p165 q165
                            cases e165
                            replace p165 := eq_true p165
                            replace q165 := eq_true q165
                            have p19 : 0 ≤ (x8_1 : Int) := of_decide_eq_true (by first | (with_reducible assumption) | assumption)
                            have q19 : x8_1 < (a0.size : Int) := of_decide_eq_true (by first | (with_reducible assumption) | assumption)
                            have hx19 := bt_at a0 x8_1
                            replace p19 := eq_true p19
                            replace q19 := eq_true q19
                            go_wp2
                            go_meet
                            case rel => exact ⟨_, (true), (by first | rfl | (simp; done) | (simp [*]; done)), H', ⟨by have := HK1.out; have := HJ4.out; have := HJ11.out; first | omega | exact Nat.le_refl _⟩, by repeat (first | exact Drawn0.refl _ | apply Drawn0.step)⟩
                          · rw [if_neg c20] at H
                            have c20b0 : ((bt a0 x8_1) == 125) = false := beq_eq_false_iff_ne.mpr c20
                            have c20b1 : ((bt a0 x8_1) != 125) = true := bne_iff_ne.mpr c20
                            have H' := Aside0.mk H
                            clear H
                            have p165 : 0 ≤ (x8_1 : Int) := of_decide_eq_true (by first | (with_reducible assumption) | assumption)
                            have q165 : x8_1 < (l1.length : Int) := of_decide_eq_true (by first | (with_reducible assumption) | assumption)
                            obtain ⟨ad165, e165, hx165_0⟩ := Kd.at_int HR1.out x8_1 p165 q165
                            cases e165
                            replace p165 := eq_true p165
                            replace q165 := eq_true q165
                            have p19 : 0 ≤ (x8_1 : Int) := of_decide_eq_true (by first | (with_reducible assumption) | assumption)
                            have q19 : x8_1 < (a0.size : Int) := of_decide_eq_true (by first | (with_reducible assumption) | assumption)
                            have hx19 := bt_at a0 x8_1
                            replace p19 := eq_true p19
                            replace q19 := eq_true q19
                            have p21 : 0 ≤ (x8_1 : Int) := of_decide_eq_true (by first | (with_reducible assumption) | assumption)
                            have q21 : x8_1 < (a0.size : Int) := of_decide_eq_true (by first | (with_reducible assumption) | assumption)
                            have hx21 := bt_at a0 x8_1
                            replace p21 := eq_true p21
                            replace q21 := eq_true q21
                            go_wp2
                            go_meet
                            case rel => exact ⟨_, (((bt a0 x8_1) == 93)), (by first | rfl | (simp; done) | (simp [*]; done)), H', ⟨by have := HK1.out; have := HJ4.out; have := HJ11.out; first | omega | exact Nat.le_refl _⟩, by repeat (first | exact Drawn0.refl _ | apply Drawn0.step)⟩
                        · rw [if_neg c18] at H
                          exact absurd H (by simp)
                      · rw [if_neg c17] at H
                        have c17b0 : ((rd l1 x8_1) == 3) = false := beq_eq_false_iff_ne.mpr c17
                        have c17b1 : ((rd l1 x8_1) != 3) = true := bne_iff_ne.mpr c17
                        have H' := Aside0.mk H
                        clear H
                        have p165 : 0 ≤ (x8_1 : Int) := of_decide_eq_true (by first | (with_reducible assumption) | assumption)
                        have q165 : x8_1 < (l1.length : Int) := of_decide_eq_true (by first | (with_reducible assumption) | assumption)
                        obtain ⟨ad165, e165, hx165_0⟩ := Kd.at_int HR1.out x8_1 p165 q165
                        cases e165
                        replace p165 := eq_true p165
                        replace q165 := eq_true q165
                        go_wp2
                        go_meet
                        case rel => exact ⟨_, (false), (by first | rfl | (simp; done) | (simp [*]; done)), H', ⟨by have := HK1.out; have := HJ4.out; have := HJ11.out; first | omega | exact Nat.le_refl _⟩, by repeat (first | exact Drawn0.refl _ | apply Drawn0.step)⟩
                    · rw [if_neg c16] at H
                      exact absurd H (by simp)
                  · rw [if_neg c15] at H
                    exact absurd H (by simp)
                case rest =>
                  clear HC14
                  try clear c1
                  try clear p1
                  try clear q1
                  try clear hx1
                  try clear c2
                  try clear p2
                  try clear q2
                  try clear hx2
                  try clear c4
                  try clear c4b0
                  try clear c6
                  try clear c6b0
                  try clear p6
                  try clear c7
                  try clear c7b0
                  try clear c8
                  try clear c8b0
                  try clear c8b1
                  try clear p9
                  try clear q9
                  try clear hx9
                  try clear c10
                  try clear c10b0
                  try clear c10b1
                  try clear c11
                  try clear p11
                  try clear q11
                  try clear hx11
                  try clear c13
                  try clear c15
                  try clear c15b0
                  try clear c16
                  try clear c16b0
                  try clear p16
                  try clear q16
                  try clear hx16
                  try clear c17
                  try clear c17b0
                  try clear c17b1
                  try clear c18
                  try clear c18b0
                  try clear p19
                  try clear q19
                  try clear hx19
                  try clear c20
                  try clear c20b0
                  try clear c20b1
                  try clear p21
                  try clear q21
                  try clear hx21
                  try clear hx164_0
                  try clear hx165_0
                  try clear p1
                  try clear p11
                  try clear p164
                  try clear p165
                  try clear p19
                  try clear p2
                  try clear p21
                  try clear p6
                  try clear p9
                  try clear q1
                  try clear q11
                  try clear q164
                  try clear q165
                  try clear q19
                  try clear q21
                  try clear q9
                  obtain ⟨kq, x51_13, rfl, HA, HJ13, ⟨mc13, rfl⟩⟩ := hcut
                  cases kq with
                  | zero => exact absurd HA.out (by simp [quarryref27_bracket.j3])
                  | succ kj13 =>
                    have H := HA.out
                    clear HA
                    simp only [quarryref27_bracket.j3] at H
                    by_cases c22 : x51_13 = true
                    · subst c22
                      have H1 : (if (wrap64 (x7_11 - 1)) = 0 then (some (wrap64 (x8_1 + 1))) else (quarryref27_bracket.l0 kj13 a0 l1 (wrap64 (x7_11 - 1)) (wrap64 (x8_1 + 1)))) = some r := by rw [if_pos rfl] at H; exact H
                      clear H
                      have H := H1
                      clear H1
                      by_cases c23 : (wrap64 (x7_11 - 1)) = 0
                      · rw [if_pos c23] at H
                        have c23b0 : ((wrap64 (x7_11 - 1)) == 0) = true := beq_iff_eq.mpr c23
                        have c23b1 : ((wrap64 (x7_11 - 1)) != 0) = false := bne_eq_false_iff_eq.mpr c23
                        clear c23
                        obtain rfl := Option.some.inj H
                        go_wp2
                        go_ret
                        exact ⟨by first | rfl | (simp; done) | (simp [*]; done), by repeat (first | exact Drawn0.refl _ | apply Drawn0.step)⟩
                      · rw [if_neg c23] at H
                        have c23b0 : ((wrap64 (x7_11 - 1)) == 0) = false := beq_eq_false_iff_ne.mpr c23
                        have c23b1 : ((wrap64 (x7_11 - 1)) != 0) = true := bne_iff_ne.mpr c23
                        have H' := Aside0.mk H
                        clear H
                        go_wp2
                        go_roundg kj13
                        case measure => have := HK1.out; have := HJ4.out; have := HJ11.out; have := HJ13.out; omega
                        case rel => exact ⟨(wrap64 (x7_11 - 1)), (wrap64 (x8_1 + 1)), (by first | rfl | (simp; done) | (simp [*]; done)), (by first | rfl | (simp; done) | (simp [*]; done)), H', ⟨by have := HK1.out; have := HJ4.out; have := HJ11.out; have := HJ13.out; omega⟩, by repeat (first | exact Drawn0.refl _ | apply Drawn0.step)⟩
                    · replace c22 := Bool.eq_false_iff.mpr c22
                      subst c22
                      have H1 : (if x7_11 = 0 then (some (wrap64 (x8_1 + 1))) else (quarryref27_bracket.l0 kj13 a0 l1 x7_11 (wrap64 (x8_1 + 1)))) = some r := by rw [if_neg (show ¬ (false = true) by decide)] at H; exact H
                      clear H
                      have H := H1
                      clear H1
                      by_cases c24 : x7_11 = 0
                      · rw [if_pos c24] at H
                        have c24b0 : (x7_11 == 0) = true := beq_iff_eq.mpr c24
                        have c24b1 : (x7_11 != 0) = false := bne_eq_false_iff_eq.mpr c24
                        clear c24
                        obtain rfl := Option.some.inj H
                        go_wp2
                        go_ret
                        exact ⟨by first | rfl | (simp; done) | (simp [*]; done), by repeat (first | exact Drawn0.refl _ | apply Drawn0.step)⟩
                      · rw [if_neg c24] at H
                        have c24b0 : (x7_11 == 0) = false := beq_eq_false_iff_ne.mpr c24
                        have c24b1 : (x7_11 != 0) = true := bne_iff_ne.mpr c24
                        have H' := Aside0.mk H
                        clear H
                        go_wp2
                        go_roundg kj13
                        case measure => have := HK1.out; have := HJ4.out; have := HJ11.out; have := HJ13.out; omega
                        case rel => exact ⟨(x7_11), (wrap64 (x8_1 + 1)), (by first | rfl | (simp; done) | (simp [*]; done)), (by first | rfl | (simp; done) | (simp [*]; done)), H', ⟨by have := HK1.out; have := HJ4.out; have := HJ11.out; have := HJ13.out; omega⟩, by repeat (first | exact Drawn0.refl _ | apply Drawn0.step)⟩
      · rw [if_neg c4] at H
        have c4b0 : decide (x8_1 < (a0.size : Int)) = false := decide_eq_false c4
        clear c4
        obtain rfl := Option.some.inj H
        go_wp2
        go_ret
        exact ⟨by first | rfl | (simp; done) | (simp [*]; done), by repeat (first | exact Drawn0.refl _ | apply Drawn0.step)⟩

mutual
def quarryref27_end.j0 : Nat → ByteArray → List Int → List Bool → Int → Bool → Option (Int)
  | 0, _, _, _, _, _ => none
  | k + 1, x0, x1, x2, x3, x19 => if x19 = true then ((quarryref27_bracket.f k x0 x1 x3).bind fun t166 => (some t166)) else (if 0 ≤ x3 then (if x3 < (x1.length : Int) then (if (rd x1 x3) = 3 then (some (-1)) else (if (rd x1 x3) = 1 then (quarryref27_end.l0 k x0 x1 x2 (wrap64 (x3 + 1))) else (quarryref27_end.l1 k x0 x1 (wrap64 (x3 + 1))))) else (none)) else (none))
def quarryref27_end.l0 : Nat → ByteArray → List Int → List Bool → Int → Option (Int)
  | 0, _, _, _, _ => none
  | k + 1, x0, x1, x2, x9 => if x9 < (x0.size : Int) then (if 0 ≤ x9 then (if x9 < (x1.length : Int) then (quarryref27_end.j2 k x0 x1 x2 x9 ((rd x1 x9) == 0)) else (none)) else (none)) else (quarryref27_end.j2 k x0 x1 x2 x9 false)
def quarryref27_end.j2 : Nat → ByteArray → List Int → List Bool → Int → Bool → Option (Int)
  | 0, _, _, _, _, _ => none
  | k + 1, x0, x1, x2, x9, x46 => if x46 = true then (if 0 ≤ x9 then (if x9 < (x0.size : Int) then (if (bt x0 x9) = 34 then (if x9 < (x2.length : Int) then (if rdOf false x2 x9 = true then (quarryref27_end.l0 k x0 x1 x2 (wrap64 (x9 + 1))) else (some (wrap64 (x9 + 1)))) else (none)) else (quarryref27_end.l0 k x0 x1 x2 (wrap64 (x9 + 1)))) else (none)) else (none)) else (some (-1))
def quarryref27_end.l1 : Nat → ByteArray → List Int → Int → Option (Int)
  | 0, _, _, _ => none
  | k + 1, x0, x1, x9 => if x9 < (x0.size : Int) then (if 0 ≤ x9 then (if x9 < (x1.length : Int) then (if (rd x1 x9) = 4 then (quarryref27_end.l1 k x0 x1 (wrap64 (x9 + 1))) else (some x9)) else (none)) else (none)) else (some x9)
end
def quarryref27_end.f (k : Nat) (a0 : ByteArray) (l1 : List Int) (l2 : List Bool) (a3 : Int) : Option (Int) := if 0 ≤ a3 then (if a3 < (a0.size : Int) then (if (bt a0 a3) = 123 then (quarryref27_end.j0 k a0 l1 l2 a3 true) else (quarryref27_end.j0 k a0 l1 l2 a3 ((bt a0 a3) == 91))) else (none)) else (none)
theorem quarryref27_end.mono_l : ∀ k, (∀ y0 y1 y2 y3 y4, LeO (quarryref27_end.j0 k y0 y1 y2 y3 y4) (quarryref27_end.j0 (k + 1) y0 y1 y2 y3 y4)) ∧ (∀ y0 y1 y2 y3, LeO (quarryref27_end.l0 k y0 y1 y2 y3) (quarryref27_end.l0 (k + 1) y0 y1 y2 y3)) ∧ (∀ y0 y1 y2 y3 y4, LeO (quarryref27_end.j2 k y0 y1 y2 y3 y4) (quarryref27_end.j2 (k + 1) y0 y1 y2 y3 y4)) ∧ (∀ y0 y1 y2, LeO (quarryref27_end.l1 k y0 y1 y2) (quarryref27_end.l1 (k + 1) y0 y1 y2))
  | 0 => ⟨fun _ _ _ _ _ r h => by simp [quarryref27_end.j0] at h, fun _ _ _ _ r h => by simp [quarryref27_end.l0] at h, fun _ _ _ _ _ r h => by simp [quarryref27_end.j2] at h, fun _ _ _ r h => by simp [quarryref27_end.l1] at h⟩
  | k + 1 => by
    obtain ⟨ih0, ih1, ih2, ih3⟩ := quarryref27_end.mono_l k
    refine ⟨?_, ?_, ?_, ?_⟩
    · intro y0 y1 y2 y3 y4
      unfold quarryref27_end.j0
      repeat' first
      | (with_reducible exact ih0 _ _ _ _ _)
      | (with_reducible exact ih1 _ _ _ _)
      | (with_reducible exact ih2 _ _ _ _ _)
      | (with_reducible exact ih3 _ _ _)
      | (with_reducible exact quarryref27_bracket.mono _ _ _ _)
      | (with_reducible exact LeO.refl _)
      | (with_reducible exact LeO.none _)
      | (with_reducible refine LeO.ite ?_ ?_)
      | (with_reducible refine LeO.bind ?_ (fun _ => ?_))
      | exact ih0 _ _ _ _ _
      | exact ih1 _ _ _ _
      | exact ih2 _ _ _ _ _
      | exact ih3 _ _ _
      | exact quarryref27_bracket.mono _ _ _ _
      | exact LeO.none _
      | refine LeO.ite ?_ ?_
      | refine LeO.bind ?_ (fun _ => ?_)
    · intro y0 y1 y2 y3
      unfold quarryref27_end.l0
      repeat' first
      | (with_reducible exact ih0 _ _ _ _ _)
      | (with_reducible exact ih1 _ _ _ _)
      | (with_reducible exact ih2 _ _ _ _ _)
      | (with_reducible exact ih3 _ _ _)
      | (with_reducible exact quarryref27_bracket.mono _ _ _ _)
      | (with_reducible exact LeO.refl _)
      | (with_reducible exact LeO.none _)
      | (with_reducible refine LeO.ite ?_ ?_)
      | (with_reducible refine LeO.bind ?_ (fun _ => ?_))
      | exact ih0 _ _ _ _ _
      | exact ih1 _ _ _ _
      | exact ih2 _ _ _ _ _
      | exact ih3 _ _ _
      | exact quarryref27_bracket.mono _ _ _ _
      | exact LeO.none _
      | refine LeO.ite ?_ ?_
      | refine LeO.bind ?_ (fun _ => ?_)
    · intro y0 y1 y2 y3 y4
      unfold quarryref27_end.j2
      repeat' first
      | (with_reducible exact ih0 _ _ _ _ _)
      | (with_reducible exact ih1 _ _ _ _)
      | (with_reducible exact ih2 _ _ _ _ _)
      | (with_reducible exact ih3 _ _ _)
      | (with_reducible exact quarryref27_bracket.mono _ _ _ _)
      | (with_reducible exact LeO.refl _)
      | (with_reducible exact LeO.none _)
      | (with_reducible refine LeO.ite ?_ ?_)
      | (with_reducible refine LeO.bind ?_ (fun _ => ?_))
      | exact ih0 _ _ _ _ _
      | exact ih1 _ _ _ _
      | exact ih2 _ _ _ _ _
      | exact ih3 _ _ _
      | exact quarryref27_bracket.mono _ _ _ _
      | exact LeO.none _
      | refine LeO.ite ?_ ?_
      | refine LeO.bind ?_ (fun _ => ?_)
    · intro y0 y1 y2
      unfold quarryref27_end.l1
      repeat' first
      | (with_reducible exact ih0 _ _ _ _ _)
      | (with_reducible exact ih1 _ _ _ _)
      | (with_reducible exact ih2 _ _ _ _ _)
      | (with_reducible exact ih3 _ _ _)
      | (with_reducible exact quarryref27_bracket.mono _ _ _ _)
      | (with_reducible exact LeO.refl _)
      | (with_reducible exact LeO.none _)
      | (with_reducible refine LeO.ite ?_ ?_)
      | (with_reducible refine LeO.bind ?_ (fun _ => ?_))
      | exact ih0 _ _ _ _ _
      | exact ih1 _ _ _ _
      | exact ih2 _ _ _ _ _
      | exact ih3 _ _ _
      | exact quarryref27_bracket.mono _ _ _ _
      | exact LeO.none _
      | refine LeO.ite ?_ ?_
      | refine LeO.bind ?_ (fun _ => ?_)
theorem quarryref27_end.mono : ∀ a0 a1 a2 a3 k, LeO (quarryref27_end.f k a0 a1 a2 a3) (quarryref27_end.f (k + 1) a0 a1 a2 a3) := by
  intro a0 a1 a2 a3 k
  obtain ⟨ih0, ih1, ih2, ih3⟩ := quarryref27_end.mono_l k
  unfold quarryref27_end.f
  repeat' first
      | (with_reducible exact ih0 _ _ _ _ _)
      | (with_reducible exact ih1 _ _ _ _)
      | (with_reducible exact ih2 _ _ _ _ _)
      | (with_reducible exact ih3 _ _ _)
      | (with_reducible exact quarryref27_bracket.mono _ _ _ _)
      | (with_reducible exact LeO.refl _)
      | (with_reducible exact LeO.none _)
      | (with_reducible refine LeO.ite ?_ ?_)
      | (with_reducible refine LeO.bind ?_ (fun _ => ?_))
      | exact ih0 _ _ _ _ _
      | exact ih1 _ _ _ _
      | exact ih2 _ _ _ _ _
      | exact ih3 _ _ _
      | exact quarryref27_bracket.mono _ _ _ _
      | exact LeO.none _
      | refine LeO.ite ?_ ?_
      | refine LeO.bind ?_ (fun _ => ?_)
set_option maxHeartbeats 8000000 in
set_option maxRecDepth 100000 in
theorem quarryref27_end.calls (k : Nat) (a0 : ByteArray) (A1 : Option Addr) (c1 : Nat) (l1 : List Int) (A2 : Option Addr) (c2 : Nat) (l2 : List Bool) (a3 : Int) (r : Int) (w : World) (hr1 : Kd.C (Kd.int .i64) w A1 l1.length l1) (hc1 : l1.length ≤ c1) (hr2 : Kd.C Kd.bool w A2 l2.length l2) (hc2 : l2.length ≤ c2) (h : quarryref27_end.f k a0 l1 l2 a3 = some r) :
    Calls Tryd.prog 30 #[.string a0, .slice A1 l1.length c1, .slice A2 l2.length c2, .int .i64 a3] w fun e w' => e = .returned (.int .i64 r) ∧ Drawn0 w w' := by
  have HR1 := Aside0.mk hr1
  have HC1 := Aside0.mk hc1
  clear hr1 hc1
  have HR2 := Aside0.mk hr2
  have HC2 := Aside0.mk hc2
  clear hr2 hc2
  have H : (if 0 ≤ a3 then (if a3 < (a0.size : Int) then (if (bt a0 a3) = 123 then (quarryref27_end.j0 k a0 l1 l2 a3 true) else (quarryref27_end.j0 k a0 l1 l2 a3 ((bt a0 a3) == 91))) else (none)) else (none)) = some r := h
  clear h
  have HC5 := Aside0.mk H
  clear H
  go_enter Tryd.func30, Tryd.ntmps30
  go_upto_region 1 with (fail)
  go_cut [19] (fun v19 wc => ∃ (kq : Nat) (x19_4 : Bool), v19 = .bool x19_4 ∧ Aside0 (quarryref27_end.j0 kq a0 l1 l2 a3 x19_4 = some r) ∧ Aside0 (kq ≤ k) ∧ Drawn0 w wc)
  case first =>
    have H := HC5.out
    clear HC5
    by_cases c6 : 0 ≤ a3
    · rw [if_pos c6] at H
      have c6b0 : decide (0 ≤ a3) = true := decide_eq_true c6
      clear c6
      (first | rw [c6b0] | (simp only [i64_w, i32_w]; rw [c6b0]) | skip)
      by_cases c7 : a3 < (a0.size : Int)
      · rw [if_pos c7] at H
        have c7b0 : decide (a3 < (a0.size : Int)) = true := decide_eq_true c7
        clear c7
        by_cases c9 : (bt a0 a3) = 123
        · rw [if_pos c9] at H
          have c9b0 : ((bt a0 a3) == 123) = true := beq_iff_eq.mpr c9
          have c9b1 : ((bt a0 a3) != 123) = false := bne_eq_false_iff_eq.mpr c9
          clear c9
          have H' := Aside0.mk H
          clear H
          have p8 : 0 ≤ (a3 : Int) := of_decide_eq_true (by first | (with_reducible assumption) | assumption)
          have q8 : a3 < (a0.size : Int) := of_decide_eq_true (by first | (with_reducible assumption) | assumption)
          have hx8 := bt_at a0 a3
          replace p8 := eq_true p8
          replace q8 := eq_true q8
          go_wp2
          go_meet
          case rel => exact ⟨_, (true), (by first | rfl | (simp; done) | (simp [*]; done)), H', ⟨by first | omega | exact Nat.le_refl _⟩, by repeat (first | exact Drawn0.refl _ | apply Drawn0.step)⟩
        · rw [if_neg c9] at H
          have c9b0 : ((bt a0 a3) == 123) = false := beq_eq_false_iff_ne.mpr c9
          have c9b1 : ((bt a0 a3) != 123) = true := bne_iff_ne.mpr c9
          have H' := Aside0.mk H
          clear H
          have p8 : 0 ≤ (a3 : Int) := of_decide_eq_true (by first | (with_reducible assumption) | assumption)
          have q8 : a3 < (a0.size : Int) := of_decide_eq_true (by first | (with_reducible assumption) | assumption)
          have hx8 := bt_at a0 a3
          replace p8 := eq_true p8
          replace q8 := eq_true q8
          have p10 : 0 ≤ (a3 : Int) := of_decide_eq_true (by first | (with_reducible assumption) | assumption)
          have q10 : a3 < (a0.size : Int) := of_decide_eq_true (by first | (with_reducible assumption) | assumption)
          have hx10 := bt_at a0 a3
          replace p10 := eq_true p10
          replace q10 := eq_true q10
          go_wp2
          go_meet
          case rel => exact ⟨_, (((bt a0 a3) == 91)), (by first | rfl | (simp; done) | (simp [*]; done)), H', ⟨by first | omega | exact Nat.le_refl _⟩, by repeat (first | exact Drawn0.refl _ | apply Drawn0.step)⟩
      · rw [if_neg c7] at H
        exact absurd H (by simp)
    · rw [if_neg c6] at H
      exact absurd H (by simp)
  case rest =>
    clear HC5
    try clear c1
    try clear p1
    try clear q1
    try clear hx1
    try clear c2
    try clear p2
    try clear c3
    try clear c6
    try clear c6b0
    try clear c7
    try clear c7b0
    try clear p8
    try clear q8
    try clear hx8
    try clear c9
    try clear c9b0
    try clear c9b1
    try clear p10
    try clear q10
    try clear hx10
    try clear p10
    try clear p8
    try clear q10
    try clear q8
    obtain ⟨kq, x19_4, rfl, HA, HJ4, ⟨mc4, rfl⟩⟩ := hcut
    cases kq with
    | zero => exact absurd HA.out (by simp [quarryref27_end.j0])
    | succ kj4 =>
      have H := HA.out
      clear HA
      simp only [quarryref27_end.j0] at H
      by_cases c11 : x19_4 = true
      · subst c11
        have H1 : ((quarryref27_bracket.f kj4 a0 l1 a3).bind fun t166 => (some t166)) = some r := by rw [if_pos rfl] at H; exact H
        clear H
        have H := H1
        clear H1
        replace H := Option.bind_eq_some_iff.mp H
        obtain ⟨t166, A120, H⟩ := H
        replace H : (some t166) = some r := H
        have A12 := Aside0.mk A120
        clear A120
        obtain rfl := Option.some.inj H
        go_wp2_with (first | ((with_reducible refine gate_callee (f := 44) rfl ?_); refine goesL_ (some 23) rfl rfl Tryd.func44 (by kernel_rfl) rfl #[.string a0, .slice A1 l1.length c1, .int .i64 a3] rfl (by (try simp only [List.map_toArray, List.map_cons, List.map_nil]); first | done | rfl | (simp only [List.length_drop, List.length_take]; rfl)) ?_; (with_reducible refine (quarryref27_bracket.calls kj4 a0 _ _ l1 a3 t166 _ ?side1 ?side2 A12.out).mono ?_); (case side1 => repeat (first | exact HR1.out | (with_reducible refine Kd.C_alloc ?_ _) | (with_reducible refine Kd.C_drewN ?_ _) | (with_reducible refine Kd.C_drew ?_))); (case side2 => exact HC1.out); rintro e w' ⟨rfl, ⟨nd, rfl⟩⟩; refine ⟨_, rfl, ?_⟩))
        go_ret
        exact ⟨by first | rfl | (simp; done) | (simp [*]; done), by repeat (first | exact Drawn0.refl _ | apply Drawn0.step)⟩
      · replace c11 := Bool.eq_false_iff.mpr c11
        subst c11
        have H1 : (if 0 ≤ a3 then (if a3 < (l1.length : Int) then (if (rd l1 a3) = 3 then (some (-1)) else (if (rd l1 a3) = 1 then (quarryref27_end.l0 kj4 a0 l1 l2 (wrap64 (a3 + 1))) else (quarryref27_end.l1 kj4 a0 l1 (wrap64 (a3 + 1))))) else (none)) else (none)) = some r := by rw [if_neg (show ¬ (false = true) by decide)] at H; exact H
        clear H
        have H := H1
        clear H1
        by_cases c13 : 0 ≤ a3
        · rw [if_pos c13] at H
          have c13b0 : decide (0 ≤ a3) = true := decide_eq_true c13
          clear c13
          by_cases c14 : a3 < (l1.length : Int)
          · rw [if_pos c14] at H
            have c14b0 : decide (a3 < (l1.length : Int)) = true := decide_eq_true c14
            clear c14
            by_cases c15 : (rd l1 a3) = 3
            · rw [if_pos c15] at H
              have c15b0 : ((rd l1 a3) == 3) = true := beq_iff_eq.mpr c15
              have c15b1 : ((rd l1 a3) != 3) = false := bne_eq_false_iff_eq.mpr c15
              clear c15
              obtain rfl := Option.some.inj H
              have p167 : 0 ≤ (a3 : Int) := of_decide_eq_true (by first | (with_reducible assumption) | assumption)
              have q167 : a3 < (l1.length : Int) := of_decide_eq_true (by first | (with_reducible assumption) | assumption)
              obtain ⟨ad167, e167, hx167_0⟩ := Kd.at_int HR1.out a3 p167 q167
              cases e167
              replace p167 := eq_true p167
              replace q167 := eq_true q167
              go_wp2
              go_ret
              exact ⟨by first | rfl | (simp; done) | (simp [*]; done), by repeat (first | exact Drawn0.refl _ | apply Drawn0.step)⟩
            · rw [if_neg c15] at H
              have c15b0 : ((rd l1 a3) == 3) = false := beq_eq_false_iff_ne.mpr c15
              have c15b1 : ((rd l1 a3) != 3) = true := bne_iff_ne.mpr c15
              by_cases c16 : (rd l1 a3) = 1
              · rw [if_pos c16] at H
                have c16b0 : ((rd l1 a3) == 1) = true := beq_iff_eq.mpr c16
                have c16b1 : ((rd l1 a3) != 1) = false := bne_eq_false_iff_eq.mpr c16
                clear c16
                have H' := Aside0.mk H
                clear H
                have p167 : 0 ≤ (a3 : Int) := of_decide_eq_true (by first | (with_reducible assumption) | assumption)
                have q167 : a3 < (l1.length : Int) := of_decide_eq_true (by first | (with_reducible assumption) | assumption)
                obtain ⟨ad167, e167, hx167_0⟩ := Kd.at_int HR1.out a3 p167 q167
                cases e167
                replace p167 := eq_true p167
                replace q167 := eq_true q167
                have p168 : 0 ≤ (a3 : Int) := of_decide_eq_true (by first | (with_reducible assumption) | assumption)
                have q168 : a3 < (l1.length : Int) := of_decide_eq_true (by first | (with_reducible assumption) | assumption)
                obtain ⟨ad168, e168, hx168_0⟩ := Kd.at_int HR1.out a3 p168 q168
                obtain rfl : ad167 = ad168 := (by injection e168)
                replace p168 := eq_true p168
                replace q168 := eq_true q168
                go_wp2
                go_loopg [9] kj4 (fun kq v9 w' => ∃ (x9_2 : Int), v9 = .int .i64 x9_2 ∧ Aside0 (quarryref27_end.l0 kq a0 l1 l2 x9_2 = some r) ∧ Aside0 (kq ≤ kj4) ∧ Drawn0 w w')
                case atStart => exact ⟨(wrap64 (a3 + 1)), (by first | rfl | (simp; done) | (simp [*]; done)), H', ⟨Nat.le_refl _⟩, by repeat (first | exact Drawn0.refl _ | apply Drawn0.step)⟩
                case round =>
                  clear H'
                  try clear c1
                  try clear p1
                  try clear q1
                  try clear hx1
                  try clear c2
                  try clear p2
                  try clear c3
                  try clear c4
                  try clear c6
                  try clear c6b0
                  try clear p6
                  try clear c7
                  try clear c7b0
                  try clear p8
                  try clear q8
                  try clear hx8
                  try clear c9
                  try clear c9b0
                  try clear c9b1
                  try clear p10
                  try clear q10
                  try clear hx10
                  try clear c11
                  try clear c13
                  try clear c13b0
                  try clear c14
                  try clear c14b0
                  try clear c15
                  try clear c15b0
                  try clear c15b1
                  try clear c16
                  try clear c16b0
                  try clear c16b1
                  try clear p16
                  try clear q16
                  try clear hx16
                  try clear hx167_0
                  try clear hx168_0
                  try clear p1
                  try clear p10
                  try clear p167
                  try clear p168
                  try clear p2
                  try clear p8
                  try clear q1
                  try clear q10
                  try clear q167
                  try clear q168
                  try clear q8
                  obtain ⟨x9_2, rfl, HA, HK2, ⟨m2, rfl⟩⟩ := hrel
                  cases gk with
                  | zero => exact absurd HA.out (by simp [quarryref27_end.l0])
                  | succ k2 =>
                    have H := HA.out
                    clear HA
                    simp only [quarryref27_end.l0] at H
                    have HC17 := Aside0.mk H
                    clear H
                    go_upto_region 7 with (fail)
                    go_cut [46] (fun v46 wc => ∃ (kq : Nat) (x46_16 : Bool), v46 = .bool x46_16 ∧ Aside0 (quarryref27_end.j2 kq a0 l1 l2 x9_2 x46_16 = some r) ∧ Aside0 (kq ≤ k2) ∧ Drawn0 w wc)
                    case first =>
                      have H := HC17.out
                      clear HC17
                      by_cases c18 : x9_2 < (a0.size : Int)
                      · rw [if_pos c18] at H
                        have c18b0 : decide (x9_2 < (a0.size : Int)) = true := decide_eq_true c18
                        clear c18
                        (first | rw [c18b0] | (simp only [i64_w, i32_w]; rw [c18b0]) | skip)
                        by_cases c19 : 0 ≤ x9_2
                        · rw [if_pos c19] at H
                          have c19b0 : decide (0 ≤ x9_2) = true := decide_eq_true c19
                          clear c19
                          by_cases c20 : x9_2 < (l1.length : Int)
                          · rw [if_pos c20] at H
                            have c20b0 : decide (x9_2 < (l1.length : Int)) = true := decide_eq_true c20
                            clear c20
                            have H' := Aside0.mk H
                            clear H
                            have p169 : 0 ≤ (x9_2 : Int) := of_decide_eq_true (by first | (with_reducible assumption) | assumption)
                            have q169 : x9_2 < (l1.length : Int) := of_decide_eq_true (by first | (with_reducible assumption) | assumption)
                            obtain ⟨ad169, e169, hx169_0⟩ := Kd.at_int HR1.out x9_2 p169 q169
                            obtain rfl : ad167 = ad169 := (by injection e169)
                            replace p169 := eq_true p169
                            replace q169 := eq_true q169
                            go_wp2
                            go_meet
                            case rel => exact ⟨_, (((rd l1 x9_2) == 0)), (by first | rfl | (simp; done) | (simp [*]; done)), H', ⟨by have := HJ4.out; have := HK2.out; first | omega | exact Nat.le_refl _⟩, by repeat (first | exact Drawn0.refl _ | apply Drawn0.step)⟩
                          · rw [if_neg c20] at H
                            exact absurd H (by simp)
                        · rw [if_neg c19] at H
                          exact absurd H (by simp)
                      · rw [if_neg c18] at H
                        have c18b0 : decide (x9_2 < (a0.size : Int)) = false := decide_eq_false c18
                        clear c18
                        (first | rw [c18b0] | (simp only [i64_w, i32_w]; rw [c18b0]) | skip)
                        have H' := Aside0.mk H
                        clear H
                        go_wp2
                        go_meet
                        case rel => exact ⟨_, (false), (by first | rfl | (simp; done) | (simp [*]; done)), H', ⟨by have := HJ4.out; have := HK2.out; first | omega | exact Nat.le_refl _⟩, by repeat (first | exact Drawn0.refl _ | apply Drawn0.step)⟩
                    case rest =>
                      clear HC17
                      try clear c1
                      try clear p1
                      try clear q1
                      try clear hx1
                      try clear c2
                      try clear p2
                      try clear c3
                      try clear c4
                      try clear c6
                      try clear c6b0
                      try clear p6
                      try clear c7
                      try clear c7b0
                      try clear p8
                      try clear q8
                      try clear hx8
                      try clear c9
                      try clear c9b0
                      try clear c9b1
                      try clear p10
                      try clear q10
                      try clear hx10
                      try clear c11
                      try clear c13
                      try clear c13b0
                      try clear c14
                      try clear c14b0
                      try clear c15
                      try clear c15b0
                      try clear c15b1
                      try clear c16
                      try clear c16b0
                      try clear c16b1
                      try clear p16
                      try clear q16
                      try clear hx16
                      try clear c18
                      try clear c18b0
                      try clear c19
                      try clear c19b0
                      try clear c20
                      try clear c20b0
                      try clear hx167_0
                      try clear hx168_0
                      try clear hx169_0
                      try clear p1
                      try clear p10
                      try clear p16
                      try clear p167
                      try clear p168
                      try clear p169
                      try clear p2
                      try clear p6
                      try clear p8
                      try clear q1
                      try clear q10
                      try clear q16
                      try clear q167
                      try clear q168
                      try clear q169
                      try clear q8
                      obtain ⟨kq, x46_16, rfl, HA, HJ16, ⟨mc16, rfl⟩⟩ := hcut
                      cases kq with
                      | zero => exact absurd HA.out (by simp [quarryref27_end.j2])
                      | succ kj16 =>
                        have H := HA.out
                        clear HA
                        simp only [quarryref27_end.j2] at H
                        by_cases c21 : x46_16 = true
                        · subst c21
                          have H1 : (if 0 ≤ x9_2 then (if x9_2 < (a0.size : Int) then (if (bt a0 x9_2) = 34 then (if x9_2 < (l2.length : Int) then (if rdOf false l2 x9_2 = true then (quarryref27_end.l0 kj16 a0 l1 l2 (wrap64 (x9_2 + 1))) else (some (wrap64 (x9_2 + 1)))) else (none)) else (quarryref27_end.l0 kj16 a0 l1 l2 (wrap64 (x9_2 + 1)))) else (none)) else (none)) = some r := by rw [if_pos rfl] at H; exact H
                          clear H
                          have H := H1
                          clear H1
                          by_cases c22 : 0 ≤ x9_2
                          · rw [if_pos c22] at H
                            have c22b0 : decide (0 ≤ x9_2) = true := decide_eq_true c22
                            clear c22
                            by_cases c23 : x9_2 < (a0.size : Int)
                            · rw [if_pos c23] at H
                              have c23b0 : decide (x9_2 < (a0.size : Int)) = true := decide_eq_true c23
                              clear c23
                              by_cases c25 : (bt a0 x9_2) = 34
                              · rw [if_pos c25] at H
                                have c25b0 : ((bt a0 x9_2) == 34) = true := beq_iff_eq.mpr c25
                                have c25b1 : ((bt a0 x9_2) != 34) = false := bne_eq_false_iff_eq.mpr c25
                                clear c25
                                by_cases c26 : x9_2 < (l2.length : Int)
                                · rw [if_pos c26] at H
                                  have c26b0 : decide (x9_2 < (l2.length : Int)) = true := decide_eq_true c26
                                  clear c26
                                  obtain ⟨bq27, hbq27⟩ : ∃ b_ : Bool, b_ = (rdOf false l2 x9_2) := ⟨_, rfl⟩
                                  replace H : (if bq27 = true then (quarryref27_end.l0 kj16 a0 l1 l2 (wrap64 (x9_2 + 1))) else (some (wrap64 (x9_2 + 1)))) = some r := by rw [← hbq27] at H; exact H
                                  have Nbq27 := Aside0.mk hbq27
                                  clear hbq27
                                  by_cases c28 : bq27 = true
                                  · subst c28
                                    have H1 : (quarryref27_end.l0 kj16 a0 l1 l2 (wrap64 (x9_2 + 1))) = some r := by rw [if_pos rfl] at H; exact H
                                    clear H
                                    have H := H1
                                    clear H1
                                    have H' := Aside0.mk H
                                    clear H
                                    have p24 : 0 ≤ (x9_2 : Int) := of_decide_eq_true (by first | (with_reducible assumption) | assumption)
                                    have q24 : x9_2 < (a0.size : Int) := of_decide_eq_true (by first | (with_reducible assumption) | assumption)
                                    have hx24 := bt_at a0 x9_2
                                    replace p24 := eq_true p24
                                    replace q24 := eq_true q24
                                    have p170 : 0 ≤ (x9_2 : Int) := of_decide_eq_true (by first | (with_reducible assumption) | assumption)
                                    have q170 : x9_2 < (l2.length : Int) := of_decide_eq_true (by first | (with_reducible assumption) | assumption)
                                    obtain ⟨ad170, e170, hx170_0⟩ := Kd.at_bool HR2.out x9_2 p170 q170
                                    (try rw [← Nbq27.out] at hx170_0)
                                    cases e170
                                    replace p170 := eq_true p170
                                    replace q170 := eq_true q170
                                    go_wp2
                                    go_roundg kj16
                                    case measure => have := HJ4.out; have := HK2.out; have := HJ16.out; omega
                                    case rel => exact ⟨(wrap64 (x9_2 + 1)), (by first | rfl | (simp; done) | (simp [*]; done)), H', ⟨by have := HJ4.out; have := HK2.out; have := HJ16.out; omega⟩, by repeat (first | exact Drawn0.refl _ | apply Drawn0.step)⟩
                                  · replace c28 := Bool.eq_false_iff.mpr c28
                                    subst c28
                                    have H1 : (some (wrap64 (x9_2 + 1))) = some r := by rw [if_neg (show ¬ (false = true) by decide)] at H; exact H
                                    clear H
                                    have H := H1
                                    clear H1
                                    obtain rfl := Option.some.inj H
                                    have p24 : 0 ≤ (x9_2 : Int) := of_decide_eq_true (by first | (with_reducible assumption) | assumption)
                                    have q24 : x9_2 < (a0.size : Int) := of_decide_eq_true (by first | (with_reducible assumption) | assumption)
                                    have hx24 := bt_at a0 x9_2
                                    replace p24 := eq_true p24
                                    replace q24 := eq_true q24
                                    have p170 : 0 ≤ (x9_2 : Int) := of_decide_eq_true (by first | (with_reducible assumption) | assumption)
                                    have q170 : x9_2 < (l2.length : Int) := of_decide_eq_true (by first | (with_reducible assumption) | assumption)
                                    obtain ⟨ad170, e170, hx170_0⟩ := Kd.at_bool HR2.out x9_2 p170 q170
                                    (try rw [← Nbq27.out] at hx170_0)
                                    cases e170
                                    replace p170 := eq_true p170
                                    replace q170 := eq_true q170
                                    go_wp2
                                    go_ret
                                    exact ⟨by first | rfl | (simp; done) | (simp [*]; done), by repeat (first | exact Drawn0.refl _ | apply Drawn0.step)⟩
                                · rw [if_neg c26] at H
                                  exact absurd H (by simp)
                              · rw [if_neg c25] at H
                                have c25b0 : ((bt a0 x9_2) == 34) = false := beq_eq_false_iff_ne.mpr c25
                                have c25b1 : ((bt a0 x9_2) != 34) = true := bne_iff_ne.mpr c25
                                have H' := Aside0.mk H
                                clear H
                                have p24 : 0 ≤ (x9_2 : Int) := of_decide_eq_true (by first | (with_reducible assumption) | assumption)
                                have q24 : x9_2 < (a0.size : Int) := of_decide_eq_true (by first | (with_reducible assumption) | assumption)
                                have hx24 := bt_at a0 x9_2
                                replace p24 := eq_true p24
                                replace q24 := eq_true q24
                                go_wp2
                                go_roundg kj16
                                case measure => have := HJ4.out; have := HK2.out; have := HJ16.out; omega
                                case rel => exact ⟨(wrap64 (x9_2 + 1)), (by first | rfl | (simp; done) | (simp [*]; done)), H', ⟨by have := HJ4.out; have := HK2.out; have := HJ16.out; omega⟩, by repeat (first | exact Drawn0.refl _ | apply Drawn0.step)⟩
                            · rw [if_neg c23] at H
                              exact absurd H (by simp)
                          · rw [if_neg c22] at H
                            exact absurd H (by simp)
                        · replace c21 := Bool.eq_false_iff.mpr c21
                          subst c21
                          have H1 : (some (-1)) = some r := by rw [if_neg (show ¬ (false = true) by decide)] at H; exact H
                          clear H
                          have H := H1
                          clear H1
                          obtain rfl := Option.some.inj H
                          go_wp2
                          go_ret
                          exact ⟨by first | rfl | (simp; done) | (simp [*]; done), by repeat (first | exact Drawn0.refl _ | apply Drawn0.step)⟩
              · rw [if_neg c16] at H
                have c16b0 : ((rd l1 a3) == 1) = false := beq_eq_false_iff_ne.mpr c16
                have c16b1 : ((rd l1 a3) != 1) = true := bne_iff_ne.mpr c16
                have H' := Aside0.mk H
                clear H
                have p167 : 0 ≤ (a3 : Int) := of_decide_eq_true (by first | (with_reducible assumption) | assumption)
                have q167 : a3 < (l1.length : Int) := of_decide_eq_true (by first | (with_reducible assumption) | assumption)
                obtain ⟨ad167, e167, hx167_0⟩ := Kd.at_int HR1.out a3 p167 q167
                cases e167
                replace p167 := eq_true p167
                replace q167 := eq_true q167
                have p168 : 0 ≤ (a3 : Int) := of_decide_eq_true (by first | (with_reducible assumption) | assumption)
                have q168 : a3 < (l1.length : Int) := of_decide_eq_true (by first | (with_reducible assumption) | assumption)
                obtain ⟨ad168, e168, hx168_0⟩ := Kd.at_int HR1.out a3 p168 q168
                obtain rfl : ad167 = ad168 := (by injection e168)
                replace p168 := eq_true p168
                replace q168 := eq_true q168
                go_wp2
                go_loopg [9] kj4 (fun kq v9 w' => ∃ (x9_2 : Int), v9 = .int .i64 x9_2 ∧ Aside0 (quarryref27_end.l1 kq a0 l1 x9_2 = some r) ∧ Aside0 (kq ≤ kj4) ∧ Drawn0 w w')
                case atStart => exact ⟨(wrap64 (a3 + 1)), (by first | rfl | (simp; done) | (simp [*]; done)), H', ⟨Nat.le_refl _⟩, by repeat (first | exact Drawn0.refl _ | apply Drawn0.step)⟩
                case round =>
                  clear H'
                  try clear c1
                  try clear p1
                  try clear q1
                  try clear hx1
                  try clear c2
                  try clear p2
                  try clear q2
                  try clear hx2
                  try clear c3
                  try clear c4
                  try clear c6
                  try clear c6b0
                  try clear p6
                  try clear c7
                  try clear c7b0
                  try clear p8
                  try clear q8
                  try clear hx8
                  try clear c9
                  try clear c9b0
                  try clear c9b1
                  try clear p10
                  try clear q10
                  try clear hx10
                  try clear c11
                  try clear c13
                  try clear c13b0
                  try clear c14
                  try clear c14b0
                  try clear c15
                  try clear c15b0
                  try clear c15b1
                  try clear c16
                  try clear c16b0
                  try clear c16b1
                  try clear p16
                  try clear q16
                  try clear hx16
                  try clear p17
                  try clear q17
                  try clear hx17
                  try clear c18
                  try clear c18b0
                  try clear c19
                  try clear c19b0
                  try clear c20
                  try clear c20b0
                  try clear c21
                  try clear c22
                  try clear c22b0
                  try clear c23
                  try clear c23b0
                  try clear p24
                  try clear q24
                  try clear hx24
                  try clear c25
                  try clear c25b0
                  try clear c25b1
                  try clear c26
                  try clear c26b0
                  try clear q27
                  try clear c28
                  try clear hx167_0
                  try clear hx168_0
                  try clear hx169_0
                  try clear hx170_0
                  try clear p1
                  try clear p10
                  try clear p16
                  try clear p167
                  try clear p168
                  try clear p169
                  try clear p170
                  try clear p2
                  try clear p24
                  try clear p6
                  try clear p8
                  try clear q1
                  try clear q10
                  try clear q16
                  try clear q167
                  try clear q168
                  try clear q169
                  try clear q170
                  try clear q24
                  try clear q8
                  obtain ⟨x9_2, rfl, HA, HK2, ⟨m2, rfl⟩⟩ := hrel
                  cases gk with
                  | zero => exact absurd HA.out (by simp [quarryref27_end.l1])
                  | succ k2 =>
                    have H := HA.out
                    clear HA
                    simp only [quarryref27_end.l1] at H
                    by_cases c29 : x9_2 < (a0.size : Int)
                    · rw [if_pos c29] at H
                      have c29b0 : decide (x9_2 < (a0.size : Int)) = true := decide_eq_true c29
                      clear c29
                      by_cases c30 : 0 ≤ x9_2
                      · rw [if_pos c30] at H
                        have c30b0 : decide (0 ≤ x9_2) = true := decide_eq_true c30
                        clear c30
                        by_cases c31 : x9_2 < (l1.length : Int)
                        · rw [if_pos c31] at H
                          have c31b0 : decide (x9_2 < (l1.length : Int)) = true := decide_eq_true c31
                          clear c31
                          by_cases c32 : (rd l1 x9_2) = 4
                          · rw [if_pos c32] at H
                            have c32b0 : ((rd l1 x9_2) == 4) = true := beq_iff_eq.mpr c32
                            have c32b1 : ((rd l1 x9_2) != 4) = false := bne_eq_false_iff_eq.mpr c32
                            clear c32
                            have H' := Aside0.mk H
                            clear H
                            have p171 : 0 ≤ (x9_2 : Int) := of_decide_eq_true (by first | (with_reducible assumption) | assumption)
                            have q171 : x9_2 < (l1.length : Int) := of_decide_eq_true (by first | (with_reducible assumption) | assumption)
                            obtain ⟨ad171, e171, hx171_0⟩ := Kd.at_int HR1.out x9_2 p171 q171
                            obtain rfl : ad167 = ad171 := (by injection e171)
                            replace p171 := eq_true p171
                            replace q171 := eq_true q171
                            go_wp2
                            go_roundg k2
                            case measure => have := HJ4.out; have := HK2.out; omega
                            case rel => exact ⟨(wrap64 (x9_2 + 1)), (by first | rfl | (simp; done) | (simp [*]; done)), H', ⟨by have := HJ4.out; have := HK2.out; omega⟩, by repeat (first | exact Drawn0.refl _ | apply Drawn0.step)⟩
                          · rw [if_neg c32] at H
                            have c32b0 : ((rd l1 x9_2) == 4) = false := beq_eq_false_iff_ne.mpr c32
                            have c32b1 : ((rd l1 x9_2) != 4) = true := bne_iff_ne.mpr c32
                            obtain rfl := Option.some.inj H
                            have p171 : 0 ≤ (x9_2 : Int) := of_decide_eq_true (by first | (with_reducible assumption) | assumption)
                            have q171 : x9_2 < (l1.length : Int) := of_decide_eq_true (by first | (with_reducible assumption) | assumption)
                            obtain ⟨ad171, e171, hx171_0⟩ := Kd.at_int HR1.out x9_2 p171 q171
                            obtain rfl : ad167 = ad171 := (by injection e171)
                            replace p171 := eq_true p171
                            replace q171 := eq_true q171
                            go_wp2
                            go_ret
                            exact ⟨by first | rfl | (simp; done) | (simp [*]; done), by repeat (first | exact Drawn0.refl _ | apply Drawn0.step)⟩
                        · rw [if_neg c31] at H
                          exact absurd H (by simp)
                      · rw [if_neg c30] at H
                        exact absurd H (by simp)
                    · rw [if_neg c29] at H
                      have c29b0 : decide (x9_2 < (a0.size : Int)) = false := decide_eq_false c29
                      clear c29
                      obtain rfl := Option.some.inj H
                      go_wp2
                      go_ret
                      exact ⟨by first | rfl | (simp; done) | (simp [*]; done), by repeat (first | exact Drawn0.refl _ | apply Drawn0.step)⟩
          · rw [if_neg c14] at H
            exact absurd H (by simp)
        · rw [if_neg c13] at H
          exact absurd H (by simp)

def quarryref27_Split.l0 : Nat → ByteArray → List (S36) → List Int → List Bool → Int → Option ((List (S36)) × Int)
  | 0, _, _, _, _, _ => none
  | k + 1, x0, x4, x5, x6, x7 => if x7 < (x0.size : Int) then (if 0 ≤ x7 then (if x7 < (x5.length : Int) then (if (rd x5 x7) = 2 then (quarryref27_Split.l0 k x0 x4 x5 x6 (wrap64 (x7 + 1))) else ((quarryref27_end.f k x0 x5 x6 x7).bind fun t179 => (if t179 < 0 then (some (x4, x7)) else (if x4.length < 8796093022208 then (quarryref27_Split.l0 k x0 (x4 ++ [(⟨x7, t179⟩ : S36)]) x5 x6 t179) else (none))))) else (none)) else (none)) else (some (x4, (-1)))
def quarryref27_Split.f (k : Nat) (a0 : ByteArray) : Option ((List (S36)) × Int) := (quarryref27_kinds.f k a0).bind fun bt172 => (quarryref27_Split.l0 k a0 ([] : List (S36)) bt172.1 bt172.2 0)
theorem quarryref27_Split.mono_l : ∀ k, (∀ y0 y1 y2 y3 y4, LeO (quarryref27_Split.l0 k y0 y1 y2 y3 y4) (quarryref27_Split.l0 (k + 1) y0 y1 y2 y3 y4))
  | 0 => fun _ _ _ _ _ r h => by simp [quarryref27_Split.l0] at h
  | k + 1 => by
    have ih0 := quarryref27_Split.mono_l k
    · intro y0 y1 y2 y3 y4
      unfold quarryref27_Split.l0
      repeat' first
      | (with_reducible exact ih0 _ _ _ _ _)
      | (with_reducible exact quarryref27_end.mono _ _ _ _ _)
      | (with_reducible exact quarryref27_kinds.mono _ _)
      | (with_reducible exact LeO.refl _)
      | (with_reducible exact LeO.none _)
      | (with_reducible refine LeO.ite ?_ ?_)
      | (with_reducible refine LeO.bind ?_ (fun _ => ?_))
      | exact ih0 _ _ _ _ _
      | exact quarryref27_end.mono _ _ _ _ _
      | exact quarryref27_kinds.mono _ _
      | exact LeO.none _
      | refine LeO.ite ?_ ?_
      | refine LeO.bind ?_ (fun _ => ?_)
theorem quarryref27_Split.mono : ∀ a0 k, LeO (quarryref27_Split.f k a0) (quarryref27_Split.f (k + 1) a0) := by
  intro a0 k
  have ih0 := quarryref27_Split.mono_l k
  unfold quarryref27_Split.f
  repeat' first
      | (with_reducible exact ih0 _ _ _ _ _)
      | (with_reducible exact quarryref27_end.mono _ _ _ _ _)
      | (with_reducible exact quarryref27_kinds.mono _ _)
      | (with_reducible exact LeO.refl _)
      | (with_reducible exact LeO.none _)
      | (with_reducible refine LeO.ite ?_ ?_)
      | (with_reducible refine LeO.bind ?_ (fun _ => ?_))
      | exact ih0 _ _ _ _ _
      | exact quarryref27_end.mono _ _ _ _ _
      | exact quarryref27_kinds.mono _ _
      | exact LeO.none _
      | refine LeO.ite ?_ ?_
      | refine LeO.bind ?_ (fun _ => ?_)
set_option maxHeartbeats 8000000 in
set_option maxRecDepth 100000 in
theorem quarryref27_Split.calls (k : Nat) (a0 : ByteArray) (r1 : List (S36)) (r2 : Int) (w : World) (h : quarryref27_Split.f k a0 = some (r1, r2)) :
    Calls Tryd.prog 16 #[.string a0] w fun e w' => ∃ v0_ : Value, e = .returned (.tuple #[v0_, .int .i64 r2]) ∧ Kd.R k36 36 w' w.heap.size (fun _ => True) v0_ r1 ∧ Below w.heap.size w w' := by
  have hu36 := Tryd.underlying36
  have HB := Aside0.mk (Below.refl w.heap.size w)
  have H : ((quarryref27_kinds.f k a0).bind fun bt172 => (quarryref27_Split.l0 k a0 ([] : List (S36)) bt172.1 bt172.2 0)) = some (r1, r2) := h
  clear h
  replace H := Option.bind_eq_some_iff.mp H
  obtain ⟨⟨t172, t173⟩, A20, H⟩ := H
  replace H : (quarryref27_Split.l0 k a0 ([] : List (S36)) t172 t173 0) = some (r1, r2) := H
  have A2 := Aside0.mk A20
  clear A20
  have H' := Aside0.mk H
  clear H
  go_enter Tryd.func16, Tryd.ntmps16
  go_wp2_with (first | ((with_reducible refine gate_callee (f := 29) rfl ?_); refine goesL_ (some 11) rfl rfl Tryd.func29 (by kernel_rfl) rfl #[.string a0] rfl (by (try simp only [List.map_toArray, List.map_cons, List.map_nil]); first | done | rfl | (simp only [List.length_drop, List.length_take]; rfl)) ?_; (with_reducible refine (quarryref27_kinds.calls k a0 t172 t173 _ A2.out).mono ?_); rintro e w3 ⟨v174, v176, rfl, ho0, ho1, hb⟩; refine ⟨_, rfl, ?_⟩; have n0_ := Aside0.mk (Kd.R_lower ho0 (below_size (by repeat (first | (with_reducible first | exact HB.out | apply below_alloc | apply pw_below_drewN | apply below_drew1) | exact HB.out)))); have n1_ := Aside0.mk (Kd.R_lower ho1 (below_size (by repeat (first | (with_reducible first | exact HB.out | apply below_alloc | apply pw_below_drewN | apply below_drew1) | exact HB.out)))); have n2_ := Aside0.mk (below_step (by repeat (first | (with_reducible first | exact HB.out | apply below_alloc | apply pw_below_drewN | apply below_drew1) | exact HB.out)) hb); clear HB; have HO175 := n0_; have HO177 := n1_; have HB := n2_; clear n0_ n1_ n2_; (try clear hb); (try clear hb2); (try clear hk); (try clear hi); (try clear ho0); (try clear ho1)))
  go_loopg [4, 7] k (fun kq v4 v7 w' => ∃ (x4_1 : List (S36)) (x7_1 : Int), v7 = .int .i64 x7_1 ∧ Aside0 (quarryref27_Split.l0 kq a0 x4_1 t172 t173 x7_1 = some (r1, r2)) ∧ Aside0 (kq ≤ k) ∧ Aside0 (Kd.R k36 36 w' w.heap.size (fun _ => True) v4 x4_1) ∧ Aside0 (Kd.R (Kd.int .i64) 3 w' w.heap.size (fun _ => True) v174 t172) ∧ Aside0 (Kd.R Kd.bool 4 w' w.heap.size (fun _ => True) v176 t173) ∧ Aside0 (Below w.heap.size w w'))
  case atStart => exact ⟨(([] : List (S36))), (0), (by first | rfl | (simp; done) | (simp [*]; done)), H', ⟨Nat.le_refl _⟩, ⟨by first | exact Kd.R_nil _ _ _ _ _ | exact Kd.N_nil _ _ _ _ _ | exact Kd.V_nil _ _ _ _ _ | exact Kd.Q_nil _ _ _ _ _ | exact Kd.S_nil _ _ _ _ _⟩, ⟨by (with_reducible repeat (first | apply Kd.R_alloc | apply Kd.R_drewN | apply Kd.R_drew)); exact HO175.out⟩, ⟨by (with_reducible repeat (first | apply Kd.R_alloc | apply Kd.R_drewN | apply Kd.R_drew)); exact HO177.out⟩, ⟨by repeat (first | (with_reducible first | exact HB.out | apply below_alloc | apply pw_below_drewN | apply below_drew1) | exact HB.out)⟩⟩
  case round =>
    clear H'
    try clear c1
    try clear c2
    try clear p2
    obtain ⟨x4_1, x7_1, rfl, HA, HK1, HO_4, HO_5, HO_6, HB⟩ := hrel
    cases gk with
    | zero => exact absurd HA.out (by simp [quarryref27_Split.l0])
    | succ k1 =>
      have H := HA.out
      clear HA
      simp only [quarryref27_Split.l0] at H
      by_cases c4 : x7_1 < (a0.size : Int)
      · rw [if_pos c4] at H
        have c4b0 : decide (x7_1 < (a0.size : Int)) = true := decide_eq_true c4
        clear c4
        by_cases c5 : 0 ≤ x7_1
        · rw [if_pos c5] at H
          have c5b0 : decide (0 ≤ x7_1) = true := decide_eq_true c5
          clear c5
          by_cases c6 : x7_1 < (t172.length : Int)
          · rw [if_pos c6] at H
            have c6b0 : decide (x7_1 < (t172.length : Int)) = true := decide_eq_true c6
            clear c6
            by_cases c7 : (rd t172 x7_1) = 2
            · rw [if_pos c7] at H
              have c7b0 : ((rd t172 x7_1) == 2) = true := beq_iff_eq.mpr c7
              have c7b1 : ((rd t172 x7_1) != 2) = false := bne_eq_false_iff_eq.mpr c7
              clear c7
              have H' := Aside0.mk H
              clear H
              obtain ⟨Ao8, co8, eo8⟩ := Kd.R_slice HO_5.out
              subst eo8
              have p178 : 0 ≤ (x7_1 : Int) := of_decide_eq_true (by first | (with_reducible assumption) | assumption)
              have q178 : x7_1 < (t172.length : Int) := of_decide_eq_true (by first | (with_reducible assumption) | assumption)
              obtain ⟨ad178, e178, hx178_0⟩ := Kd.at_int (Kd.R_reads' HO_5.out).2.2 x7_1 p178 q178
              cases e178
              replace p178 := eq_true p178
              replace q178 := eq_true q178
              go_wp2
              go_roundg k1
              case measure => have := HK1.out; omega
              case rel => exact ⟨(x4_1), (wrap64 (x7_1 + 1)), (by first | rfl | (simp; done) | (simp [*]; done)), H', ⟨by have := HK1.out; omega⟩, ⟨by (with_reducible repeat (first | apply Kd.R_alloc | apply Kd.R_drewN | apply Kd.R_drew)); exact HO_4.out⟩, ⟨by (with_reducible repeat (first | apply Kd.R_alloc | apply Kd.R_drewN | apply Kd.R_drew)); exact HO_5.out⟩, ⟨by (with_reducible repeat (first | apply Kd.R_alloc | apply Kd.R_drewN | apply Kd.R_drew)); exact HO_6.out⟩, ⟨by repeat (first | (with_reducible first | exact HB.out | apply below_alloc | apply pw_below_drewN | apply below_drew1) | exact HB.out)⟩⟩
            · rw [if_neg c7] at H
              have c7b0 : ((rd t172 x7_1) == 2) = false := beq_eq_false_iff_ne.mpr c7
              have c7b1 : ((rd t172 x7_1) != 2) = true := bne_iff_ne.mpr c7
              replace H := Option.bind_eq_some_iff.mp H
              obtain ⟨t179, A90, H⟩ := H
              replace H : (if t179 < 0 then (some (x4_1, x7_1)) else (if x4_1.length < 8796093022208 then (quarryref27_Split.l0 k1 a0 (x4_1 ++ [(⟨x7_1, t179⟩ : S36)]) t172 t173 t179) else (none))) = some (r1, r2) := H
              have A9 := Aside0.mk A90
              clear A90
              by_cases c10 : t179 < 0
              · rw [if_pos c10] at H
                have c10b0 : decide (t179 < 0) = true := decide_eq_true c10
                clear c10
                simp only [Option.some.injEq, Prod.mk.injEq] at H
                obtain ⟨rfl, rfl⟩ := H
                obtain ⟨Ao11, co11, eo11⟩ := Kd.R_slice HO_5.out
                subst eo11
                have p178 : 0 ≤ (x7_1 : Int) := of_decide_eq_true (by first | (with_reducible assumption) | assumption)
                have q178 : x7_1 < (t172.length : Int) := of_decide_eq_true (by first | (with_reducible assumption) | assumption)
                obtain ⟨ad178, e178, hx178_0⟩ := Kd.at_int (Kd.R_reads' HO_5.out).2.2 x7_1 p178 q178
                cases e178
                replace p178 := eq_true p178
                replace q178 := eq_true q178
                obtain ⟨Ao12, co12, eo12⟩ := Kd.R_slice HO_6.out
                subst eo12
                go_wp2_with (first | ((with_reducible refine gate_callee (f := 30) rfl ?_); refine goesL_ (some 29) rfl rfl Tryd.func30 (by kernel_rfl) rfl #[.string a0, .slice (some ad178) t172.length co11, .slice Ao12 t173.length co12, .int .i64 x7_1] rfl (by (try simp only [List.map_toArray, List.map_cons, List.map_nil]); first | done | rfl | (simp only [List.length_drop, List.length_take]; rfl)) ?_; (with_reducible refine (quarryref27_end.calls k1 a0 _ _ t172 _ _ t173 x7_1 t179 _ ?side1 ?side2 ?side3 ?side4 A9.out).mono ?_); (case side1 => repeat (first | exact (Kd.R_reads' HO_5.out).2.2 | (with_reducible refine Kd.C_alloc ?_ _) | (with_reducible refine Kd.C_drewN ?_ _) | (with_reducible refine Kd.C_drew ?_))); (case side2 => exact (Kd.R_reads' HO_5.out).2.1); (case side3 => repeat (first | exact (Kd.R_reads' HO_6.out).2.2 | (with_reducible refine Kd.C_alloc ?_ _) | (with_reducible refine Kd.C_drewN ?_ _) | (with_reducible refine Kd.C_drew ?_))); (case side4 => exact (Kd.R_reads' HO_6.out).2.1); rintro e w' ⟨rfl, ⟨nd, rfl⟩⟩; refine ⟨_, rfl, ?_⟩))
                go_ret2
                exact ⟨_, by first | rfl | (simp [errW_none, errW_some] <;> rfl) | (simp [*, errW_none, errW_some] <;> rfl), by (with_reducible repeat (first | apply Kd.R_alloc | apply Kd.R_drewN | apply Kd.R_drew)); exact HO_4.out, by repeat (first | (with_reducible first | exact HB.out | apply below_alloc | apply pw_below_drewN | apply below_drew1) | exact HB.out)⟩
              · rw [if_neg c10] at H
                have c10b0 : decide (t179 < 0) = false := decide_eq_false c10
                clear c10
                by_cases c13 : x4_1.length < 8796093022208
                · rw [if_pos c13] at H
                  have LMc13 := Aside0.mk c13
                  clear c13
                  obtain ⟨y180, hy180⟩ : ∃ y_ : List (S36), y_ = (x4_1 ++ [(⟨x7_1, t179⟩ : S36)]) := ⟨_, rfl⟩
                  replace H : (quarryref27_Split.l0 k1 a0 y180 t172 t173 t179) = some (r1, r2) := by first | (rw [hy180]; with_reducible exact H) | (have H2_ := (Option.bind_some _ _).symm.trans H; rw [hy180]; with_reducible exact H2_) | (have H2_ := (Option.bind_some _ _).symm.trans H; with_reducible exact H2_) | with_reducible exact H | (rw [hy180]; exact H) | exact H
                  have Ny180 := Aside0.mk hy180
                  clear hy180
                  have H' := Aside0.mk H
                  clear H
                  obtain ⟨Ao14, co14, eo14⟩ := Kd.R_slice HO_5.out
                  subst eo14
                  have p178 : 0 ≤ (x7_1 : Int) := of_decide_eq_true (by first | (with_reducible assumption) | assumption)
                  have q178 : x7_1 < (t172.length : Int) := of_decide_eq_true (by first | (with_reducible assumption) | assumption)
                  obtain ⟨ad178, e178, hx178_0⟩ := Kd.at_int (Kd.R_reads' HO_5.out).2.2 x7_1 p178 q178
                  cases e178
                  replace p178 := eq_true p178
                  replace q178 := eq_true q178
                  obtain ⟨Ao15, co15, eo15⟩ := Kd.R_slice HO_6.out
                  subst eo15
                  go_wp2_with (first | ((with_reducible refine gate_callee (f := 30) rfl ?_); refine goesL_ (some 29) rfl rfl Tryd.func30 (by kernel_rfl) rfl #[.string a0, .slice (some ad178) t172.length co14, .slice Ao15 t173.length co15, .int .i64 x7_1] rfl (by (try simp only [List.map_toArray, List.map_cons, List.map_nil]); first | done | rfl | (simp only [List.length_drop, List.length_take]; rfl)) ?_; (with_reducible refine (quarryref27_end.calls k1 a0 _ _ t172 _ _ t173 x7_1 t179 _ ?side1 ?side2 ?side3 ?side4 A9.out).mono ?_); (case side1 => repeat (first | exact (Kd.R_reads' HO_5.out).2.2 | (with_reducible refine Kd.C_alloc ?_ _) | (with_reducible refine Kd.C_drewN ?_ _) | (with_reducible refine Kd.C_drew ?_))); (case side2 => exact (Kd.R_reads' HO_5.out).2.1); (case side3 => repeat (first | exact (Kd.R_reads' HO_6.out).2.2 | (with_reducible refine Kd.C_alloc ?_ _) | (with_reducible refine Kd.C_drewN ?_ _) | (with_reducible refine Kd.C_drew ?_))); (case side4 => exact (Kd.R_reads' HO_6.out).2.1); rintro e w' ⟨rfl, ⟨nd, rfl⟩⟩; refine ⟨_, rfl, ?_⟩) | ((with_reducible refine gate_builtin (b := .append) (xs := #[.tmp 34, .tmp 38]) rfl ?_); at_builtin; refine Kd.R_append k36 (w0 := w) w.heap.size rfl (.tmp 34) (.tmp 38) 24 36 (.agg #[(.int .i64 0), (.int .i64 0)]) 16 rfl Tryd.underlying24 info36 rfl (by decide) (by omega) u4 x4_1 (⟨x7_1, t179⟩ : S36) [.int .i64 x7_1, .int .i64 t179] (fun _ => True) (fun _ => False) rfl rfl ?aP (fun _ hk => hk.elim) ?aF ?aO ?aB ?aS ?aL ?_; (case aP => exact k36_mkM _ _ _ (⟨x7_1, t179⟩ : S36)); (case aB => exact (by repeat (first | (with_reducible first | exact HB.out | apply below_alloc | apply pw_below_drewN | apply below_drew1) | exact HB.out))); (case aF => exact (fun _ _ => trivial)); (case aO => exact (by (with_reducible repeat (first | apply Kd.R_alloc | apply Kd.R_drewN | apply Kd.R_drew)); exact HO_4.out)); (case aS => exact (below_size (by repeat (first | (with_reducible first | exact HB.out | apply below_alloc | apply pw_below_drewN | apply below_drew1) | exact HB.out)))); (case aL => have := LMc13.out; omega); intro v181 w16 ho hb hg hat; rw [← Ny180.out] at ho; have n0_ := Aside0.mk (Kd.R_over' (by (with_reducible repeat (first | apply Kd.R_alloc | apply Kd.R_drewN | apply Kd.R_drew)); exact HO_5.out) (Kd.R_typed (by (with_reducible repeat (first | apply Kd.R_alloc | apply Kd.R_drewN | apply Kd.R_drew)); exact HO_4.out)) (by decide) hg); have n1_ := Aside0.mk (Kd.R_over' (by (with_reducible repeat (first | apply Kd.R_alloc | apply Kd.R_drewN | apply Kd.R_drew)); exact HO_6.out) (Kd.R_typed (by (with_reducible repeat (first | apply Kd.R_alloc | apply Kd.R_drewN | apply Kd.R_drew)); exact HO_4.out)) (by decide) hg); have n2_ := Aside0.mk (hb); have n3_ := Aside0.mk (ho); clear HO_5; clear HO_6; clear HB; clear HO_4; have HO_5 := n0_; have HO_6 := n1_; have HB := n2_; have HO182 := n3_; clear n0_ n1_ n2_ n3_; clear ho hb hg hat))
                  go_roundg k1
                  case measure => have := HK1.out; omega
                  case rel => exact ⟨(y180), (t179), (by first | rfl | (simp; done) | (simp [*]; done)), H', ⟨by have := HK1.out; omega⟩, ⟨by (with_reducible repeat (first | apply Kd.R_alloc | apply Kd.R_drewN | apply Kd.R_drew)); exact HO182.out⟩, ⟨by (with_reducible repeat (first | apply Kd.R_alloc | apply Kd.R_drewN | apply Kd.R_drew)); exact HO_5.out⟩, ⟨by (with_reducible repeat (first | apply Kd.R_alloc | apply Kd.R_drewN | apply Kd.R_drew)); exact HO_6.out⟩, ⟨by repeat (first | (with_reducible first | exact HB.out | apply below_alloc | apply pw_below_drewN | apply below_drew1) | exact HB.out)⟩⟩
                · rw [if_neg c13] at H
                  exact absurd H (by simp)
          · rw [if_neg c6] at H
            exact absurd H (by simp)
        · rw [if_neg c5] at H
          exact absurd H (by simp)
      · rw [if_neg c4] at H
        have c4b0 : decide (x7_1 < (a0.size : Int)) = false := decide_eq_false c4
        clear c4
        simp only [Option.some.injEq, Prod.mk.injEq] at H
        obtain ⟨rfl, rfl⟩ := H
        go_wp2
        go_ret2
        exact ⟨_, by first | rfl | (simp [errW_none, errW_some] <;> rfl) | (simp [*, errW_none, errW_some] <;> rfl), by (with_reducible repeat (first | apply Kd.R_alloc | apply Kd.R_drewN | apply Kd.R_drew)); exact HO_4.out, by repeat (first | (with_reducible first | exact HB.out | apply below_alloc | apply pw_below_drewN | apply below_drew1) | exact HB.out)⟩

end Go.Proofs.YtfihkkjkifkemaaDoor.PS
end
-- PSx10
section
namespace Go.Proofs.YtfihkkjkifkemaaDoor.PS
attribute [local go_sem] Go.Proofs.YtfihkkjkifkemaaDoorM.fieldBits0 Go.Proofs.YtfihkkjkifkemaaDoorM.fieldBits1
open Go.Proofs.YtfihkkjkifkemaaDoorM (TabOk)
open Go.RowKit Go.Proofs.YtfihkkjkifkemaaDoorW.PrintWords Go.Proofs.YtfihkkjkifkemaaDoorW.PrintLast Go.Proofs.YtfihkkjkifkemaaDoorW.PrintMore
attribute [local go_sem] max2_int min2_int max_two min_two max_three min_three max_four min_four   -- for this text's walks alone
set_option linter.unusedVariables false
set_option linter.unusedSimpArgs false

attribute [local go_sem high] eqA36
def quarryref00_SameSpans.l0 : Nat → List (S36) → List (S36) → Int → Option (Bool)
  | 0, _, _, _ => none
  | k + 1, x0, x1, x5 => if x5 < (x0.length : Int) then (if 0 ≤ x5 then (if x5 < (x1.length : Int) then (if (!(((rd_T36 x0 x5).f0) == ((rd_T36 x1 x5).f0)) || (!(((rd_T36 x0 x5).f1) == ((rd_T36 x1 x5).f1)))) = true then (some false) else (quarryref00_SameSpans.l0 k x0 x1 (wrap64 (x5 + 1)))) else (none)) else (none)) else (some true)
def quarryref00_SameSpans.f (k : Nat) (l0 : List (S36)) (l1 : List (S36)) : Option (Bool) := if (l0.length : Int) = (l1.length : Int) then (quarryref00_SameSpans.l0 k l0 l1 0) else (some false)
theorem quarryref00_SameSpans.mono_l : ∀ k, (∀ y0 y1 y2, LeO (quarryref00_SameSpans.l0 k y0 y1 y2) (quarryref00_SameSpans.l0 (k + 1) y0 y1 y2))
  | 0 => fun _ _ _ r h => by simp [quarryref00_SameSpans.l0] at h
  | k + 1 => by
    have ih0 := quarryref00_SameSpans.mono_l k
    · intro y0 y1 y2
      unfold quarryref00_SameSpans.l0
      repeat' first
      | (with_reducible exact ih0 _ _ _)
      | (with_reducible exact LeO.refl _)
      | (with_reducible exact LeO.none _)
      | (with_reducible refine LeO.ite ?_ ?_)
      | (with_reducible refine LeO.bind ?_ (fun _ => ?_))
      | exact ih0 _ _ _
      | exact LeO.none _
      | refine LeO.ite ?_ ?_
      | refine LeO.bind ?_ (fun _ => ?_)
theorem quarryref00_SameSpans.mono : ∀ a0 a1 k, LeO (quarryref00_SameSpans.f k a0 a1) (quarryref00_SameSpans.f (k + 1) a0 a1) := by
  intro a0 a1 k
  have ih0 := quarryref00_SameSpans.mono_l k
  unfold quarryref00_SameSpans.f
  repeat' first
      | (with_reducible exact ih0 _ _ _)
      | (with_reducible exact LeO.refl _)
      | (with_reducible exact LeO.none _)
      | (with_reducible refine LeO.ite ?_ ?_)
      | (with_reducible refine LeO.bind ?_ (fun _ => ?_))
      | exact ih0 _ _ _
      | exact LeO.none _
      | refine LeO.ite ?_ ?_
      | refine LeO.bind ?_ (fun _ => ?_)
set_option maxHeartbeats 8000000 in
set_option maxRecDepth 100000 in
theorem quarryref00_SameSpans.calls (k : Nat) (A0 : Option Addr) (c0 : Nat) (l0 : List (S36)) (A1 : Option Addr) (c1 : Nat) (l1 : List (S36)) (r : Bool) (w : World) (hr0 : Kd.C k36 w A0 l0.length l0) (hc0 : l0.length ≤ c0) (hr1 : Kd.C k36 w A1 l1.length l1) (hc1 : l1.length ≤ c1) (h : quarryref00_SameSpans.f k l0 l1 = some r) :
    Calls Tryd.prog 17 #[.slice A0 l0.length c0, .slice A1 l1.length c1] w fun e w' => e = .returned (.bool r) ∧ Drawn0 w w' := by
  have hu36 := Tryd.underlying36
  have HR0 := Aside0.mk hr0
  have HC0 := Aside0.mk hc0
  clear hr0 hc0
  have HR1 := Aside0.mk hr1
  have HC1 := Aside0.mk hc1
  clear hr1 hc1
  have H : (if (l0.length : Int) = (l1.length : Int) then (quarryref00_SameSpans.l0 k l0 l1 0) else (some false)) = some r := h
  clear h
  by_cases c3 : (l0.length : Int) = (l1.length : Int)
  · rw [if_pos c3] at H
    have c3b0 : ((l0.length : Int) == (l1.length : Int)) = true := beq_iff_eq.mpr c3
    have c3b1 : ((l0.length : Int) != (l1.length : Int)) = false := bne_eq_false_iff_eq.mpr c3
    have c3b2 : (l0.length == l1.length) = true := by first | simpa using c3 | (simp at c3 ⊢; omega)
    clear c3
    have H' := Aside0.mk H
    clear H
    go_enter Tryd.func17, Tryd.ntmps17
    go_wp2
    repeat (go_quiet (fail); try go_wp2)
    go_loopg [5] k (fun kq v5 w' => ∃ (x5_1 : Int), v5 = .int .i64 x5_1 ∧ Aside0 (quarryref00_SameSpans.l0 kq l0 l1 x5_1 = some r) ∧ Aside0 (kq ≤ k) ∧ Drawn0 w w')
    case atStart => exact ⟨(0), (by first | rfl | (simp; done) | (simp [*]; done)), H', ⟨Nat.le_refl _⟩, by repeat (first | exact Drawn0.refl _ | apply Drawn0.step)⟩
    case round =>
      clear H'
      try clear c1
      try clear p2
      try clear c3
      try clear c3b0
      try clear c3b1
      try clear c3b2
      obtain ⟨x5_1, rfl, HA, HK1, ⟨m1, rfl⟩⟩ := hrel
      cases gk with
      | zero => exact absurd HA.out (by simp [quarryref00_SameSpans.l0])
      | succ k1 =>
        have H := HA.out
        clear HA
        simp only [quarryref00_SameSpans.l0] at H
        by_cases c4 : x5_1 < (l0.length : Int)
        · rw [if_pos c4] at H
          have c4b0 : decide (x5_1 < (l0.length : Int)) = true := decide_eq_true c4
          clear c4
          by_cases c5 : 0 ≤ x5_1
          · rw [if_pos c5] at H
            have c5b0 : decide (0 ≤ x5_1) = true := decide_eq_true c5
            clear c5
            by_cases c6 : x5_1 < (l1.length : Int)
            · rw [if_pos c6] at H
              have c6b0 : decide (x5_1 < (l1.length : Int)) = true := decide_eq_true c6
              clear c6
              by_cases c7 : (!(((rd_T36 l0 x5_1).f0) == ((rd_T36 l1 x5_1).f0)) || (!(((rd_T36 l0 x5_1).f1) == ((rd_T36 l1 x5_1).f1)))) = true
              · rw [if_pos c7] at H
                have c7b0 : (!(((rd_T36 l0 x5_1).f0) == ((rd_T36 l1 x5_1).f0)) || (!(((rd_T36 l0 x5_1).f1) == ((rd_T36 l1 x5_1).f1)))) = true := c7
                clear c7
                obtain rfl := Option.some.inj H
                have p183 : 0 ≤ (x5_1 : Int) := of_decide_eq_true (by first | (with_reducible assumption) | assumption)
                have q183 : x5_1 < (l0.length : Int) := of_decide_eq_true (by first | (with_reducible assumption) | assumption)
                obtain ⟨ad183, e183, hx183_0, hx183_1⟩ := at_T36 HR0.out x5_1 p183 q183
                cases e183
                replace p183 := eq_true p183
                replace q183 := eq_true q183
                have p184 : 0 ≤ (x5_1 : Int) := of_decide_eq_true (by first | (with_reducible assumption) | assumption)
                have q184 : x5_1 < (l1.length : Int) := of_decide_eq_true (by first | (with_reducible assumption) | assumption)
                obtain ⟨ad184, e184, hx184_0, hx184_1⟩ := at_T36 HR1.out x5_1 p184 q184
                cases e184
                replace p184 := eq_true p184
                replace q184 := eq_true q184
                go_wp2
                repeat (go_quiet (fail); try go_wp2)
                go_ret
                exact ⟨by first | rfl | (simp; done) | (simp [*]; done), by repeat (first | exact Drawn0.refl _ | apply Drawn0.step)⟩
              · rw [if_neg c7] at H
                have c7b0 : (!(((rd_T36 l0 x5_1).f0) == ((rd_T36 l1 x5_1).f0)) || (!(((rd_T36 l0 x5_1).f1) == ((rd_T36 l1 x5_1).f1)))) = false := by simpa using c7
                clear c7
                have H' := Aside0.mk H
                clear H
                have p183 : 0 ≤ (x5_1 : Int) := of_decide_eq_true (by first | (with_reducible assumption) | assumption)
                have q183 : x5_1 < (l0.length : Int) := of_decide_eq_true (by first | (with_reducible assumption) | assumption)
                obtain ⟨ad183, e183, hx183_0, hx183_1⟩ := at_T36 HR0.out x5_1 p183 q183
                cases e183
                replace p183 := eq_true p183
                replace q183 := eq_true q183
                have p184 : 0 ≤ (x5_1 : Int) := of_decide_eq_true (by first | (with_reducible assumption) | assumption)
                have q184 : x5_1 < (l1.length : Int) := of_decide_eq_true (by first | (with_reducible assumption) | assumption)
                obtain ⟨ad184, e184, hx184_0, hx184_1⟩ := at_T36 HR1.out x5_1 p184 q184
                cases e184
                replace p184 := eq_true p184
                replace q184 := eq_true q184
                go_wp2
                repeat (go_quiet (fail); try go_wp2)
                go_roundg k1
                case measure => have := HK1.out; omega
                case rel => exact ⟨(wrap64 (x5_1 + 1)), (by first | rfl | (simp; done) | (simp [*]; done)), H', ⟨by have := HK1.out; omega⟩, by repeat (first | exact Drawn0.refl _ | apply Drawn0.step)⟩
            · rw [if_neg c6] at H
              exact absurd H (by simp)
          · rw [if_neg c5] at H
            exact absurd H (by simp)
        · rw [if_neg c4] at H
          have c4b0 : decide (x5_1 < (l0.length : Int)) = false := decide_eq_false c4
          clear c4
          obtain rfl := Option.some.inj H
          go_wp2
          repeat (go_quiet (fail); try go_wp2)
          go_ret
          exact ⟨by first | rfl | (simp; done) | (simp [*]; done), by repeat (first | exact Drawn0.refl _ | apply Drawn0.step)⟩
  · rw [if_neg c3] at H
    have c3b0 : ((l0.length : Int) == (l1.length : Int)) = false := beq_eq_false_iff_ne.mpr c3
    have c3b1 : ((l0.length : Int) != (l1.length : Int)) = true := bne_iff_ne.mpr c3
    have c3b2 : (l0.length == l1.length) = false := by first | simpa using c3 | (simp at c3 ⊢; omega)
    obtain rfl := Option.some.inj H
    go_enter Tryd.func17, Tryd.ntmps17
    go_wp2
    repeat (go_quiet (fail); try go_wp2)
    go_ret
    exact ⟨by first | rfl | (simp; done) | (simp [*]; done), by repeat (first | exact Drawn0.refl _ | apply Drawn0.step)⟩

def quarrylaw27_awake.f  : Option (Bool) := (stream_Split.f (⟨#[123, 125, 32, 55]⟩ : ByteArray)).bind fun bt185 => (if bt185.2 = (-1) then (if (bt185.1.length : Int) = 2 then (if 1 < (bt185.1.length : Int) then (some (((rd_T36 bt185.1 1).f0) == 3 && (((rd_T36 bt185.1 1).f1) == 4))) else (none)) else (some false)) else (some false))
set_option maxHeartbeats 8000000 in
set_option maxRecDepth 100000 in
theorem quarrylaw27_awake.calls  (r : Bool) (w : World) (hT : TabOk w) (h : quarrylaw27_awake.f  = some r) :
    Calls Tryd.prog 18 #[] w fun e w' => e = .returned (.bool r) ∧ Below w.heap.size w w' := by
  have TK_ := Aside0.mk hT
  clear hT
  have hu36 := Tryd.underlying36
  have HB := Aside0.mk (Below.refl w.heap.size w)
  have H : ((stream_Split.f (⟨#[123, 125, 32, 55]⟩ : ByteArray)).bind fun bt185 => (if bt185.2 = (-1) then (if (bt185.1.length : Int) = 2 then (if 1 < (bt185.1.length : Int) then (some (((rd_T36 bt185.1 1).f0) == 3 && (((rd_T36 bt185.1 1).f1) == 4))) else (none)) else (some false)) else (some false))) = some r := h
  clear h
  replace H := Option.bind_eq_some_iff.mp H
  obtain ⟨⟨t185, t186⟩, A10, H⟩ := H
  replace H : (if t186 = (-1) then (if (t185.length : Int) = 2 then (if 1 < (t185.length : Int) then (some (((rd_T36 t185 1).f0) == 3 && (((rd_T36 t185 1).f1) == 4))) else (none)) else (some false)) else (some false)) = some r := H
  have A1 := Aside0.mk A10
  clear A10
  by_cases c2 : t186 = (-1)
  · rw [if_pos c2] at H
    have c2b0 : (t186 == (-1)) = true := beq_iff_eq.mpr c2
    have c2b1 : (t186 != (-1)) = false := bne_eq_false_iff_eq.mpr c2
    clear c2
    by_cases c3 : (t185.length : Int) = 2
    · rw [if_pos c3] at H
      have c3b0 : ((t185.length : Int) == 2) = true := beq_iff_eq.mpr c3
      have c3b1 : ((t185.length : Int) != 2) = false := bne_eq_false_iff_eq.mpr c3
      clear c3
      by_cases c4 : 1 < (t185.length : Int)
      · rw [if_pos c4] at H
        have c4b0 : decide (1 < (t185.length : Int)) = true := decide_eq_true c4
        have c4b1 : decide (1 < t185.length) = true := decide_eq_true (by omega)
        clear c4
        obtain rfl := Option.some.inj H
        go_enter Tryd.func18, Tryd.ntmps18
        go_wp2_with (first | ((with_reducible refine gate_callee (f := 10) rfl ?_); refine goesL_ (some 4) rfl rfl Tryd.func10 (by kernel_rfl) rfl #[.string (⟨#[123, 125, 32, 55]⟩ : ByteArray)] rfl (by (try simp only [List.map_toArray, List.map_cons, List.map_nil]); first | done | rfl | (simp only [List.length_drop, List.length_take]; rfl)) ?_; (with_reducible refine (stream_Split.calls (⟨#[123, 125, 32, 55]⟩ : ByteArray) t185 t186 _ ?tabk A1.out).mono ?_); (case tabk => exact TK_.out.step (by repeat (first | (with_reducible first | exact HB.out | apply below_alloc | apply pw_below_drewN | apply below_drew1) | exact HB.out))); rintro e w5 ⟨v187, rfl, ho0, hb⟩; refine ⟨_, rfl, ?_⟩; have n0_ := Aside0.mk (Kd.R_lower ho0 (below_size (by repeat (first | (with_reducible first | exact HB.out | apply below_alloc | apply pw_below_drewN | apply below_drew1) | exact HB.out)))); have n1_ := Aside0.mk (below_step (by repeat (first | (with_reducible first | exact HB.out | apply below_alloc | apply pw_below_drewN | apply below_drew1) | exact HB.out)) hb); clear HB; have HO188 := n0_; have HB := n1_; clear n0_ n1_; (try clear hb); (try clear hb2); (try clear hk); (try clear hi); (try clear ho0); obtain ⟨Ao6, co6, eo6⟩ := Kd.R_slice HO188.out; subst eo6; have p189 : 0 ≤ (1 : Int) := (by omega); have q189 : 1 < (t185.length : Int) := of_decide_eq_true (by first | (with_reducible assumption) | assumption); obtain ⟨ad189, e189, hx189_0, hx189_1⟩ := at_T36 (Kd.R_reads' HO188.out).2.2 1 p189 q189; cases e189; (try simp only [show (1 : Int).toNat = 1 from rfl, Nat.reduceMul, Nat.reduceEqDiff, Go.Addr.add, ↓reduceIte] at hx189_0); (try simp only [show (1 : Int).toNat = 1 from rfl, Nat.reduceMul, Nat.reduceEqDiff, Go.Addr.add, ↓reduceIte] at hx189_1); have qi189 : (1 < t185.length) = True := eq_true (by omega); (try rw [show ((1 : Int)).toNat = 1 from rfl] at hx189_0); (try rw [show 1 * 2 = 2 from rfl] at hx189_0); (try rw [show ((1 : Int)).toNat = 1 from rfl] at hx189_1); (try rw [show 1 * 2 = 2 from rfl] at hx189_1); replace p189 := eq_true p189; replace q189 := eq_true q189))
        go_ret
        exact ⟨by first | rfl | (simp [errW_none, errW_some] <;> rfl) | (simp [*, errW_none, errW_some] <;> rfl), by repeat (first | (with_reducible first | exact HB.out | apply below_alloc | apply pw_below_drewN | apply below_drew1) | exact HB.out)⟩
      · rw [if_neg c4] at H
        exact absurd H (by simp)
    · rw [if_neg c3] at H
      have c3b0 : ((t185.length : Int) == 2) = false := beq_eq_false_iff_ne.mpr c3
      have c3b1 : ((t185.length : Int) != 2) = true := bne_iff_ne.mpr c3
      obtain rfl := Option.some.inj H
      go_enter Tryd.func18, Tryd.ntmps18
      go_wp2_with (first | ((with_reducible refine gate_callee (f := 10) rfl ?_); refine goesL_ (some 4) rfl rfl Tryd.func10 (by kernel_rfl) rfl #[.string (⟨#[123, 125, 32, 55]⟩ : ByteArray)] rfl (by (try simp only [List.map_toArray, List.map_cons, List.map_nil]); first | done | rfl | (simp only [List.length_drop, List.length_take]; rfl)) ?_; (with_reducible refine (stream_Split.calls (⟨#[123, 125, 32, 55]⟩ : ByteArray) t185 t186 _ ?tabk A1.out).mono ?_); (case tabk => exact TK_.out.step (by repeat (first | (with_reducible first | exact HB.out | apply below_alloc | apply pw_below_drewN | apply below_drew1) | exact HB.out))); rintro e w7 ⟨v187, rfl, ho0, hb⟩; refine ⟨_, rfl, ?_⟩; have n0_ := Aside0.mk (Kd.R_lower ho0 (below_size (by repeat (first | (with_reducible first | exact HB.out | apply below_alloc | apply pw_below_drewN | apply below_drew1) | exact HB.out)))); have n1_ := Aside0.mk (below_step (by repeat (first | (with_reducible first | exact HB.out | apply below_alloc | apply pw_below_drewN | apply below_drew1) | exact HB.out)) hb); clear HB; have HO188 := n0_; have HB := n1_; clear n0_ n1_; (try clear hb); (try clear hb2); (try clear hk); (try clear hi); (try clear ho0); obtain ⟨Ao8, co8, eo8⟩ := Kd.R_slice HO188.out; subst eo8))
      go_ret
      exact ⟨by first | rfl | (simp [errW_none, errW_some] <;> rfl) | (simp [*, errW_none, errW_some] <;> rfl), by repeat (first | (with_reducible first | exact HB.out | apply below_alloc | apply pw_below_drewN | apply below_drew1) | exact HB.out)⟩
  · rw [if_neg c2] at H
    have c2b0 : (t186 == (-1)) = false := beq_eq_false_iff_ne.mpr c2
    have c2b1 : (t186 != (-1)) = true := bne_iff_ne.mpr c2
    obtain rfl := Option.some.inj H
    go_enter Tryd.func18, Tryd.ntmps18
    go_wp2_with (first | ((with_reducible refine gate_callee (f := 10) rfl ?_); refine goesL_ (some 4) rfl rfl Tryd.func10 (by kernel_rfl) rfl #[.string (⟨#[123, 125, 32, 55]⟩ : ByteArray)] rfl (by (try simp only [List.map_toArray, List.map_cons, List.map_nil]); first | done | rfl | (simp only [List.length_drop, List.length_take]; rfl)) ?_; (with_reducible refine (stream_Split.calls (⟨#[123, 125, 32, 55]⟩ : ByteArray) t185 t186 _ ?tabk A1.out).mono ?_); (case tabk => exact TK_.out.step (by repeat (first | (with_reducible first | exact HB.out | apply below_alloc | apply pw_below_drewN | apply below_drew1) | exact HB.out))); rintro e w9 ⟨v187, rfl, ho0, hb⟩; refine ⟨_, rfl, ?_⟩; have n0_ := Aside0.mk (Kd.R_lower ho0 (below_size (by repeat (first | (with_reducible first | exact HB.out | apply below_alloc | apply pw_below_drewN | apply below_drew1) | exact HB.out)))); have n1_ := Aside0.mk (below_step (by repeat (first | (with_reducible first | exact HB.out | apply below_alloc | apply pw_below_drewN | apply below_drew1) | exact HB.out)) hb); clear HB; have HO188 := n0_; have HB := n1_; clear n0_ n1_; (try clear hb); (try clear hb2); (try clear hk); (try clear hi); (try clear ho0)))
    go_ret
    exact ⟨by first | rfl | (simp [errW_none, errW_some] <;> rfl) | (simp [*, errW_none, errW_some] <;> rfl), by repeat (first | (with_reducible first | exact HB.out | apply below_alloc | apply pw_below_drewN | apply below_drew1) | exact HB.out)⟩

def quarrylaw27_StreamSplits.f (k : Nat) (a0 : ByteArray) : Option (Bool) := (stream_Split.f a0).bind fun bt190 => ((quarryref27_Split.f k a0).bind fun bt194 => (if bt190.2 = bt194.2 then ((quarryref00_SameSpans.f k bt190.1 bt194.1).bind fun t198 => (if t198 = true then ((quarrylaw27_awake.f).bind fun t199 => (some t199)) else (some false))) else (some false)))
theorem quarrylaw27_StreamSplits.mono : ∀ a0 k, LeO (quarrylaw27_StreamSplits.f k a0) (quarrylaw27_StreamSplits.f (k + 1) a0) := by
  intro a0 k
  unfold quarrylaw27_StreamSplits.f
  repeat' first
      | (with_reducible exact quarryref00_SameSpans.mono _ _ _)
      | (with_reducible exact quarryref27_Split.mono _ _)
      | (with_reducible exact LeO.refl _)
      | (with_reducible exact LeO.none _)
      | (with_reducible refine LeO.ite ?_ ?_)
      | (with_reducible refine LeO.bind ?_ (fun _ => ?_))
      | exact quarryref00_SameSpans.mono _ _ _
      | exact quarryref27_Split.mono _ _
      | exact LeO.none _
      | refine LeO.ite ?_ ?_
      | refine LeO.bind ?_ (fun _ => ?_)
set_option maxHeartbeats 8000000 in
set_option maxRecDepth 100000 in
theorem quarrylaw27_StreamSplits.calls (k : Nat) (a0 : ByteArray) (r : Bool) (w : World) (hT : TabOk w) (h : quarrylaw27_StreamSplits.f k a0 = some r) :
    Calls Tryd.prog 4 #[.string a0] w fun e w' => e = .returned (.bool r) ∧ Below w.heap.size w w' := by
  have TK_ := Aside0.mk hT
  clear hT
  have HB := Aside0.mk (Below.refl w.heap.size w)
  have H : ((stream_Split.f a0).bind fun bt190 => ((quarryref27_Split.f k a0).bind fun bt194 => (if bt190.2 = bt194.2 then ((quarryref00_SameSpans.f k bt190.1 bt194.1).bind fun t198 => (if t198 = true then ((quarrylaw27_awake.f).bind fun t199 => (some t199)) else (some false))) else (some false)))) = some r := h
  clear h
  replace H := Option.bind_eq_some_iff.mp H
  obtain ⟨⟨t190, t191⟩, A20, H⟩ := H
  replace H : ((quarryref27_Split.f k a0).bind fun bt194 => (if t191 = bt194.2 then ((quarryref00_SameSpans.f k t190 bt194.1).bind fun t198 => (if t198 = true then ((quarrylaw27_awake.f).bind fun t199 => (some t199)) else (some false))) else (some false))) = some r := H
  have A2 := Aside0.mk A20
  clear A20
  replace H := Option.bind_eq_some_iff.mp H
  obtain ⟨⟨t194, t195⟩, A30, H⟩ := H
  replace H : (if t191 = t195 then ((quarryref00_SameSpans.f k t190 t194).bind fun t198 => (if t198 = true then ((quarrylaw27_awake.f).bind fun t199 => (some t199)) else (some false))) else (some false)) = some r := H
  have A3 := Aside0.mk A30
  clear A30
  by_cases c4 : t191 = t195
  · rw [if_pos c4] at H
    have c4b0 : (t191 == t195) = true := beq_iff_eq.mpr c4
    have c4b1 : (t191 != t195) = false := bne_eq_false_iff_eq.mpr c4
    clear c4
    replace H := Option.bind_eq_some_iff.mp H
    obtain ⟨t198, A50, H⟩ := H
    replace H : (if t198 = true then ((quarrylaw27_awake.f).bind fun t199 => (some t199)) else (some false)) = some r := H
    have A5 := Aside0.mk A50
    clear A50
    by_cases c6 : t198 = true
    · subst c6
      have H1 : ((quarrylaw27_awake.f).bind fun t199 => (some t199)) = some r := by rw [if_pos rfl] at H; exact H
      clear H
      have H := H1
      clear H1
      replace H := Option.bind_eq_some_iff.mp H
      obtain ⟨t199, A70, H⟩ := H
      replace H : (some t199) = some r := H
      have A7 := Aside0.mk A70
      clear A70
      obtain rfl := Option.some.inj H
      go_enter Tryd.func4, Tryd.ntmps4
      go_wp2_with (first | ((with_reducible refine gate_callee (f := 10) rfl ?_); refine goesL_ (some 9) rfl rfl Tryd.func10 (by kernel_rfl) rfl #[.string a0] rfl (by (try simp only [List.map_toArray, List.map_cons, List.map_nil]); first | done | rfl | (simp only [List.length_drop, List.length_take]; rfl)) ?_; (with_reducible refine (stream_Split.calls a0 t190 t191 _ ?tabk A2.out).mono ?_); (case tabk => exact TK_.out.step (by repeat (first | (with_reducible first | exact HB.out | apply below_alloc | apply pw_below_drewN | apply below_drew1) | exact HB.out))); rintro e w8 ⟨v192, rfl, ho0, hb⟩; refine ⟨_, rfl, ?_⟩; have n0_ := Aside0.mk (Kd.R_lower ho0 (below_size (by repeat (first | (with_reducible first | exact HB.out | apply below_alloc | apply pw_below_drewN | apply below_drew1) | exact HB.out)))); have n1_ := Aside0.mk (below_step (by repeat (first | (with_reducible first | exact HB.out | apply below_alloc | apply pw_below_drewN | apply below_drew1) | exact HB.out)) hb); clear HB; have HO193 := n0_; have HB := n1_; clear n0_ n1_; (try clear hb); (try clear hb2); (try clear hk); (try clear hi); (try clear ho0)) | ((with_reducible refine gate_callee (f := 16) rfl ?_); refine goesL_ (some 14) rfl rfl Tryd.func16 (by kernel_rfl) rfl #[.string a0] rfl (by (try simp only [List.map_toArray, List.map_cons, List.map_nil]); first | done | rfl | (simp only [List.length_drop, List.length_take]; rfl)) ?_; (with_reducible refine (quarryref27_Split.calls k a0 t194 t195 _ A3.out).mono ?_); rintro e w9 ⟨v196, rfl, ho0, hb⟩; refine ⟨_, rfl, ?_⟩; have n0_ := Aside0.mk (Kd.R_elder' (by (with_reducible repeat (first | apply Kd.R_alloc | apply Kd.R_drewN | apply Kd.R_drew)); exact HO193.out) (Kd.R_base ho0) hb); have n1_ := Aside0.mk (Kd.R_lower (Kd.R_new' ho0 (Kd.R_lt (by (with_reducible repeat (first | apply Kd.R_alloc | apply Kd.R_drewN | apply Kd.R_drew)); exact HO193.out))) (below_size (by repeat (first | (with_reducible first | exact HB.out | apply below_alloc | apply pw_below_drewN | apply below_drew1) | exact HB.out)))); have n2_ := Aside0.mk (below_step (by repeat (first | (with_reducible first | exact HB.out | apply below_alloc | apply pw_below_drewN | apply below_drew1) | exact HB.out)) hb); clear HO193; clear HB; have HO193 := n0_; have HO197 := n1_; have HB := n2_; clear n0_ n1_ n2_; (try clear hb); (try clear hb2); (try clear hk); (try clear hi); (try clear ho0); obtain ⟨Ao10, co10, eo10⟩ := Kd.R_slice HO193.out; subst eo10; obtain ⟨Ao11, co11, eo11⟩ := Kd.R_slice HO197.out; subst eo11) | (go_at_call 17; (with_reducible refine (quarryref00_SameSpans.calls k _ _ t190 _ _ t194 true _ ?side1 ?side2 ?side3 ?side4 A5.out).mono ?_); (case side1 => repeat (first | exact (Kd.R_reads' HO193.out).2.2 | (with_reducible refine Kd.C_alloc ?_ _) | (with_reducible refine Kd.C_drewN ?_ _) | (with_reducible refine Kd.C_drew ?_))); (case side2 => exact (Kd.R_reads' HO193.out).2.1); (case side3 => repeat (first | exact (Kd.R_reads' HO197.out).2.2 | (with_reducible refine Kd.C_alloc ?_ _) | (with_reducible refine Kd.C_drewN ?_ _) | (with_reducible refine Kd.C_drew ?_))); (case side4 => exact (Kd.R_reads' HO197.out).2.1); rintro e w' ⟨rfl, ⟨nd, rfl⟩⟩) | (go_at_call 18; (with_reducible refine (quarrylaw27_awake.calls  t199 _ ?tabk A7.out).mono ?_); (case tabk => exact TK_.out.step (by repeat (first | (with_reducible first | exact HB.out | apply below_alloc | apply pw_below_drewN | apply below_drew1) | exact HB.out))); rintro e w12 ⟨rfl, hb⟩; have n0_ := Aside0.mk (Kd.R_below (by (with_reducible repeat (first | apply Kd.R_alloc | apply Kd.R_drewN | apply Kd.R_drew)); exact HO193.out) hb); have n1_ := Aside0.mk (Kd.R_below (by (with_reducible repeat (first | apply Kd.R_alloc | apply Kd.R_drewN | apply Kd.R_drew)); exact HO197.out) hb); have n2_ := Aside0.mk (below_step (by repeat (first | (with_reducible first | exact HB.out | apply below_alloc | apply pw_below_drewN | apply below_drew1) | exact HB.out)) hb); clear HO193; clear HO197; clear HB; have HO193 := n0_; have HO197 := n1_; have HB := n2_; clear n0_ n1_ n2_; (try clear hb); (try clear hb2); (try clear hk); (try clear hi)))
      go_ret
      exact ⟨by first | rfl | (simp [errW_none, errW_some] <;> rfl) | (simp [*, errW_none, errW_some] <;> rfl), by repeat (first | (with_reducible first | exact HB.out | apply below_alloc | apply pw_below_drewN | apply below_drew1) | exact HB.out)⟩
    · replace c6 := Bool.eq_false_iff.mpr c6
      subst c6
      have H1 : (some false) = some r := by rw [if_neg (show ¬ (false = true) by decide)] at H; exact H
      clear H
      have H := H1
      clear H1
      obtain rfl := Option.some.inj H
      go_enter Tryd.func4, Tryd.ntmps4
      go_wp2_with (first | ((with_reducible refine gate_callee (f := 10) rfl ?_); refine goesL_ (some 9) rfl rfl Tryd.func10 (by kernel_rfl) rfl #[.string a0] rfl (by (try simp only [List.map_toArray, List.map_cons, List.map_nil]); first | done | rfl | (simp only [List.length_drop, List.length_take]; rfl)) ?_; (with_reducible refine (stream_Split.calls a0 t190 t191 _ ?tabk A2.out).mono ?_); (case tabk => exact TK_.out.step (by repeat (first | (with_reducible first | exact HB.out | apply below_alloc | apply pw_below_drewN | apply below_drew1) | exact HB.out))); rintro e w13 ⟨v192, rfl, ho0, hb⟩; refine ⟨_, rfl, ?_⟩; have n0_ := Aside0.mk (Kd.R_lower ho0 (below_size (by repeat (first | (with_reducible first | exact HB.out | apply below_alloc | apply pw_below_drewN | apply below_drew1) | exact HB.out)))); have n1_ := Aside0.mk (below_step (by repeat (first | (with_reducible first | exact HB.out | apply below_alloc | apply pw_below_drewN | apply below_drew1) | exact HB.out)) hb); clear HB; have HO193 := n0_; have HB := n1_; clear n0_ n1_; (try clear hb); (try clear hb2); (try clear hk); (try clear hi); (try clear ho0)) | ((with_reducible refine gate_callee (f := 16) rfl ?_); refine goesL_ (some 14) rfl rfl Tryd.func16 (by kernel_rfl) rfl #[.string a0] rfl (by (try simp only [List.map_toArray, List.map_cons, List.map_nil]); first | done | rfl | (simp only [List.length_drop, List.length_take]; rfl)) ?_; (with_reducible refine (quarryref27_Split.calls k a0 t194 t195 _ A3.out).mono ?_); rintro e w14 ⟨v196, rfl, ho0, hb⟩; refine ⟨_, rfl, ?_⟩; have n0_ := Aside0.mk (Kd.R_elder' (by (with_reducible repeat (first | apply Kd.R_alloc | apply Kd.R_drewN | apply Kd.R_drew)); exact HO193.out) (Kd.R_base ho0) hb); have n1_ := Aside0.mk (Kd.R_lower (Kd.R_new' ho0 (Kd.R_lt (by (with_reducible repeat (first | apply Kd.R_alloc | apply Kd.R_drewN | apply Kd.R_drew)); exact HO193.out))) (below_size (by repeat (first | (with_reducible first | exact HB.out | apply below_alloc | apply pw_below_drewN | apply below_drew1) | exact HB.out)))); have n2_ := Aside0.mk (below_step (by repeat (first | (with_reducible first | exact HB.out | apply below_alloc | apply pw_below_drewN | apply below_drew1) | exact HB.out)) hb); clear HO193; clear HB; have HO193 := n0_; have HO197 := n1_; have HB := n2_; clear n0_ n1_ n2_; (try clear hb); (try clear hb2); (try clear hk); (try clear hi); (try clear ho0); obtain ⟨Ao15, co15, eo15⟩ := Kd.R_slice HO193.out; subst eo15; obtain ⟨Ao16, co16, eo16⟩ := Kd.R_slice HO197.out; subst eo16) | (go_at_call 17; (with_reducible refine (quarryref00_SameSpans.calls k _ _ t190 _ _ t194 false _ ?side1 ?side2 ?side3 ?side4 A5.out).mono ?_); (case side1 => repeat (first | exact (Kd.R_reads' HO193.out).2.2 | (with_reducible refine Kd.C_alloc ?_ _) | (with_reducible refine Kd.C_drewN ?_ _) | (with_reducible refine Kd.C_drew ?_))); (case side2 => exact (Kd.R_reads' HO193.out).2.1); (case side3 => repeat (first | exact (Kd.R_reads' HO197.out).2.2 | (with_reducible refine Kd.C_alloc ?_ _) | (with_reducible refine Kd.C_drewN ?_ _) | (with_reducible refine Kd.C_drew ?_))); (case side4 => exact (Kd.R_reads' HO197.out).2.1); rintro e w' ⟨rfl, ⟨nd, rfl⟩⟩))
      go_ret
      exact ⟨by first | rfl | (simp [errW_none, errW_some] <;> rfl) | (simp [*, errW_none, errW_some] <;> rfl), by repeat (first | (with_reducible first | exact HB.out | apply below_alloc | apply pw_below_drewN | apply below_drew1) | exact HB.out)⟩
  · rw [if_neg c4] at H
    have c4b0 : (t191 == t195) = false := beq_eq_false_iff_ne.mpr c4
    have c4b1 : (t191 != t195) = true := bne_iff_ne.mpr c4
    obtain rfl := Option.some.inj H
    go_enter Tryd.func4, Tryd.ntmps4
    go_wp2_with (first | ((with_reducible refine gate_callee (f := 10) rfl ?_); refine goesL_ (some 9) rfl rfl Tryd.func10 (by kernel_rfl) rfl #[.string a0] rfl (by (try simp only [List.map_toArray, List.map_cons, List.map_nil]); first | done | rfl | (simp only [List.length_drop, List.length_take]; rfl)) ?_; (with_reducible refine (stream_Split.calls a0 t190 t191 _ ?tabk A2.out).mono ?_); (case tabk => exact TK_.out.step (by repeat (first | (with_reducible first | exact HB.out | apply below_alloc | apply pw_below_drewN | apply below_drew1) | exact HB.out))); rintro e w17 ⟨v192, rfl, ho0, hb⟩; refine ⟨_, rfl, ?_⟩; have n0_ := Aside0.mk (Kd.R_lower ho0 (below_size (by repeat (first | (with_reducible first | exact HB.out | apply below_alloc | apply pw_below_drewN | apply below_drew1) | exact HB.out)))); have n1_ := Aside0.mk (below_step (by repeat (first | (with_reducible first | exact HB.out | apply below_alloc | apply pw_below_drewN | apply below_drew1) | exact HB.out)) hb); clear HB; have HO193 := n0_; have HB := n1_; clear n0_ n1_; (try clear hb); (try clear hb2); (try clear hk); (try clear hi); (try clear ho0)) | ((with_reducible refine gate_callee (f := 16) rfl ?_); refine goesL_ (some 14) rfl rfl Tryd.func16 (by kernel_rfl) rfl #[.string a0] rfl (by (try simp only [List.map_toArray, List.map_cons, List.map_nil]); first | done | rfl | (simp only [List.length_drop, List.length_take]; rfl)) ?_; (with_reducible refine (quarryref27_Split.calls k a0 t194 t195 _ A3.out).mono ?_); rintro e w18 ⟨v196, rfl, ho0, hb⟩; refine ⟨_, rfl, ?_⟩; have n0_ := Aside0.mk (Kd.R_elder' (by (with_reducible repeat (first | apply Kd.R_alloc | apply Kd.R_drewN | apply Kd.R_drew)); exact HO193.out) (Kd.R_base ho0) hb); have n1_ := Aside0.mk (Kd.R_lower (Kd.R_new' ho0 (Kd.R_lt (by (with_reducible repeat (first | apply Kd.R_alloc | apply Kd.R_drewN | apply Kd.R_drew)); exact HO193.out))) (below_size (by repeat (first | (with_reducible first | exact HB.out | apply below_alloc | apply pw_below_drewN | apply below_drew1) | exact HB.out)))); have n2_ := Aside0.mk (below_step (by repeat (first | (with_reducible first | exact HB.out | apply below_alloc | apply pw_below_drewN | apply below_drew1) | exact HB.out)) hb); clear HO193; clear HB; have HO193 := n0_; have HO197 := n1_; have HB := n2_; clear n0_ n1_ n2_; (try clear hb); (try clear hb2); (try clear hk); (try clear hi); (try clear ho0)))
    go_ret
    exact ⟨by first | rfl | (simp [errW_none, errW_some] <;> rfl) | (simp [*, errW_none, errW_some] <;> rfl), by repeat (first | (with_reducible first | exact HB.out | apply below_alloc | apply pw_below_drewN | apply below_drew1) | exact HB.out)⟩

/-- THE ONE PURE STATEMENT of quarrylaw27_StreamSplits: yours. -/
def quarrylaw27_StreamSplits.Pure : Prop := ∀ (a0 : ByteArray), a0.size ≤ 140737488351232 → ∃ k, quarrylaw27_StreamSplits.f k a0 = some true
theorem quarrylaw27_StreamSplits.walk (P : quarrylaw27_StreamSplits.Pure) (a0 : ByteArray) (w : World) (hT : TabOk w) (w0 : a0.size ≤ 140737488351232) :
    Calls Tryd.prog 4 #[.string a0] w fun e w' => e = .returned (.bool true) ∧ Below w.heap.size w w' := by
  obtain ⟨k, h⟩ := P a0 w0
  refine (quarrylaw27_StreamSplits.calls k a0 true w hT h).mono ?_
  rintro e w' ⟨rfl, hd⟩
  exact ⟨rfl, hd⟩

def quarrylaw27_blank.f (a0 : Int) : Option (Bool) := if a0 = 32 then (some true) else (if a0 = 9 then (some true) else (if a0 = 10 then (some true) else (some (a0 == 13))))
set_option maxHeartbeats 8000000 in
set_option maxRecDepth 100000 in
theorem quarrylaw27_blank.calls (a0 : Int) (r : Bool) (w : World) (h : quarrylaw27_blank.f a0 = some r) :
    Calls Tryd.prog 20 #[.int .u8 a0] w fun e w' => e = .returned (.bool r) ∧ Drawn0 w w' := by
  have H : (if a0 = 32 then (some true) else (if a0 = 9 then (some true) else (if a0 = 10 then (some true) else (some (a0 == 13))))) = some r := h
  clear h
  by_cases c2 : a0 = 32
  · rw [if_pos c2] at H
    have c2b0 : (a0 == 32) = true := beq_iff_eq.mpr c2
    have c2b1 : (a0 != 32) = false := bne_eq_false_iff_eq.mpr c2
    clear c2
    obtain rfl := Option.some.inj H
    go_enter Tryd.func20, Tryd.ntmps20
    go_wp2
    go_ret
    exact ⟨by first | rfl | (simp; done) | (simp [*]; done), by repeat (first | exact Drawn0.refl _ | apply Drawn0.step)⟩
  · rw [if_neg c2] at H
    have c2b0 : (a0 == 32) = false := beq_eq_false_iff_ne.mpr c2
    have c2b1 : (a0 != 32) = true := bne_iff_ne.mpr c2
    by_cases c3 : a0 = 9
    · rw [if_pos c3] at H
      have c3b0 : (a0 == 9) = true := beq_iff_eq.mpr c3
      have c3b1 : (a0 != 9) = false := bne_eq_false_iff_eq.mpr c3
      clear c3
      obtain rfl := Option.some.inj H
      go_enter Tryd.func20, Tryd.ntmps20
      go_wp2
      go_ret
      exact ⟨by first | rfl | (simp; done) | (simp [*]; done), by repeat (first | exact Drawn0.refl _ | apply Drawn0.step)⟩
    · rw [if_neg c3] at H
      have c3b0 : (a0 == 9) = false := beq_eq_false_iff_ne.mpr c3
      have c3b1 : (a0 != 9) = true := bne_iff_ne.mpr c3
      by_cases c4 : a0 = 10
      · rw [if_pos c4] at H
        have c4b0 : (a0 == 10) = true := beq_iff_eq.mpr c4
        have c4b1 : (a0 != 10) = false := bne_eq_false_iff_eq.mpr c4
        clear c4
        obtain rfl := Option.some.inj H
        go_enter Tryd.func20, Tryd.ntmps20
        go_wp2
        go_ret
        exact ⟨by first | rfl | (simp; done) | (simp [*]; done), by repeat (first | exact Drawn0.refl _ | apply Drawn0.step)⟩
      · rw [if_neg c4] at H
        have c4b0 : (a0 == 10) = false := beq_eq_false_iff_ne.mpr c4
        have c4b1 : (a0 != 10) = true := bne_iff_ne.mpr c4
        obtain rfl := Option.some.inj H
        go_enter Tryd.func20, Tryd.ntmps20
        go_wp2
        go_ret
        exact ⟨by first | rfl | (simp; done) | (simp [*]; done), by repeat (first | exact Drawn0.refl _ | apply Drawn0.step)⟩

end Go.Proofs.YtfihkkjkifkemaaDoor.PS
end
-- PureStreamSplits
section
namespace Go.Proofs.YtfihkkjkifkemaaDoor.Pure
open Go Go.RowKit Go.Proofs.YtfihkkjkifkemaaDoor.PS Go.Proofs.YtfihkkjkifkemaaDoorW.PrintWords Go.Proofs.YtfihkkjkifkemaaDoorW.PrintLast Go.Proofs.YtfihkkjkifkemaaDoorQ
set_option linter.unusedVariables false
set_option linter.unusedSimpArgs false
theorem set_step {α : Type} (n : Nat) (f d : Nat → α) {i : Nat} (h : i < n) : ((List.range n).map fun j => if j < i then f j else d j).set i (f i) = (List.range n).map fun j => if j < i + 1 then f j else d j := by
  apply List.ext_getElem?
  intro j
  rw [List.getElem?_set, List.getElem?_map, List.getElem?_map, List.length_map, List.length_range]
  by_cases hj : j < n
  · rw [List.getElem?_range hj]
    by_cases e : i = j
    · subst e
      rw [if_pos rfl, if_pos hj]
      simp
    · rw [if_neg e]
      by_cases g : j < i
      · simp [g, show j < i + 1 by omega]
      · simp [g, show ¬ j < i + 1 by omega]
  · rw [List.getElem?_eq_none (by rw [List.length_range]; omega), if_neg (by omega)]
    simp
theorem set_done {α : Type} (n : Nat) (f d : Nat → α) : ((List.range n).map fun j => if j < n then f j else d j) = (List.range n).map f := List.map_congr_left fun j hj => if_pos (List.mem_range.1 hj)
theorem w64s (i n : Nat) (h : i < n) (hn : n ≤ 281474976702464) : wrap64 ((i : Int) + 1) = ((i + 1 : Nat) : Int) := by unfold wrap64; omega
theorem marks7_loop (s : ByteArray) (hn : s.size ≤ 140737488351232) :
    ∀ (d i k : Nat), i + d = s.size → d < k → quarryref07_marks.l0 k s ((List.range s.size).map fun j => if j < i then mkq s j else false) (esc s false i) (i : Int) = some ((List.range s.size).map (mkq s)) := by
  intro d
  induction d with
  | zero =>
    intro i k hi hk
    obtain ⟨k, rfl⟩ : ∃ m, k = m + 1 := ⟨k - 1, by omega⟩
    unfold quarryref07_marks.l0
    rw [if_neg (by omega), show i = s.size by omega, set_done]
  | succ d ih =>
    intro i k hi hk
    obtain ⟨k, rfl⟩ : ∃ m, k = m + 1 := ⟨k - 1, by omega⟩
    have h2 := ih (i + 1) k (by omega) (by omega)
    rw [← set_step s.size (mkq s) (fun _ => false) (show i < s.size by omega)] at h2
    have hl : ((List.range s.size).map fun j => if j < i then mkq s j else false).length = s.size := by simp
    unfold quarryref07_marks.l0
    rw [if_pos (by omega), if_pos (by omega), w64s i s.size (by omega) (by omega)]
    have he : ∀ b : Bool, decide (bt s (i : Int) = 34) = b → mkq s i = (b && !esc s false i) := fun b hb => by unfold mkq; rw [hb]
    have hx : esc s false (i + 1) = (decide (bt s (i : Int) = 92) && !esc s false i) := rfl
    by_cases h34 : bt s (i : Int) = 34
    · rw [he true (decide_eq_true h34), Bool.true_and, hx, decide_eq_false (by omega), Bool.false_and] at h2
      rw [if_pos h34, if_pos (by rw [hl]; omega), Option.bind_some, Int.toNat_natCast, if_neg (by omega)]
      exact h2
    · rw [he false (decide_eq_false h34), Bool.false_and, hx] at h2
      rw [if_neg h34, if_pos (by rw [hl]; omega), Option.bind_some, Int.toNat_natCast]
      by_cases h92 : bt s (i : Int) = 92
      · rw [decide_eq_true h92, Bool.true_and] at h2
        rw [if_pos h92]
        exact h2
      · rw [decide_eq_false h92, Bool.false_and] at h2
        rw [if_neg h92]
        exact h2
theorem marks7_eq (s : ByteArray) (hn : s.size ≤ 140737488351232) (k : Nat) (hk : s.size < k) : quarryref07_marks.f k s = some ((List.range s.size).map (mkq s)) := by
  have h := marks7_loop s hn s.size 0 k (by omega) hk
  unfold quarryref07_marks.f
  rw [if_pos (by omega), Int.toNat_natCast, if_pos (by omega)]
  have e : ((List.range s.size).map fun j => if j < 0 then mkq s j else false) = List.replicate s.size false := by
    apply List.ext_getElem? 
    intro j
    rw [List.getElem?_map, List.getElem?_replicate]
    by_cases hj : j < s.size
    · rw [List.getElem?_range hj, if_pos hj]
      simp
    · rw [List.getElem?_eq_none (by rw [List.length_range]; omega), if_neg hj]
      rfl
  rw [e] at h
  exact h
theorem inside7_loop (s : ByteArray) (hn : s.size ≤ 140737488351232) :
    ∀ (d i k : Nat), i + d = s.size → d < k → quarryref07_inside.l0 k ((List.range s.size).map fun j => if j < i then insS s j else mkq s j) (par (mkq s) i) (i : Int) = some ((List.range s.size).map (insS s)) := by
  intro d
  induction d with
  | zero =>
    intro i k hi hk
    obtain ⟨k, rfl⟩ : ∃ m, k = m + 1 := ⟨k - 1, by omega⟩
    unfold quarryref07_inside.l0
    rw [if_neg (by simp; omega), show i = s.size by omega, set_done]
  | succ d ih =>
    intro i k hi hk
    obtain ⟨k, rfl⟩ : ∃ m, k = m + 1 := ⟨k - 1, by omega⟩
    have h2 := ih (i + 1) k (by omega) (by omega)
    rw [← set_step s.size (insS s) (mkq s) (show i < s.size by omega)] at h2
    have hr : rdOf false ((List.range s.size).map fun j => if j < i then insS s j else mkq s j) (i : Int) = mkq s i := by
      unfold rdOf
      rw [Int.toNat_natCast, List.getD_eq_getElem?_getD, List.getElem?_map, List.getElem?_range (by omega)]
      simp
    have hi1 : insS s i = (par (mkq s) i ^^ mkq s i) := rfl
    have hp : par (mkq s) (i + 1) = (par (mkq s) i ^^ mkq s i) := rfl
    unfold quarryref07_inside.l0
    rw [if_pos (by simp; omega), if_pos (by omega), w64s i s.size (by omega) (by omega), hr, Int.toNat_natCast]
    rw [hi1, hp] at h2
    cases h : mkq s i
    · rw [h, Bool.xor_false] at h2
      rw [if_neg (by decide)]
      exact h2
    · rw [h, Bool.xor_true] at h2
      rw [if_pos rfl]
      exact h2
theorem inside7_eq (s : ByteArray) (hn : s.size ≤ 140737488351232) (k : Nat) (hk : s.size < k) : quarryref07_inside.f k s = some ((List.range s.size).map (insS s)) := by
  have h := inside7_loop s hn s.size 0 k (by omega) hk
  unfold quarryref07_inside.f
  rw [marks7_eq s hn k hk, Option.bind_some]
  exact h
def kind27 (s : ByteArray) (i : Nat) : Int := if mkq s i && insS s i then 1 else if mkq s i || insS s i then 0 else if blx (bt s (i : Int)).toNat then 2 else if sgx (bt s (i : Int)).toNat then 3 else 4
theorem rdB (s : ByteArray) (q : Nat → Bool) (i : Nat) (h : i < s.size) : rdOf false ((List.range s.size).map q) (i : Int) = q i := by
  unfold rdOf
  rw [Int.toNat_natCast, List.getD_eq_getElem?_getD, List.getElem?_map, List.getElem?_range h]
  rfl
theorem rdK (s : ByteArray) (i : Nat) (h : i < s.size) : rd ((List.range s.size).map (kind27 s)) (i : Int) = kind27 s i := by
  unfold rd
  rw [Int.toNat_natCast, List.getD_eq_getElem?_getD, List.getElem?_map, List.getElem?_range h]
  rfl
theorem w27 {i n : Nat} (h : i ≤ n) (hn : n ≤ 1048576) : wrap64 ((i : Int) + 1) = ((i + 1 : Nat) : Int) := by unfold wrap64; omega
theorem kinds27_fin (s : ByteArray) (hn : s.size ≤ 1048576) {i k : Nat} (hi : i < s.size) {v : Int} (hv : kind27 s i = v) (M I : List Bool) {R : Option (List Int × List Bool)}
    (ih : quarryref27_kinds.l0 k s M I ((List.range (i + 1)).map (kind27 s)) ((i + 1 : Nat) : Int) = R) :
    (if ((List.range i).map (kind27 s)).length < 17592186044416 then quarryref27_kinds.l0 k s M I ((List.range i).map (kind27 s) ++ [v]) (wrap64 ((i : Int) + 1)) else none) = R := by
  rw [if_pos (by rw [List.length_map, List.length_range]; omega), w27 (by omega) hn, ← hv]
  rw [List.range_succ, List.map_append] at ih
  exact ih
theorem kinds27_loop (s : ByteArray) (hn : s.size ≤ 1048576) : ∀ (m i k : Nat), i + m = s.size → 4 * m + 4 < k →
    quarryref27_kinds.l0 k s ((List.range s.size).map (mkq s)) ((List.range s.size).map (insS s)) ((List.range i).map (kind27 s)) (i : Int) = some ((List.range s.size).map (kind27 s), (List.range s.size).map (insS s)) := by
  intro m
  induction m with
  | zero =>
    intro i k hi hk
    obtain ⟨k, rfl⟩ : ∃ j, k = j + 1 := ⟨k - 1, by omega⟩
    simp only [quarryref27_kinds.l0]
    rw [if_neg (by omega), show i = s.size by omega]
  | succ m ih =>
    intro i k hi hk
    obtain ⟨k, rfl⟩ : ∃ j, k = j + 4 := ⟨k - 4, by omega⟩
    have hlt : i < s.size := by omega
    have hl : ((List.range s.size).map (mkq s)).length = s.size := by simp
    have hl2 : ((List.range s.size).map (insS s)).length = s.size := by simp
    have I1 : ∀ k', 4 * m + 4 < k' → quarryref27_kinds.l0 k' s ((List.range s.size).map (mkq s)) ((List.range s.size).map (insS s)) ((List.range (i + 1)).map (kind27 s)) ((i + 1 : Nat) : Int) = some ((List.range s.size).map (kind27 s), (List.range s.size).map (insS s)) := fun k' hk' => ih (i + 1) k' (by omega) hk'
    simp only [quarryref27_kinds.l0]
    rw [if_pos (by omega), if_pos (by omega), if_pos (by omega), rdB s _ i hlt, rdB s _ i hlt]
    have hk27 : kind27 s i = if mkq s i && insS s i then 1 else if mkq s i || insS s i then 0 else if blx (bt s (i : Int)).toNat then 2 else if sgx (bt s (i : Int)).toNat then 3 else 4 := rfl
    cases hm : mkq s i with
    | true =>
      rw [if_pos rfl, if_pos (by omega)]
      cases hi2 : insS s i with
      | true =>
        rw [hm, hi2] at hk27
        simp only [quarryref27_kinds.j1, if_true]
        exact kinds27_fin s hn hlt hk27 _ _ (I1 _ (by omega))
      | false =>
        rw [hm, hi2] at hk27
        simp only [quarryref27_kinds.j1, Bool.false_eq_true, if_false]
        rw [if_pos (by omega), if_pos (by omega), rdB s _ i hlt, hm, if_pos rfl]
        simp only [quarryref27_kinds.j2, if_true]
        exact kinds27_fin s hn hlt hk27 _ _ (I1 _ (by omega))
    | false =>
      rw [if_neg (by decide)]
      simp only [quarryref27_kinds.j1, Bool.false_eq_true, if_false]
      rw [if_pos (by omega), if_pos (by omega), rdB s _ i hlt, hm, if_neg (by decide), if_pos (by omega), rdB s _ i hlt]
      cases hi2 : insS s i with
      | true =>
        rw [hm, hi2] at hk27
        simp only [quarryref27_kinds.j2, if_true]
        exact kinds27_fin s hn hlt hk27 _ _ (I1 _ (by omega))
      | false =>
        rw [hm, hi2] at hk27
        simp only [Bool.and_false, Bool.false_eq_true, if_false, Bool.or_false] at hk27
        have hc := bt_nn s i
        have jt : blx (bt s (i : Int)).toNat = true → quarryref27_kinds.j3 (k + 1) s ((List.range s.size).map (mkq s)) ((List.range s.size).map (insS s)) ((List.range i).map (kind27 s)) (i : Int) 4 true = some ((List.range s.size).map (kind27 s), (List.range s.size).map (insS s)) := fun hb => by
          simp only [quarryref27_kinds.j3, if_true]
          rw [hb, if_pos rfl] at hk27
          exact kinds27_fin s hn hlt hk27 _ _ (I1 _ (by omega))
        have jf : blx (bt s (i : Int)).toNat = false → quarryref27_kinds.j3 (k + 1) s ((List.range s.size).map (mkq s)) ((List.range s.size).map (insS s)) ((List.range i).map (kind27 s)) (i : Int) 4 false = some ((List.range s.size).map (kind27 s), (List.range s.size).map (insS s)) := fun hb => by
          simp only [quarryref27_kinds.j3, Bool.false_eq_true, if_false]
          rw [if_pos (by omega), if_pos (by omega)]
          rw [hb, if_neg (by decide)] at hk27
          have hs : ∀ v : Nat, (v = 123 ∨ v = 125 ∨ v = 91 ∨ v = 93 ∨ v = 58 ∨ v = 44) → bt s (i : Int) = (v : Int) → kind27 s i = 3 := fun v hv e => by
            rw [hk27, e, Int.toNat_natCast, if_pos]
            rcases hv with rfl | rfl | rfl | rfl | rfl | rfl <;> decide
          by_cases h1 : bt s (i : Int) = 123
          · rw [if_pos h1]
            exact kinds27_fin s hn hlt (hs 123 (by decide) h1) _ _ (I1 _ (by omega))
          rw [if_neg h1]
          by_cases h2 : bt s (i : Int) = 125
          · rw [if_pos h2]
            exact kinds27_fin s hn hlt (hs 125 (by decide) h2) _ _ (I1 _ (by omega))
          rw [if_neg h2]
          by_cases h3 : bt s (i : Int) = 91
          · rw [if_pos h3]
            exact kinds27_fin s hn hlt (hs 91 (by decide) h3) _ _ (I1 _ (by omega))
          rw [if_neg h3]
          by_cases h4 : bt s (i : Int) = 93
          · rw [if_pos h4]
            exact kinds27_fin s hn hlt (hs 93 (by decide) h4) _ _ (I1 _ (by omega))
          rw [if_neg h4]
          by_cases h5 : bt s (i : Int) = 58
          · rw [if_pos h5]
            exact kinds27_fin s hn hlt (hs 58 (by decide) h5) _ _ (I1 _ (by omega))
          rw [if_neg h5]
          by_cases h6 : bt s (i : Int) = 44
          · rw [if_pos h6]
            exact kinds27_fin s hn hlt (hs 44 (by decide) h6) _ _ (I1 _ (by omega))
          rw [if_neg h6]
          refine kinds27_fin s hn hlt ?_ _ _ (I1 _ (by omega))
          rw [hk27, if_neg]
          unfold sgx
          simp only [Bool.or_eq_true, beq_iff_eq]
          omega
        have hbl : ∀ b : Bool, (b = true ↔ (bt s (i : Int) = 32 ∨ bt s (i : Int) = 9 ∨ bt s (i : Int) = 10 ∨ bt s (i : Int) = 13)) → blx (bt s (i : Int)).toNat = b := fun b hb => by
          rw [Bool.eq_iff_iff, hb]
          unfold blx
          simp only [Bool.or_eq_true, beq_iff_eq]
          omega
        simp only [quarryref27_kinds.j2, Bool.false_eq_true, if_false]
        rw [if_pos (by omega), if_pos (by omega)]
        by_cases h1 : bt s (i : Int) = 32
        · rw [if_pos h1]
          exact jt (hbl true (by simp [h1]))
        rw [if_neg h1]
        by_cases h2 : bt s (i : Int) = 9
        · rw [if_pos h2]
          exact jt (hbl true (by simp [h2]))
        rw [if_neg h2]
        by_cases h3 : bt s (i : Int) = 10
        · rw [if_pos h3]
          exact jt (hbl true (by simp [h3]))
        rw [if_neg h3]
        by_cases h4 : bt s (i : Int) = 13
        · have e : (bt s (i : Int) == 13) = true := beq_iff_eq.2 h4
          rw [e]
          exact jt (hbl true (by simp [h4]))
        · have e : (bt s (i : Int) == 13) = false := by rw [beq_eq_false_iff_ne]; exact h4
          rw [e]
          exact jf (hbl false (by simp [h1, h2, h3, h4]))
theorem kinds27_eq (s : ByteArray) (hn : s.size ≤ 1048576) (k : Nat) (hk : 4 * s.size + 4 < k) : quarryref27_kinds.f k s = some ((List.range s.size).map (kind27 s), (List.range s.size).map (insS s)) := by
  unfold quarryref27_kinds.f quarryref07_Is.f quarryref07_In.f
  rw [marks7_eq s (by omega) k (by omega), Option.bind_some, inside7_eq s (by omega) k (by omega), Option.bind_some]
  exact kinds27_loop s hn s.size 0 k (by omega) hk
theorem k27_sg (s : ByteArray) (i : Nat) : kind27 s i = 3 ↔ sgq s i = true := by
  unfold kind27 sgq outq
  cases hm : mkq s i <;> cases hi : insS s i <;> cases hb : blx (bt s (i : Int)).toNat <;> cases hs : sgx (bt s (i : Int)).toNat <;> simp
  have := blx_of_sgx hs
  rw [hb] at this
  cases this
theorem k27_bl (s : ByteArray) (i : Nat) : kind27 s i = 2 ↔ blq s i = true := by
  unfold kind27 blq outq
  cases hm : mkq s i <;> cases hi : insS s i <;> cases hb : blx (bt s (i : Int)).toNat <;> cases hs : sgx (bt s (i : Int)).toNat <;> simp
theorem k27_op (s : ByteArray) (i : Nat) : kind27 s i = 1 ↔ opq s i = true := by
  unfold kind27 opq
  cases hm : mkq s i <;> cases hi : insS s i <;> cases hb : blx (bt s (i : Int)).toNat <;> cases hs : sgx (bt s (i : Int)).toNat <;> simp
theorem k27_wd (s : ByteArray) (i : Nat) : kind27 s i = 4 ↔ wdq s i = true := by
  unfold kind27 wdq sgq blq outq
  cases hm : mkq s i <;> cases hi : insS s i <;> cases hb : blx (bt s (i : Int)).toNat <;> cases hs : sgx (bt s (i : Int)).toNat <;> simp
theorem k27_in (s : ByteArray) (i : Nat) : kind27 s i = 0 ↔ (mkq s i || insS s i) = true ∧ opq s i = false := by
  unfold kind27 opq
  cases hm : mkq s i <;> cases hi : insS s i <;> cases hb : blx (bt s (i : Int)).toNat <;> cases hs : sgx (bt s (i : Int)).toNat <;> simp
theorem brk27 (s : ByteArray) (hn : s.size ≤ 1048576) : ∀ (m i o k : Nat), i + m = s.size → 4 * m + 4 < k → 0 < o → o + m ≤ 2097152 →
    quarryref27_bracket.l0 k s ((List.range s.size).map (kind27 s)) (o : Int) (i : Int) = some (match brkR s m i o with | none => -1 | some e => (e : Int)) := by
  intro m
  induction m with
  | zero =>
    intro i o k hi hk ho hb
    obtain ⟨k, rfl⟩ : ∃ j, k = j + 1 := ⟨k - 1, by omega⟩
    simp only [quarryref27_bracket.l0]
    rw [if_neg (by omega)]
    rfl
  | succ m ih =>
    intro i o k hi hk ho hb
    obtain ⟨k, rfl⟩ : ∃ j, k = j + 4 := ⟨k - 4, by omega⟩
    have hlt : i < s.size := by omega
    have hl : ((List.range s.size).map (kind27 s)).length = s.size := by simp
    have hw : wrap64 ((i : Int) + 1) = ((i + 1 : Nat) : Int) := w27 (by omega) hn
    have hw2 : wrap64 ((o : Int) + 1) = ((o + 1 : Nat) : Int) := by unfold wrap64; omega
    have hw3 : wrap64 ((o : Int) - 1) = ((o - 1 : Nat) : Int) := by unfold wrap64; omega
    rw [brkR_succ]
    -- the two tests
    have j3 : ∀ (b : Bool) (o' : Nat), 0 < o' → o' ≤ o + 1 → quarryref27_bracket.j3 (k + 1) s ((List.range s.size).map (kind27 s)) (o' : Int) (i : Int) b = some (match (if (if b then o' - 1 else o') = 0 then some (i + 1) else brkR s m (i + 1) (if b then o' - 1 else o')) with | none => -1 | some e => (e : Int)) := fun b o' h0 h1 => by
      have hw4 : wrap64 ((o' : Int) - 1) = ((o' - 1 : Nat) : Int) := by unfold wrap64; omega
      simp only [quarryref27_bracket.j3]
      rw [hw, hw4]
      cases b with
      | true =>
        simp only [if_true]
        by_cases hz : o' - 1 = 0
        · rw [if_pos (by omega), if_pos hz]
        · rw [if_neg (by omega), if_neg hz]
          exact ih (i + 1) (o' - 1) k (by omega) (by omega) (by omega) (by omega)
      | false =>
        simp only [Bool.false_eq_true, if_false]
        rw [if_neg (by omega), if_neg (by omega)]
        exact ih (i + 1) o' k (by omega) (by omega) h0 (by omega)
    have j2 : ∀ (o' : Nat), 0 < o' → o' ≤ o + 1 → quarryref27_bracket.j2 (k + 2) s ((List.range s.size).map (kind27 s)) (o' : Int) (i : Int) = some (match (if (if sgq s i && closesB (bt s (i : Int)) then o' - 1 else o') = 0 then some (i + 1) else brkR s m (i + 1) (if sgq s i && closesB (bt s (i : Int)) then o' - 1 else o')) with | none => -1 | some e => (e : Int)) := fun o' h0 h1 => by
      simp only [quarryref27_bracket.j2]
      rw [if_pos (by omega), if_pos (by omega), rdK s i hlt]
      by_cases hs : sgq s i = true
      · rw [if_pos ((k27_sg s i).2 hs), if_pos (by omega), hs, Bool.true_and]
        unfold closesB
        by_cases h1' : bt s (i : Int) = 125
        · rw [if_pos h1', h1']
          exact j3 true o' h0 h1
        · have e : (bt s (i : Int) == 125) = false := by rw [beq_eq_false_iff_ne]; exact h1'
          rw [if_neg h1', e, Bool.false_or]
          exact j3 _ o' h0 h1
      · have hs' : sgq s i = false := by simpa using hs
        rw [if_neg (fun c => hs ((k27_sg s i).1 c)), hs', Bool.false_and]
        exact j3 false o' h0 h1
    have j1 : ∀ b : Bool, quarryref27_bracket.j1 (k + 3) s ((List.range s.size).map (kind27 s)) (o : Int) (i : Int) b = quarryref27_bracket.j2 (k + 2) s ((List.range s.size).map (kind27 s)) ((if b then o + 1 else o : Nat) : Int) (i : Int) := fun b => by
      simp only [quarryref27_bracket.j1]
      rw [hw2]
      cases b <;> rfl
    simp only [quarryref27_bracket.l0]
    rw [if_pos (by omega), if_pos (by omega), if_pos (by omega), rdK s i hlt]
    have fin : quarryref27_bracket.j1 (k + 3) s ((List.range s.size).map (kind27 s)) (o : Int) (i : Int) (sgq s i && opensB (bt s (i : Int))) = some (match (if (if sgq s i && closesB (bt s (i : Int)) then (if sgq s i && opensB (bt s (i : Int)) then o + 1 else o) - 1 else if sgq s i && opensB (bt s (i : Int)) then o + 1 else o) = 0 then some (i + 1) else brkR s m (i + 1) (if sgq s i && closesB (bt s (i : Int)) then (if sgq s i && opensB (bt s (i : Int)) then o + 1 else o) - 1 else if sgq s i && opensB (bt s (i : Int)) then o + 1 else o)) with | none => -1 | some e => (e : Int)) := by
      rw [j1]
      exact j2 _ (by split <;> omega) (by split <;> omega)
    rw [← fin]
    by_cases hs : sgq s i = true
    · rw [if_pos ((k27_sg s i).2 hs), hs, Bool.true_and]
      unfold opensB
      by_cases h1 : bt s (i : Int) = 123
      · rw [if_pos h1, h1]
        rfl
      · have e : (bt s (i : Int) == 123) = false := by rw [beq_eq_false_iff_ne]; exact h1
        rw [if_neg h1, e, Bool.false_or]
    · have hs' : sgq s i = false := by simpa using hs
      rw [if_neg (fun c => hs ((k27_sg s i).1 c)), hs', Bool.false_and]
theorem brk27_start (s : ByteArray) (hn : s.size ≤ 1048576) (a k : Nat) (ha : a < s.size) (hs : sgq s a = true) (ho : opensB (bt s (a : Int)) = true) (hk : 4 * (s.size - a) + 4 < k) :
    quarryref27_bracket.l0 k s ((List.range s.size).map (kind27 s)) 0 (a : Int) = some (match brkR s (s.size - a) a 0 with | none => -1 | some e => (e : Int)) := by
  obtain ⟨k, rfl⟩ : ∃ j, k = j + 4 := ⟨k - 4, by omega⟩
  have hl : ((List.range s.size).map (kind27 s)).length = s.size := by simp
  have hw : wrap64 ((a : Int) + 1) = ((a + 1 : Nat) : Int) := w27 (by omega) hn
  have h3 := (k27_sg s a).2 hs
  have hc : closesB (bt s (a : Int)) = false := by
    unfold opensB at ho
    unfold closesB
    simp only [Bool.or_eq_true, beq_iff_eq] at ho
    rw [Bool.or_eq_false_iff, beq_eq_false_iff_ne, beq_eq_false_iff_ne]
    omega
  have hj := brk27 s hn (s.size - (a + 1)) (a + 1) 1 k (by omega) (by omega) (by decide) (by omega)
  rw [show s.size - a = (s.size - (a + 1)) + 1 by omega, brkR_succ, hs, ho, hc]
  simp only [Bool.true_and, if_true, Bool.false_eq_true, if_false, Nat.zero_add, Nat.one_ne_zero]
  rw [← hj]
  have j3 : quarryref27_bracket.j3 (k + 1) s ((List.range s.size).map (kind27 s)) 1 (a : Int) false = quarryref27_bracket.l0 k s ((List.range s.size).map (kind27 s)) ((1 : Nat) : Int) ((a + 1 : Nat) : Int) := by
    simp only [quarryref27_bracket.j3, Bool.false_eq_true, if_false]
    rw [if_neg (by decide), hw]
    rfl
  have j2 : quarryref27_bracket.j2 (k + 2) s ((List.range s.size).map (kind27 s)) 1 (a : Int) = quarryref27_bracket.j3 (k + 1) s ((List.range s.size).map (kind27 s)) 1 (a : Int) false := by
    simp only [quarryref27_bracket.j2]
    unfold closesB at hc
    rw [Bool.or_eq_false_iff, beq_eq_false_iff_ne, beq_eq_false_iff_ne] at hc
    have e : (bt s (a : Int) == 93) = false := by rw [beq_eq_false_iff_ne]; exact hc.2
    rw [if_pos (by omega), if_pos (by omega), rdK s a ha, if_pos h3, if_pos (by omega), if_neg hc.1, e]
  have j1 : quarryref27_bracket.j1 (k + 3) s ((List.range s.size).map (kind27 s)) 0 (a : Int) true = quarryref27_bracket.j2 (k + 2) s ((List.range s.size).map (kind27 s)) 1 (a : Int) := by
    simp only [quarryref27_bracket.j1, if_true]
    rw [show wrap64 ((0 : Int) + 1) = 1 from by unfold wrap64; omega]
  rw [← j3, ← j2, ← j1]
  simp only [quarryref27_bracket.l0]
  rw [if_pos (by omega), if_pos (by omega), if_pos (by omega), rdK s a ha, if_pos h3]
  by_cases h1 : bt s (a : Int) = 123
  · rw [if_pos h1]
  · rw [if_neg h1]
    unfold opensB at ho
    have e : (bt s (a : Int) == 123) = false := by rw [beq_eq_false_iff_ne]; exact h1
    rw [e, Bool.false_or] at ho
    rw [ho]
theorem text27 (s : ByteArray) (hn : s.size ≤ 1048576) : ∀ (m i k : Nat), i + m = s.size → 2 * m + 2 < k → par (mkq s) i = true →
    quarryref27_end.l0 k s ((List.range s.size).map (kind27 s)) ((List.range s.size).map (insS s)) (i : Int) = some (if firstQ (mkq s) m i < s.size then ((firstQ (mkq s) m i : Nat) : Int) + 1 else -1) := by
  intro m
  induction m with
  | zero =>
    intro i k hi hk hp
    obtain ⟨k, rfl⟩ : ∃ j, k = j + 2 := ⟨k - 2, by omega⟩
    simp only [quarryref27_end.l0]
    rw [if_neg (by omega)]
    simp only [quarryref27_end.j2, Bool.false_eq_true, if_false]
    unfold firstQ
    rw [if_neg (by omega)]
  | succ m ih =>
    intro i k hi hk hp
    obtain ⟨k, rfl⟩ : ∃ j, k = j + 2 := ⟨k - 2, by omega⟩
    have hlt : i < s.size := by omega
    have hl : ((List.range s.size).map (kind27 s)).length = s.size := by simp
    have hl2 : ((List.range s.size).map (insS s)).length = s.size := by simp
    have hw : wrap64 ((i : Int) + 1) = ((i + 1 : Nat) : Int) := w27 (by omega) hn
    have hins : insS s i = !(mkq s i) := by
      show par (mkq s) (i + 1) = _
      rw [par_succ, hp]
      cases mkq s i <;> rfl
    have h0 : kind27 s i = 0 := (k27_in s i).2 ⟨by rw [hins]; cases mkq s i <;> rfl, by unfold opq; rw [hins]; cases mkq s i <;> rfl⟩
    simp only [quarryref27_end.l0]
    rw [if_pos (by omega), if_pos (by omega), if_pos (by omega), rdK s i hlt, h0]
    have e0 : ((0 : Int) == 0) = true := rfl
    rw [e0]
    simp only [quarryref27_end.j2, if_true]
    rw [if_pos (by omega), if_pos (by omega), rdB s _ i hlt, hins]
    unfold firstQ
    cases hm : mkq s i with
    | true =>
      have hb : bt s (i : Int) = 34 := by
        unfold mkq at hm
        simp only [Bool.and_eq_true, decide_eq_true_eq] at hm
        exact hm.1
      rw [if_pos hb, if_pos (by omega), if_neg (by decide), if_pos rfl, if_pos hlt, hw]
      rfl
    | false =>
      have hp2 : par (mkq s) (i + 1) = true := by rw [par_succ, hp, hm]; rfl
      simp only [Bool.false_eq_true, if_false, Bool.not_false, if_true]
      have hj := ih (i + 1) k (by omega) (by omega) hp2
      rw [hw]
      by_cases hb : bt s (i : Int) = 34
      · rw [if_pos hb, if_pos (by omega)]
        exact hj
      · rw [if_neg hb]
        exact hj
theorem word27 (s : ByteArray) (hn : s.size ≤ 1048576) : ∀ (m i k : Nat), i + m = s.size → m < k → quarryref27_end.l1 k s ((List.range s.size).map (kind27 s)) (i : Int) = some ((firstQ (fun i => !(wdq s i)) m i : Nat) : Int) := by
  intro m
  induction m with
  | zero =>
    intro i k hi hk
    obtain ⟨k, rfl⟩ : ∃ j, k = j + 1 := ⟨k - 1, by omega⟩
    simp only [quarryref27_end.l1]
    rw [if_neg (by omega)]
    rfl
  | succ m ih =>
    intro i k hi hk
    obtain ⟨k, rfl⟩ : ∃ j, k = j + 1 := ⟨k - 1, by omega⟩
    have hlt : i < s.size := by omega
    have hl : ((List.range s.size).map (kind27 s)).length = s.size := by simp
    have hw : wrap64 ((i : Int) + 1) = ((i + 1 : Nat) : Int) := w27 (by omega) hn
    simp only [quarryref27_end.l1]
    rw [if_pos (by omega), if_pos (by omega), if_pos (by omega), rdK s i hlt]
    unfold firstQ
    by_cases hw2 : wdq s i = true
    · rw [if_pos ((k27_wd s i).2 hw2), hw, if_neg (by rw [hw2]; decide)]
      exact ih (i + 1) k (by omega) (by omega)
    · rw [if_neg (fun c => hw2 ((k27_wd s i).1 c)), if_pos (by simpa using hw2)]
theorem wordE_next (s : ByteArray) {a : Nat} (ha : a < s.size) (hw : wdq s a = true) : wordE s a = firstQ (fun i => !(wdq s i)) (s.size - (a + 1)) (a + 1) := by
  unfold wordE
  rw [show s.size - a = (s.size - (a + 1)) + 1 by omega, firstQ, if_neg (by rw [hw]; decide)]
theorem end27 (s : ByteArray) (hn : s.size ≤ 1048576) (a k : Nat) (ha : a < s.size) (hf : Free s a) (hb : blq s a = false) (hk : 4 * s.size + 20 < k) :
    quarryref27_end.f k s ((List.range s.size).map (kind27 s)) ((List.range s.size).map (insS s)) (a : Int) = some (match endR s a with | none => -1 | some e => (e : Int)) := by
  obtain ⟨k, rfl⟩ : ∃ j, k = j + 1 := ⟨k - 1, by omega⟩
  have hl : ((List.range s.size).map (kind27 s)).length = s.size := by simp
  have hw : wrap64 ((a : Int) + 1) = ((a + 1 : Nat) : Int) := w27 (by omega) hn
  have hkind : sgq s a = true ∨ opq s a = true ∨ wdq s a = true := by
    rcases free_kind ha hf with h | h
    · rw [hb] at h; cases h
    · exact h
  unfold quarryref27_end.f
  rw [if_pos (by omega), if_pos (by omega)]
  have e1 : (if bt s (a : Int) = 123 then quarryref27_end.j0 (k + 1) s ((List.range s.size).map (kind27 s)) ((List.range s.size).map (insS s)) (a : Int) true
      else quarryref27_end.j0 (k + 1) s ((List.range s.size).map (kind27 s)) ((List.range s.size).map (insS s)) (a : Int) (bt s (a : Int) == 91)) =
      quarryref27_end.j0 (k + 1) s ((List.range s.size).map (kind27 s)) ((List.range s.size).map (insS s)) (a : Int) (opensB (bt s (a : Int))) := by
    unfold opensB
    by_cases h1 : bt s (a : Int) = 123
    · rw [if_pos h1, h1]
      rfl
    · have e : (bt s (a : Int) == 123) = false := by rw [beq_eq_false_iff_ne]; exact h1
      rw [if_neg h1, e, Bool.false_or]
  rw [e1]
  unfold endR
  cases ho : opensB (bt s (a : Int)) with
  | true =>
    have hs : sgq s a = true := by
      apply Classical.byContradiction
      intro c
      have := (other_bytes (by simpa using c) (hkind.resolve_left c)).1
      rw [ho] at this
      cases this
    simp only [quarryref27_end.j0, if_true]
    unfold quarryref27_bracket.f
    rw [brk27_start s hn a k ha hs ho (by omega)]
    rfl
  | false =>
    simp only [quarryref27_end.j0, Bool.false_eq_true, if_false]
    rw [if_pos (by omega), if_pos (by omega), rdK s a ha]
    by_cases hs : sgq s a = true
    · rw [if_pos ((k27_sg s a).2 hs), if_pos hs]
    · rw [if_neg (fun c => hs ((k27_sg s a).1 c)), if_neg hs, hw]
      by_cases hop : opq s a = true
      · rw [if_pos ((k27_op s a).2 hop), if_pos hop]
        rw [text27 s hn (s.size - (a + 1)) (a + 1) k (by omega) (by omega) (op_facts hop).2.1]
        unfold textE
        split <;> rfl
      · have hwd : wdq s a = true := (hkind.resolve_left hs).resolve_left hop
        rw [if_neg (fun c => hop ((k27_op s a).1 c)), if_neg hop]
        rw [word27 s hn (s.size - (a + 1)) (a + 1) k (by omega) (by omega), ← wordE_next s ha hwd]
theorem endR_free (s : ByteArray) (a : Nat) (ha : a < s.size) (hf : Free s a) (hb : blq s a = false) (e : Nat) (he : endR s a = some e) : a < e ∧ e ≤ s.size ∧ Free s e := by
  have hkind : sgq s a = true ∨ opq s a = true ∨ wdq s a = true := by
    rcases free_kind ha hf with h | h
    · rw [hb] at h; cases h
    · exact h
  unfold endR at he
  by_cases ho : opensB (bt s (a : Int)) = true
  · rw [if_pos ho] at he
    have hs : sgq s a = true := by
      apply Classical.byContradiction
      intro c
      have := (other_bytes (by simpa using c) (hkind.resolve_left c)).1
      rw [ho] at this
      cases this
    rw [show s.size - a = (s.size - (a + 1)) + 1 by omega, brkR_succ, hs, ho] at he
    have hc : closesB (bt s (a : Int)) = false := by
      unfold opensB at ho
      unfold closesB
      simp only [Bool.or_eq_true, beq_iff_eq] at ho
      rw [Bool.or_eq_false_iff, beq_eq_false_iff_ne, beq_eq_false_iff_ne]
      omega
    rw [hc] at he
    simp only [Bool.true_and, if_true, Bool.false_eq_true, if_false, Nat.zero_add, Nat.one_ne_zero] at he
    obtain ⟨h1, h2, h3⟩ := (prog_brk (s := s) 0 (s.size - (a + 1)) (a + 1) 1 [] (by omega) (by decide)).2 e he
    exact ⟨by omega, h2, h3⟩
  · rw [if_neg ho] at he
    by_cases hs : sgq s a = true
    · rw [if_pos hs] at he
      cases he
    · rw [if_neg hs] at he
      by_cases hop : opq s a = true
      · rw [if_pos hop] at he
        by_cases ht : textE s a < s.size
        · rw [if_pos ht] at he
          cases he
          obtain ⟨hm, hins, _⟩ := op_facts hop
          obtain ⟨t1, t2, t3, t4⟩ := firstQ_spec (mkq s) (s.size - (a + 1)) (a + 1)
          have et : firstQ (mkq s) (s.size - (a + 1)) (a + 1) = textE s a := rfl
          rw [et] at t1 t2 t3 t4
          have hmk := t4 (by omega)
          have hin : ∀ k, a + k < textE s a → insS s (a + k) = true := fun k => by
            induction k with
            | zero => exact fun _ => hins
            | succ k ih =>
              intro h4
              show par (mkq s) (a + (k + 1) + 1) = true
              rw [par_succ, t3 (a + (k + 1)) (by omega) h4, Bool.xor_false]
              exact ih (by omega)
          have hpe : par (mkq s) (textE s a) = true := by
            have := hin (textE s a - 1 - a) (by omega)
            rw [show a + (textE s a - 1 - a) = textE s a - 1 by omega, show insS s (textE s a - 1) = par (mkq s) (textE s a - 1 + 1) from rfl, show textE s a - 1 + 1 = textE s a by omega] at this
            exact this
          have hie : insS s (textE s a) = false := by
            show par (mkq s) (textE s a + 1) = false
            rw [par_succ, hpe, hmk]
            rfl
          exact ⟨by omega, by omega, free_next hie (by unfold wdq outq; rw [hmk]; rfl)⟩
        · rw [if_neg ht] at he
          cases he
      · rw [if_neg hop] at he
        cases he
        have hw : wdq s a = true := (hkind.resolve_left hs).resolve_left hop
        obtain ⟨t1, t2, t3, t4⟩ := firstQ_spec (fun i => !(wdq s i)) (s.size - a) a
        have et : firstQ (fun i => !(wdq s i)) (s.size - a) a = wordE s a := rfl
        rw [et] at t1 t2 t3 t4
        have hgt : a < wordE s a := by
          apply Classical.byContradiction
          intro c
          have e : wordE s a = a := by omega
          rw [e] at t4
          have := t4 (by omega)
          rw [hw] at this
          cases this
        refine ⟨hgt, by omega, fun he => ?_⟩
        have hwl : wdq s (wordE s a - 1) = true := by simpa using t3 (wordE s a - 1) (by omega) (by omega)
        have hl := (wd_facts hwl).2.1
        refine ⟨?_, fun c => ?_⟩
        · rw [show insS s (wordE s a - 1) = par (mkq s) (wordE s a - 1 + 1) from rfl, show wordE s a - 1 + 1 = wordE s a by omega] at hl
          exact hl
        · have := t4 (by omega)
          rw [c] at this
          cases this
def spS (x : Nat × Nat) : S36 := ⟨(x.1 : Int), (x.2 : Int)⟩
theorem split27_loop (s : ByteArray) (hn : s.size ≤ 1048576) : ∀ (f a k : Nat) (out : List (Nat × Nat)), s.size < a + f → a ≤ s.size → Free s a → out.length ≤ a → 5 * s.size + 50 + (s.size - a) < k →
    quarryref27_Split.l0 k s (out.map spS) ((List.range s.size).map (kind27 s)) ((List.range s.size).map (insS s)) (a : Int) = some ((refF s f a out).1.map spS, (refF s f a out).2) := by
  intro f
  induction f with
  | zero => intro a k out h1 h2 _ _ _; omega
  | succ f ih =>
    intro a k out hf ha hfree ho hk
    obtain ⟨k, rfl⟩ : ∃ j, k = j + 1 := ⟨k - 1, by omega⟩
    have hl : ((List.range s.size).map (kind27 s)).length = s.size := by simp
    have hw : a < s.size → wrap64 ((a : Int) + 1) = ((a + 1 : Nat) : Int) := fun h => w27 (by omega) hn
    simp only [quarryref27_Split.l0]
    unfold refF
    by_cases hlt : a < s.size
    · rw [if_pos (by omega), if_pos (by omega), if_pos (by omega), if_pos hlt, rdK s a hlt]
      by_cases hb : blq s a = true
      · rw [if_pos ((k27_bl s a).2 hb), if_pos hb, hw hlt]
        have hbf := bl_facts hb
        exact ih (a + 1) k out (by omega) (by omega) (free_next hbf.1 hbf.2.1) (by omega) (by omega)
      · have hb' : blq s a = false := by simpa using hb
        rw [if_neg (fun c => hb ((k27_bl s a).1 c)), if_neg hb, end27 s hn a k hlt hfree hb' (by omega), Option.bind_some]
        cases he : endR s a with
        | none =>
          simp only
          rw [if_pos (by decide)]
        | some e =>
          obtain ⟨h1, h2, h3⟩ := endR_free s a hlt hfree hb' e he
          simp only
          rw [if_neg (by omega), if_pos (by rw [List.length_map]; omega)]
          have hj := ih e k (out ++ [(a, e)]) (by omega) h2 h3 (by rw [List.length_append, List.length_singleton]; omega) (by omega)
          rw [List.map_append] at hj
          exact hj
    · rw [if_neg (by omega), if_neg hlt]
theorem split27_eq (s : ByteArray) (hn : s.size ≤ 1048576) (k : Nat) (hk : 6 * s.size + 60 < k) : quarryref27_Split.f k s = some ((progF s (idxD s s.size 0) [] 0 0).1.map spS, (progF s (idxD s s.size 0) [] 0 0).2) := by
  unfold quarryref27_Split.f
  rw [kinds27_eq s hn k (by omega), Option.bind_some]
  have h := split27_loop s hn (s.size + 1) 0 k [] (by omega) (Nat.zero_le _) free_zero (Nat.le_refl _) (by omega)
  have e := prog_ref (s := s) (s.size + 1) 0 0 [] (by omega) (Nat.zero_le _) free_zero
  rw [e, Nat.sub_zero] at h
  exact h
theorem samespans_loop (l : List S36) (hl : l.length ≤ 140737488355328) : ∀ (d i k : Nat), i + d = l.length → d < k → quarryref00_SameSpans.l0 k l l (i : Int) = some true := by
  intro d
  induction d with
  | zero =>
    intro i k hi hk
    obtain ⟨k, rfl⟩ : ∃ m, k = m + 1 := ⟨k - 1, by omega⟩
    unfold quarryref00_SameSpans.l0
    rw [if_neg (by omega)]
  | succ d ih =>
    intro i k hi hk
    obtain ⟨k, rfl⟩ : ∃ m, k = m + 1 := ⟨k - 1, by omega⟩
    have e : wrap64 ((i : Int) + 1) = ((i + 1 : Nat) : Int) := by unfold wrap64; omega
    unfold quarryref00_SameSpans.l0
    rw [if_pos (by omega), if_pos (by omega), if_pos (by omega), if_neg (by simp), e, ih (i + 1) k (by omega) (by omega)]
/-- A list is the same as itself. -/
theorem samespans_refl (l : List S36) (hl : l.length ≤ 140737488355328) (k : Nat) (hk : l.length < k) : quarryref00_SameSpans.f k l l = some true := by
  unfold quarryref00_SameSpans.f
  rw [if_pos rfl]
  exact samespans_loop l hl l.length 0 k (by omega) hk
theorem small_split : splitF (⟨#[123, 125, 32, 55]⟩ : ByteArray) = ([(0, 2), (3, 4)], -1) := by decide +kernel
theorem awake27 : quarrylaw27_awake.f = some true := by
  unfold quarrylaw27_awake.f stream_Split.f
  rw [if_pos (by decide), Option.bind_some, small_split]
  rfl
theorem StreamSplits (s : ByteArray) (hn : s.size ≤ 1048576) : ∃ k, quarrylaw27_StreamSplits.f k s = some true := by
  have hl : (splitF s).1.length ≤ 1048576 := by
    have h1 := progF_len s (idxD s s.size 0) [] 0 0
    have h2 := idxL_length s s.size
    rw [idxD_all, List.length_map] at h2
    unfold splitF
    rw [List.length_nil] at h1
    omega
  refine ⟨6 * s.size + 2000000, ?_⟩
  unfold quarrylaw27_StreamSplits.f
  have e1 : stream_Split.f s = some ((splitF s).1.map spS, (splitF s).2) := by
    unfold stream_Split.f
    rw [if_pos hn]
    rfl
  have e2 := split27_eq s hn (6 * s.size + 2000000) (by omega)
  rw [e1, Option.bind_some, e2, Option.bind_some]
  rw [if_pos (by rfl)]
  have e3 : (progF s (idxD s s.size 0) [] 0 0).1 = (splitF s).1 := rfl
  simp only [e3]
  rw [samespans_refl _ (by rw [List.length_map]; omega) _ (by rw [List.length_map]; omega), Option.bind_some, if_pos rfl, awake27, Option.bind_some]

end Go.Proofs.YtfihkkjkifkemaaDoor.Pure
end
namespace Go.Proofs.YtfihkkjkifkemaaDoor.streamSplits
open Go.ChangeShapes Go.WideShapes Go.ChangeAt Go.RowKit
open Go.ChangeMaps (open_string shut_string)
set_option linter.unusedVariables false
set_option linter.unusedSimpArgs false
theorem own : ownKnob Tryd.prog.godebug = none := by kernel_rfl
theorem gTab : Tryd.prog.globalNamed "math/bits.deBruijn64tab" = some 0 := by kernel_rfl
theorem gTabType : (Tryd.prog.globals[0]?).map (·.type) = some 106 := by kernel_rfl
theorem cellsTab : Tryd.prog.cellsOf 106 = 64 := by kernel_rfl
theorem cellsByte : Tryd.prog.cellsOf 5 = 1 := by kernel_rfl
def tabZ : List Int := [0, 1, 56, 2, 57, 49, 28, 3, 61, 58, 42, 50, 38, 29, 17, 4, 62, 47, 59, 36, 45, 43, 51, 22, 53, 39, 33, 30, 24, 18, 12, 5, 63, 55, 48, 27, 60, 41, 37, 16, 46, 35, 44, 21, 52, 32, 23, 11, 54, 26, 40, 15, 34, 20, 31, 10, 25, 14, 19, 9, 13, 8, 7, 6]
theorem table {W : World} (h : laidMetH Tryd.prog Rows.streamSplitsUptoRow.laid W) : Lib.TabIs Tryd.prog W "math/bits.deBruijn64tab" .u8 tabZ :=
  Lib.tabIs_of_head (rest := []) gTab gTabType Tryd.underlying106 Tryd.underlying5 cellsByte cellsTab h
theorem tab_eq : ∀ j, j < 64 → tabZ.getD j 0 = ((Lib.deBruijn64tab.getD j 0 : Nat) : Int) := by decide
theorem tabOk {W : World} (h : laidMetH Tryd.prog Rows.streamSplitsUptoRow.laid W) : Go.Proofs.YtfihkkjkifkemaaDoorM.TabOk W := ⟨fun j hj => by
  have h64 : j < 64 := hj
  rw [(table h).cell gTab j h64, tab_eq j h64]⟩
noncomputable def laidWorld (os : Os) : World :=
  { World.holding Tryd.prog os ⟨#[], #[], []⟩ with heap := (World.holding Tryd.prog os ⟨#[], #[], []⟩).heap.modify 0 fun
      | .cells _ t frozen => .cells #[.int .u8 0, .int .u8 1, .int .u8 56, .int .u8 2, .int .u8 57, .int .u8 49, .int .u8 28, .int .u8 3, .int .u8 61, .int .u8 58, .int .u8 42, .int .u8 50, .int .u8 38, .int .u8 29, .int .u8 17, .int .u8 4, .int .u8 62, .int .u8 47, .int .u8 59, .int .u8 36, .int .u8 45, .int .u8 43, .int .u8 51, .int .u8 22, .int .u8 53, .int .u8 39, .int .u8 33, .int .u8 30, .int .u8 24, .int .u8 18, .int .u8 12, .int .u8 5, .int .u8 63, .int .u8 55, .int .u8 48, .int .u8 27, .int .u8 60, .int .u8 41, .int .u8 37, .int .u8 16, .int .u8 46, .int .u8 35, .int .u8 44, .int .u8 21, .int .u8 52, .int .u8 32, .int .u8 23, .int .u8 11, .int .u8 54, .int .u8 26, .int .u8 40, .int .u8 15, .int .u8 34, .int .u8 20, .int .u8 31, .int .u8 10, .int .u8 25, .int .u8 14, .int .u8 19, .int .u8 9, .int .u8 13, .int .u8 8, .int .u8 7, .int .u8 6] t frozen
      | o => o }
theorem laid_met (os : Os) : laidMet Tryd.prog Rows.streamSplitsUptoRow.laid ((laidWorld os).forCall (fun _ _ => 0) ⟨#[], #[.string ByteArray.empty], []⟩).memory :=
  laidMet_of_run' 8 (by kernel_rfl) (by kernel_rfl)
theorem reads (os : Os) {H : Type} (enc : TypeId × Value → H) : ∃ places, DataW.whole enc Tryd.prog ((laidWorld os).forCall (fun _ _ => 0) ⟨#[], #[.string ByteArray.empty], []⟩).memory Tryd.f4.params.toList Rows.streamSplitsSpec.vars false (#[.string ByteArray.empty] : Array Value).toList 8 = some ([.lit (.string [])], [], places) :=
  ⟨[], by kernel_rfl⟩
set_option maxRecDepth 100000 in
theorem lifted (os : Os) (started : os.Started) (H : Type) (enc : TypeId × Value → H) (F : Stop.Interp) :
    ReturnsInHanded {} Tryd.checked os 4 .any ((Rows.OpenSpec.upto Rows.streamSplitsSpec).preRow enc Tryd.prog Tryd.f4 Rows.streamSplitsUptoRow.domain false Rows.streamSplitsUptoRow.laid) (((Rows.OpenSpec.upto Rows.streamSplitsSpec).at F).post enc Tryd.prog Tryd.f4 false true false false) := by
  obtain ⟨places, hx⟩ := reads os enc
  refine returnsInHanded_of_row (C := Tryd.checked) (s := Rows.OpenSpec.upto Rows.streamSplitsSpec) own started (by kernel_rfl) Tryd.func4
    (witness_row_at (enc := enc) (C := Tryd.checked) false (laidWorld os) #[.string ByteArray.empty] rfl (by kernel_rfl) (by kernel_rfl) (by kernel_rfl)
      (OpenSpec.preRow_of_cond 8 hx (by kernel_rfl) (fun k hk => by cases hk; kernel_rfl) (by kernel_rfl) (laid_met os))) ?_
  intro W base args ds gs before hval0 hW hcnd hk0 hsz0 hL _ _
  have hsz : (DataW.weightsEach Tryd.prog (Tryd.f4.params.toList ++ Rows.streamSplitsSpec.plain.varTypes Tryd.prog) (ds ++ gs)).all (· ≤ reachBytes) = true := hsz0
  have hval : ∀ (j : Nat) t v, Tryd.f4.params[j]? = some t → args[j]? = some v → Value.okWide Tryd.prog W .any base t v := hval0
  have hW' := hW
  obtain ⟨p, q, hA0, hV, rfl, hfz, hnd⟩ := hW
  have hA : DataW.TrodAll enc Tryd.prog W 0 (fun _ => true) true Tryd.f4.params.toList args.toList ds p := hA0
  rw [Tryd.params4] at hA hval hsz
  obtain ⟨v0, vs0, d0, ds0, p0, q0, hargs, rfl, rfl, h0, r0⟩ := trodAll_cons hA
  obtain ⟨rfl, rfl, rfl⟩ := trodAll_nil r0
  obtain rfl : args = #[v0] := by cases args; simp_all
  obtain ⟨rfl, rfl⟩ := trodVars_none hV
  obtain ⟨a0, rfl, rfl, rfl, y0⟩ := open_string Tryd.underlying9 (hval 0 9 v0 rfl rfl) h0
  have w0 : a0.size ≤ 140737488351232 := by
    have z := sized_string hsz (j := 0) (t := 9) rfl rfl
    rw [Array.length_toList] at z
    exact z
  clear hA0 hval0 hsz0 hsz
  have hk1 : Rows.uptoBulkAll _ ≤ 1048576 := of_decide_eq_true (hk0 _ rfl)
  simp only [Rows.uptoBulkAll, Rows.uptoBulk, List.append_nil, List.nil_append, List.cons_append] at hk1
  have e0_ : a0.data.toList.length = a0.size := by rw [Array.length_toList]; rfl
  have s0_ : a0.size ≤ 1048576 := by omega
  obtain ⟨k, hk⟩ := Pure.StreamSplits a0 s0_
  refine (PS.quarrylaw27_StreamSplits.calls k a0 true W (tabOk hL) hk).mono fun e W' ⟨he, bel⟩ => ?_
  subst he
  exact ⟨_, rfl, _, _, _, [], _, [], hW', trodAll_mk1 (shut_bool Tryd.underlying4 _), (trodAll_cons_mk (shut_string Tryd.underlying9 y0) trodAll_mk0), rfl, bel.frame _, fun h => by cases h⟩
theorem over : Rows.streamSplitsUptoRow.holds Tryd.pinned (Rows.OpenSpec.upto Rows.streamSplitsSpec) :=
  OpenClaim.holds_of_cond 4 Tryd.f4 rfl rfl rfl rfl rfl rfl rfl ⟨rfl, rfl, rfl, rfl, rfl⟩ rfl rfl rfl rfl rfl (by kernel_rfl) Tryd.func4 (by kernel_rfl)
    (of_decide_eq_true (by kernel_rfl)) (by unfold Func.isWrapper; first | (rw [if_pos (by decide +kernel)]; kernel_rfl) | (rw [if_neg (by decide +kernel)]; exact ⟨rfl, rfl⟩))
    (fun os started H enc _ F => by rw [OpenClaim.pre_eq_preRow]; exact lifted os started H enc F)
theorem said : Rows.StreamSplitsUptoSaid := over
theorem plain (f : FuncId) (fn : Func) (hf : Tryd.pinned.checked.prog.funcNamed "quarry/quarrylaw27.StreamSplits" = some f) (hfn : Tryd.pinned.checked.prog.funcs[f]? = some fn) :
    false = Tryd.pinned.checked.prog.looks [] ∧ ∀ (j : Nat) t, fn.params[j]? = some t → Tryd.pinned.checked.prog.wantsStandIn t = false := by
  obtain rfl : f = 4 := Option.some.inj ((show Tryd.prog.funcNamed "quarry/quarrylaw27.StreamSplits" = some 4 by kernel_rfl).symm.trans hf) |>.symm
  obtain rfl : fn = Tryd.f4 := (Option.some.inj (Tryd.func4.symm.trans hfn)).symm
  refine ⟨by kernel_rfl, fun j t ht => ?_⟩
  rw [Tryd.params4] at ht
  have hm := Array.mem_of_getElem? ht
  simp only [List.mem_toArray, List.mem_cons, List.not_mem_nil, or_false] at hm
  subst hm
  exact (show Tryd.prog.wantsStandIn 9 = false by kernel_rfl)
theorem card : Rows.StreamSplitsUptoCardSaid :=
  Claim7.holds_tied_plain_at .later [] _ _ _ _ said (fun _ h => by cases h) (by kernel_rfl) (fun _ h => by cases h) streamSplitsUpto_row_tie rfl ⟨rfl, rfl⟩ (by kernel_rfl) rfl plain (by kernel_rfl)
#print axioms card
end Go.Proofs.YtfihkkjkifkemaaDoor.streamSplits
namespace Go.Proofs.YtfihkkjkifkemaaDoor
/-- The card, under a short name, for the claim. -/
theorem streamSplits_holds : Rows.StreamSplitsUptoCardSaid := streamSplits.card
end Go.Proofs.YtfihkkjkifkemaaDoor
