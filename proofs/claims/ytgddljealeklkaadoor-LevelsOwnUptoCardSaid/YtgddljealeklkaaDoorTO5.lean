/- Parts of a claim (TO), packed by a program (pack.py) out of the texts that it names. -/
import Derived.Test.YtgddljealeklkaaDoorCards
import Derived.Test.YtgddljealeklkaaDoorTie
import Derived.WalkKit
import Derived.ProofKit
import Derived.OpenShut
import Derived.ShutString
import Derived.ChangeOld
import Derived.Below
import Derived.SizedLaws
import Derived.Deep.DeepHandedRow
import Derived.Lib.LaidTab
import Derived.Test.YtgddljealeklkaaDoorTO4
-- PLx13
section
namespace Go.Proofs.YtgddljealeklkaaDoor.PL
attribute [local go_sem] Go.Proofs.YtgddljealeklkaaDoorM.fieldBits0 Go.Proofs.YtgddljealeklkaaDoorM.fieldBits1
open Go.Proofs.YtgddljealeklkaaDoorM (TabOk)
open Go.RowKit Go.Proofs.YtgddljealeklkaaDoorW.PrintWords Go.Proofs.YtgddljealeklkaaDoorW.PrintLast Go.Proofs.YtgddljealeklkaaDoorW.PrintMore
attribute [local go_sem] max2_int min2_int max_two min_two max_three min_three max_four min_four   -- for this text's walks alone
set_option linter.unusedVariables false
set_option linter.unusedSimpArgs false

mutual
def quarrylaw10_LevelsOwn.j0 : Nat → ByteArray → Int → Int → Bool → List (S34) → List (S34) → Option (Bool)
  | 0, _, _, _, _, _, _ => none
  | k + 1, x0, x1, x5, x40, x367000, x367001 => if x40 = true then (some false) else (if x5 < 0 then (some true) else ((levels_Depth.f x0 x1).bind fun t367 => ((levels_Colons.f x367000 x367001 (wrap64 (t367 + 1)) x1 x5).bind fun t368 => ((levels_Commas.f x367000 x367001 (wrap64 (t367 + 1)) x1 x5).bind fun t371 => (if (wrap64 (t367 + 1)) > 64 then (if (t368.length : Int) = 0 then (some ((t371.length : Int) == 0)) else (some false)) else ((marks_Index.f x0).bind fun t374 => (quarrylaw10_LevelsOwn.l0 k x0 x1 x5 (wrap64 (t367 + 1)) t368 t371 0 0 t374 (wrap64 (t367 + 1)) 0)))))))
def quarrylaw10_LevelsOwn.l0 : Nat → ByteArray → Int → Int → Int → List Int → List Int → Int → Int → List Int → Int → Int → Option (Bool)
  | 0, _, _, _, _, _, _, _, _, _, _, _ => none
  | k + 1, x0, x1, x5, x8, x9, x10, x11, x12, x13, x14, x15 => if x15 < (x13.length : Int) then (if 0 ≤ x15 then (if (rd x13 x15) < 0 then (quarrylaw10_LevelsOwn.j2 k x0 x1 x5 x8 x9 x10 x11 x12 x13 x14 x15 (rd x13 x15) true) else (quarrylaw10_LevelsOwn.j2 k x0 x1 x5 x8 x9 x10 x11 x12 x13 x14 x15 (rd x13 x15) (decide ((rd x13 x15) ≥ (x0.size : Int))))) else (none)) else (if x11 = (x9.length : Int) then (some (x12 == (x10.length : Int))) else (some false))
def quarrylaw10_LevelsOwn.j2 : Nat → ByteArray → Int → Int → Int → List Int → List Int → Int → Int → List Int → Int → Int → Int → Bool → Option (Bool)
  | 0, _, _, _, _, _, _, _, _, _, _, _, _, _ => none
  | k + 1, x0, x1, x5, x8, x9, x10, x11, x12, x13, x14, x15, x16, x89 => if x89 = true then (some false) else (if x16 ≤ x1 then (quarrylaw10_LevelsOwn.j3 k x0 x1 x5 x8 x9 x10 x11 x12 x13 x14 x15 x16 true) else (quarrylaw10_LevelsOwn.j3 k x0 x1 x5 x8 x9 x10 x11 x12 x13 x14 x15 x16 (decide (x16 ≥ x5))))
def quarrylaw10_LevelsOwn.j3 : Nat → ByteArray → Int → Int → Int → List Int → List Int → Int → Int → List Int → Int → Int → Int → Bool → Option (Bool)
  | 0, _, _, _, _, _, _, _, _, _, _, _, _, _ => none
  | k + 1, x0, x1, x5, x8, x9, x10, x11, x12, x13, x14, x15, x16, x97 => if x97 = true then (quarrylaw10_LevelsOwn.l0 k x0 x1 x5 x8 x9 x10 x11 x12 x13 x14 (wrap64 (x15 + 1))) else (if (wrap64 ((wrap64 ((x13.length : Int) / 64)) + 1)) = 0 then (none) else (if (Int.tmod x15 (wrap64 ((wrap64 ((x13.length : Int) / 64)) + 1))) = 0 then ((levels_Depth.f x0 x16).bind fun t378 => (quarrylaw10_LevelsOwn.j4 k x0 x1 x5 x8 x9 x10 x11 x12 x13 x14 x15 x16 (t378 != x14))) else (quarrylaw10_LevelsOwn.j4 k x0 x1 x5 x8 x9 x10 x11 x12 x13 x14 x15 x16 false)))
def quarrylaw10_LevelsOwn.j4 : Nat → ByteArray → Int → Int → Int → List Int → List Int → Int → Int → List Int → Int → Int → Int → Bool → Option (Bool)
  | 0, _, _, _, _, _, _, _, _, _, _, _, _, _ => none
  | k + 1, x0, x1, x5, x8, x9, x10, x11, x12, x13, x14, x15, x16, x111 => if x111 = true then (some false) else (if 0 ≤ x16 then (if x16 < (x0.size : Int) then (if (bt x0 x16) = 123 then (quarrylaw10_LevelsOwn.j5 k x0 x1 x5 x8 x9 x10 x11 x12 x13 x14 x15 x16 (bt x0 x16) ((bt x0 x16) == 123)) else (quarrylaw10_LevelsOwn.j5 k x0 x1 x5 x8 x9 x10 x11 x12 x13 x14 x15 x16 (bt x0 x16) ((bt x0 x16) == 91))) else (none)) else (none))
def quarrylaw10_LevelsOwn.j6 : Nat → ByteArray → Int → Int → Int → List Int → List Int → Int → Int → List Int → Int → Int → Int → Option (Bool)
  | 0, _, _, _, _, _, _, _, _, _, _, _, _ => none
  | k + 1, x0, x1, x5, x8, x9, x10, x11, x12, x13, x14, x15, x16 => if 0 ≤ x16 then (if x16 < (x0.size : Int) then (if (bt x0 x16) = 58 then (quarrylaw10_LevelsOwn.j7 k x0 x1 x5 x8 x9 x10 x11 x12 x13 x14 x15 x16 (x14 != x8)) else (if (bt x0 x16) = 44 then (quarrylaw10_LevelsOwn.j7 k x0 x1 x5 x8 x9 x10 x11 x12 x13 x14 x15 x16 (x14 != x8)) else (quarrylaw10_LevelsOwn.j7 k x0 x1 x5 x8 x9 x10 x11 x12 x13 x14 x15 x16 true))) else (none)) else (none)
def quarrylaw10_LevelsOwn.j7 : Nat → ByteArray → Int → Int → Int → List Int → List Int → Int → Int → List Int → Int → Int → Int → Bool → Option (Bool)
  | 0, _, _, _, _, _, _, _, _, _, _, _, _, _ => none
  | k + 1, x0, x1, x5, x8, x9, x10, x11, x12, x13, x14, x15, x16, x139 => if x139 = true then (quarrylaw10_LevelsOwn.l0 k x0 x1 x5 x8 x9 x10 x11 x12 x13 x14 (wrap64 (x15 + 1))) else (if 0 ≤ x16 then (if x16 < (x0.size : Int) then (if (bt x0 x16) = 58 then (if x11 ≥ (x9.length : Int) then (some false) else (if 0 ≤ x11 then (if x11 < (x9.length : Int) then (if (rd x9 x11) = x16 then (quarrylaw10_LevelsOwn.l0 k x0 x1 x5 x8 x9 x10 (wrap64 (x11 + 1)) x12 x13 x14 (wrap64 (x15 + 1))) else (some false)) else (none)) else (none))) else (if x12 ≥ (x10.length : Int) then (some false) else (if 0 ≤ x12 then (if x12 < (x10.length : Int) then (if (rd x10 x12) = x16 then (quarrylaw10_LevelsOwn.l0 k x0 x1 x5 x8 x9 x10 x11 (wrap64 (x12 + 1)) x13 x14 (wrap64 (x15 + 1))) else (some false)) else (none)) else (none)))) else (none)) else (none))
def quarrylaw10_LevelsOwn.j5 : Nat → ByteArray → Int → Int → Int → List Int → List Int → Int → Int → List Int → Int → Int → Int → Int → Bool → Option (Bool)
  | 0, _, _, _, _, _, _, _, _, _, _, _, _, _, _ => none
  | k + 1, x0, x1, x5, x8, x9, x10, x11, x12, x13, x14, x15, x16, x114, x115 => if x115 = true then (quarrylaw10_LevelsOwn.j6 k x0 x1 x5 x8 x9 x10 x11 x12 x13 (wrap64 (x14 + 1)) x15 x16) else (if x114 = 125 then (quarrylaw10_LevelsOwn.j6 k x0 x1 x5 x8 x9 x10 x11 x12 x13 (wrap64 (x14 - 1)) x15 x16) else (if x114 = 93 then (quarrylaw10_LevelsOwn.j6 k x0 x1 x5 x8 x9 x10 x11 x12 x13 (wrap64 (x14 - 1)) x15 x16) else (quarrylaw10_LevelsOwn.j6 k x0 x1 x5 x8 x9 x10 x11 x12 x13 x14 x15 x16)))
end
def quarrylaw10_LevelsOwn.f (k : Nat) (a0 : ByteArray) (a1 : Int) : Option (Bool) := (quarrylaw10_awake.f k).bind fun t357 => (if t357 = true then ((levels_Close.f k a0 a1).bind fun t358 => ((levels_Build.f a0 64).bind fun bt359 => (if bt359.2.2 = 0 then (if (bt359.1.length : Int) = 64 then (quarrylaw10_LevelsOwn.j0 k a0 a1 t358 ((bt359.2.1.length : Int) != 64) bt359.1 bt359.2.1) else (quarrylaw10_LevelsOwn.j0 k a0 a1 t358 true bt359.1 bt359.2.1)) else (quarrylaw10_LevelsOwn.j0 k a0 a1 t358 true bt359.1 bt359.2.1)))) else (some false))
theorem quarrylaw10_LevelsOwn.mono_l : ∀ k, (∀ y0 y1 y2 y3 y4 y5, LeO (quarrylaw10_LevelsOwn.j0 k y0 y1 y2 y3 y4 y5) (quarrylaw10_LevelsOwn.j0 (k + 1) y0 y1 y2 y3 y4 y5)) ∧ (∀ y0 y1 y2 y3 y4 y5 y6 y7 y8 y9 y10, LeO (quarrylaw10_LevelsOwn.l0 k y0 y1 y2 y3 y4 y5 y6 y7 y8 y9 y10) (quarrylaw10_LevelsOwn.l0 (k + 1) y0 y1 y2 y3 y4 y5 y6 y7 y8 y9 y10)) ∧ (∀ y0 y1 y2 y3 y4 y5 y6 y7 y8 y9 y10 y11 y12, LeO (quarrylaw10_LevelsOwn.j2 k y0 y1 y2 y3 y4 y5 y6 y7 y8 y9 y10 y11 y12) (quarrylaw10_LevelsOwn.j2 (k + 1) y0 y1 y2 y3 y4 y5 y6 y7 y8 y9 y10 y11 y12)) ∧ (∀ y0 y1 y2 y3 y4 y5 y6 y7 y8 y9 y10 y11 y12, LeO (quarrylaw10_LevelsOwn.j3 k y0 y1 y2 y3 y4 y5 y6 y7 y8 y9 y10 y11 y12) (quarrylaw10_LevelsOwn.j3 (k + 1) y0 y1 y2 y3 y4 y5 y6 y7 y8 y9 y10 y11 y12)) ∧ (∀ y0 y1 y2 y3 y4 y5 y6 y7 y8 y9 y10 y11 y12, LeO (quarrylaw10_LevelsOwn.j4 k y0 y1 y2 y3 y4 y5 y6 y7 y8 y9 y10 y11 y12) (quarrylaw10_LevelsOwn.j4 (k + 1) y0 y1 y2 y3 y4 y5 y6 y7 y8 y9 y10 y11 y12)) ∧ (∀ y0 y1 y2 y3 y4 y5 y6 y7 y8 y9 y10 y11, LeO (quarrylaw10_LevelsOwn.j6 k y0 y1 y2 y3 y4 y5 y6 y7 y8 y9 y10 y11) (quarrylaw10_LevelsOwn.j6 (k + 1) y0 y1 y2 y3 y4 y5 y6 y7 y8 y9 y10 y11)) ∧ (∀ y0 y1 y2 y3 y4 y5 y6 y7 y8 y9 y10 y11 y12, LeO (quarrylaw10_LevelsOwn.j7 k y0 y1 y2 y3 y4 y5 y6 y7 y8 y9 y10 y11 y12) (quarrylaw10_LevelsOwn.j7 (k + 1) y0 y1 y2 y3 y4 y5 y6 y7 y8 y9 y10 y11 y12)) ∧ (∀ y0 y1 y2 y3 y4 y5 y6 y7 y8 y9 y10 y11 y12 y13, LeO (quarrylaw10_LevelsOwn.j5 k y0 y1 y2 y3 y4 y5 y6 y7 y8 y9 y10 y11 y12 y13) (quarrylaw10_LevelsOwn.j5 (k + 1) y0 y1 y2 y3 y4 y5 y6 y7 y8 y9 y10 y11 y12 y13))
  | 0 => ⟨fun _ _ _ _ _ _ r h => by simp [quarrylaw10_LevelsOwn.j0] at h, fun _ _ _ _ _ _ _ _ _ _ _ r h => by simp [quarrylaw10_LevelsOwn.l0] at h, fun _ _ _ _ _ _ _ _ _ _ _ _ _ r h => by simp [quarrylaw10_LevelsOwn.j2] at h, fun _ _ _ _ _ _ _ _ _ _ _ _ _ r h => by simp [quarrylaw10_LevelsOwn.j3] at h, fun _ _ _ _ _ _ _ _ _ _ _ _ _ r h => by simp [quarrylaw10_LevelsOwn.j4] at h, fun _ _ _ _ _ _ _ _ _ _ _ _ r h => by simp [quarrylaw10_LevelsOwn.j6] at h, fun _ _ _ _ _ _ _ _ _ _ _ _ _ r h => by simp [quarrylaw10_LevelsOwn.j7] at h, fun _ _ _ _ _ _ _ _ _ _ _ _ _ _ r h => by simp [quarrylaw10_LevelsOwn.j5] at h⟩
  | k + 1 => by
    obtain ⟨ih0, ih1, ih2, ih3, ih4, ih5, ih6, ih7⟩ := quarrylaw10_LevelsOwn.mono_l k
    refine ⟨?_, ?_, ?_, ?_, ?_, ?_, ?_, ?_⟩
    · intro y0 y1 y2 y3 y4 y5
      unfold quarrylaw10_LevelsOwn.j0
      repeat' first
      | (with_reducible exact ih0 _ _ _ _ _ _)
      | (with_reducible exact ih1 _ _ _ _ _ _ _ _ _ _ _)
      | (with_reducible exact ih2 _ _ _ _ _ _ _ _ _ _ _ _ _)
      | (with_reducible exact ih3 _ _ _ _ _ _ _ _ _ _ _ _ _)
      | (with_reducible exact ih4 _ _ _ _ _ _ _ _ _ _ _ _ _)
      | (with_reducible exact ih5 _ _ _ _ _ _ _ _ _ _ _ _)
      | (with_reducible exact ih6 _ _ _ _ _ _ _ _ _ _ _ _ _)
      | (with_reducible exact ih7 _ _ _ _ _ _ _ _ _ _ _ _ _ _)
      | (with_reducible exact levels_Close.mono _ _ _)
      | (with_reducible exact quarrylaw10_awake.mono _)
      | (with_reducible exact LeO.refl _)
      | (with_reducible exact LeO.none _)
      | (with_reducible refine LeO.ite ?_ ?_)
      | (with_reducible refine LeO.bind ?_ (fun _ => ?_))
      | exact ih0 _ _ _ _ _ _
      | exact ih1 _ _ _ _ _ _ _ _ _ _ _
      | exact ih2 _ _ _ _ _ _ _ _ _ _ _ _ _
      | exact ih3 _ _ _ _ _ _ _ _ _ _ _ _ _
      | exact ih4 _ _ _ _ _ _ _ _ _ _ _ _ _
      | exact ih5 _ _ _ _ _ _ _ _ _ _ _ _
      | exact ih6 _ _ _ _ _ _ _ _ _ _ _ _ _
      | exact ih7 _ _ _ _ _ _ _ _ _ _ _ _ _ _
      | exact levels_Close.mono _ _ _
      | exact quarrylaw10_awake.mono _
      | exact LeO.none _
      | refine LeO.ite ?_ ?_
      | refine LeO.bind ?_ (fun _ => ?_)
    · intro y0 y1 y2 y3 y4 y5 y6 y7 y8 y9 y10
      unfold quarrylaw10_LevelsOwn.l0
      repeat' first
      | (with_reducible exact ih0 _ _ _ _ _ _)
      | (with_reducible exact ih1 _ _ _ _ _ _ _ _ _ _ _)
      | (with_reducible exact ih2 _ _ _ _ _ _ _ _ _ _ _ _ _)
      | (with_reducible exact ih3 _ _ _ _ _ _ _ _ _ _ _ _ _)
      | (with_reducible exact ih4 _ _ _ _ _ _ _ _ _ _ _ _ _)
      | (with_reducible exact ih5 _ _ _ _ _ _ _ _ _ _ _ _)
      | (with_reducible exact ih6 _ _ _ _ _ _ _ _ _ _ _ _ _)
      | (with_reducible exact ih7 _ _ _ _ _ _ _ _ _ _ _ _ _ _)
      | (with_reducible exact levels_Close.mono _ _ _)
      | (with_reducible exact quarrylaw10_awake.mono _)
      | (with_reducible exact LeO.refl _)
      | (with_reducible exact LeO.none _)
      | (with_reducible refine LeO.ite ?_ ?_)
      | (with_reducible refine LeO.bind ?_ (fun _ => ?_))
      | exact ih0 _ _ _ _ _ _
      | exact ih1 _ _ _ _ _ _ _ _ _ _ _
      | exact ih2 _ _ _ _ _ _ _ _ _ _ _ _ _
      | exact ih3 _ _ _ _ _ _ _ _ _ _ _ _ _
      | exact ih4 _ _ _ _ _ _ _ _ _ _ _ _ _
      | exact ih5 _ _ _ _ _ _ _ _ _ _ _ _
      | exact ih6 _ _ _ _ _ _ _ _ _ _ _ _ _
      | exact ih7 _ _ _ _ _ _ _ _ _ _ _ _ _ _
      | exact levels_Close.mono _ _ _
      | exact quarrylaw10_awake.mono _
      | exact LeO.none _
      | refine LeO.ite ?_ ?_
      | refine LeO.bind ?_ (fun _ => ?_)
    · intro y0 y1 y2 y3 y4 y5 y6 y7 y8 y9 y10 y11 y12
      unfold quarrylaw10_LevelsOwn.j2
      repeat' first
      | (with_reducible exact ih0 _ _ _ _ _ _)
      | (with_reducible exact ih1 _ _ _ _ _ _ _ _ _ _ _)
      | (with_reducible exact ih2 _ _ _ _ _ _ _ _ _ _ _ _ _)
      | (with_reducible exact ih3 _ _ _ _ _ _ _ _ _ _ _ _ _)
      | (with_reducible exact ih4 _ _ _ _ _ _ _ _ _ _ _ _ _)
      | (with_reducible exact ih5 _ _ _ _ _ _ _ _ _ _ _ _)
      | (with_reducible exact ih6 _ _ _ _ _ _ _ _ _ _ _ _ _)
      | (with_reducible exact ih7 _ _ _ _ _ _ _ _ _ _ _ _ _ _)
      | (with_reducible exact levels_Close.mono _ _ _)
      | (with_reducible exact quarrylaw10_awake.mono _)
      | (with_reducible exact LeO.refl _)
      | (with_reducible exact LeO.none _)
      | (with_reducible refine LeO.ite ?_ ?_)
      | (with_reducible refine LeO.bind ?_ (fun _ => ?_))
      | exact ih0 _ _ _ _ _ _
      | exact ih1 _ _ _ _ _ _ _ _ _ _ _
      | exact ih2 _ _ _ _ _ _ _ _ _ _ _ _ _
      | exact ih3 _ _ _ _ _ _ _ _ _ _ _ _ _
      | exact ih4 _ _ _ _ _ _ _ _ _ _ _ _ _
      | exact ih5 _ _ _ _ _ _ _ _ _ _ _ _
      | exact ih6 _ _ _ _ _ _ _ _ _ _ _ _ _
      | exact ih7 _ _ _ _ _ _ _ _ _ _ _ _ _ _
      | exact levels_Close.mono _ _ _
      | exact quarrylaw10_awake.mono _
      | exact LeO.none _
      | refine LeO.ite ?_ ?_
      | refine LeO.bind ?_ (fun _ => ?_)
    · intro y0 y1 y2 y3 y4 y5 y6 y7 y8 y9 y10 y11 y12
      unfold quarrylaw10_LevelsOwn.j3
      repeat' first
      | (with_reducible exact ih0 _ _ _ _ _ _)
      | (with_reducible exact ih1 _ _ _ _ _ _ _ _ _ _ _)
      | (with_reducible exact ih2 _ _ _ _ _ _ _ _ _ _ _ _ _)
      | (with_reducible exact ih3 _ _ _ _ _ _ _ _ _ _ _ _ _)
      | (with_reducible exact ih4 _ _ _ _ _ _ _ _ _ _ _ _ _)
      | (with_reducible exact ih5 _ _ _ _ _ _ _ _ _ _ _ _)
      | (with_reducible exact ih6 _ _ _ _ _ _ _ _ _ _ _ _ _)
      | (with_reducible exact ih7 _ _ _ _ _ _ _ _ _ _ _ _ _ _)
      | (with_reducible exact levels_Close.mono _ _ _)
      | (with_reducible exact quarrylaw10_awake.mono _)
      | (with_reducible exact LeO.refl _)
      | (with_reducible exact LeO.none _)
      | (with_reducible refine LeO.ite ?_ ?_)
      | (with_reducible refine LeO.bind ?_ (fun _ => ?_))
      | exact ih0 _ _ _ _ _ _
      | exact ih1 _ _ _ _ _ _ _ _ _ _ _
      | exact ih2 _ _ _ _ _ _ _ _ _ _ _ _ _
      | exact ih3 _ _ _ _ _ _ _ _ _ _ _ _ _
      | exact ih4 _ _ _ _ _ _ _ _ _ _ _ _ _
      | exact ih5 _ _ _ _ _ _ _ _ _ _ _ _
      | exact ih6 _ _ _ _ _ _ _ _ _ _ _ _ _
      | exact ih7 _ _ _ _ _ _ _ _ _ _ _ _ _ _
      | exact levels_Close.mono _ _ _
      | exact quarrylaw10_awake.mono _
      | exact LeO.none _
      | refine LeO.ite ?_ ?_
      | refine LeO.bind ?_ (fun _ => ?_)
    · intro y0 y1 y2 y3 y4 y5 y6 y7 y8 y9 y10 y11 y12
      unfold quarrylaw10_LevelsOwn.j4
      repeat' first
      | (with_reducible exact ih0 _ _ _ _ _ _)
      | (with_reducible exact ih1 _ _ _ _ _ _ _ _ _ _ _)
      | (with_reducible exact ih2 _ _ _ _ _ _ _ _ _ _ _ _ _)
      | (with_reducible exact ih3 _ _ _ _ _ _ _ _ _ _ _ _ _)
      | (with_reducible exact ih4 _ _ _ _ _ _ _ _ _ _ _ _ _)
      | (with_reducible exact ih5 _ _ _ _ _ _ _ _ _ _ _ _)
      | (with_reducible exact ih6 _ _ _ _ _ _ _ _ _ _ _ _ _)
      | (with_reducible exact ih7 _ _ _ _ _ _ _ _ _ _ _ _ _ _)
      | (with_reducible exact levels_Close.mono _ _ _)
      | (with_reducible exact quarrylaw10_awake.mono _)
      | (with_reducible exact LeO.refl _)
      | (with_reducible exact LeO.none _)
      | (with_reducible refine LeO.ite ?_ ?_)
      | (with_reducible refine LeO.bind ?_ (fun _ => ?_))
      | exact ih0 _ _ _ _ _ _
      | exact ih1 _ _ _ _ _ _ _ _ _ _ _
      | exact ih2 _ _ _ _ _ _ _ _ _ _ _ _ _
      | exact ih3 _ _ _ _ _ _ _ _ _ _ _ _ _
      | exact ih4 _ _ _ _ _ _ _ _ _ _ _ _ _
      | exact ih5 _ _ _ _ _ _ _ _ _ _ _ _
      | exact ih6 _ _ _ _ _ _ _ _ _ _ _ _ _
      | exact ih7 _ _ _ _ _ _ _ _ _ _ _ _ _ _
      | exact levels_Close.mono _ _ _
      | exact quarrylaw10_awake.mono _
      | exact LeO.none _
      | refine LeO.ite ?_ ?_
      | refine LeO.bind ?_ (fun _ => ?_)
    · intro y0 y1 y2 y3 y4 y5 y6 y7 y8 y9 y10 y11
      unfold quarrylaw10_LevelsOwn.j6
      repeat' first
      | (with_reducible exact ih0 _ _ _ _ _ _)
      | (with_reducible exact ih1 _ _ _ _ _ _ _ _ _ _ _)
      | (with_reducible exact ih2 _ _ _ _ _ _ _ _ _ _ _ _ _)
      | (with_reducible exact ih3 _ _ _ _ _ _ _ _ _ _ _ _ _)
      | (with_reducible exact ih4 _ _ _ _ _ _ _ _ _ _ _ _ _)
      | (with_reducible exact ih5 _ _ _ _ _ _ _ _ _ _ _ _)
      | (with_reducible exact ih6 _ _ _ _ _ _ _ _ _ _ _ _ _)
      | (with_reducible exact ih7 _ _ _ _ _ _ _ _ _ _ _ _ _ _)
      | (with_reducible exact levels_Close.mono _ _ _)
      | (with_reducible exact quarrylaw10_awake.mono _)
      | (with_reducible exact LeO.refl _)
      | (with_reducible exact LeO.none _)
      | (with_reducible refine LeO.ite ?_ ?_)
      | (with_reducible refine LeO.bind ?_ (fun _ => ?_))
      | exact ih0 _ _ _ _ _ _
      | exact ih1 _ _ _ _ _ _ _ _ _ _ _
      | exact ih2 _ _ _ _ _ _ _ _ _ _ _ _ _
      | exact ih3 _ _ _ _ _ _ _ _ _ _ _ _ _
      | exact ih4 _ _ _ _ _ _ _ _ _ _ _ _ _
      | exact ih5 _ _ _ _ _ _ _ _ _ _ _ _
      | exact ih6 _ _ _ _ _ _ _ _ _ _ _ _ _
      | exact ih7 _ _ _ _ _ _ _ _ _ _ _ _ _ _
      | exact levels_Close.mono _ _ _
      | exact quarrylaw10_awake.mono _
      | exact LeO.none _
      | refine LeO.ite ?_ ?_
      | refine LeO.bind ?_ (fun _ => ?_)
    · intro y0 y1 y2 y3 y4 y5 y6 y7 y8 y9 y10 y11 y12
      unfold quarrylaw10_LevelsOwn.j7
      repeat' first
      | (with_reducible exact ih0 _ _ _ _ _ _)
      | (with_reducible exact ih1 _ _ _ _ _ _ _ _ _ _ _)
      | (with_reducible exact ih2 _ _ _ _ _ _ _ _ _ _ _ _ _)
      | (with_reducible exact ih3 _ _ _ _ _ _ _ _ _ _ _ _ _)
      | (with_reducible exact ih4 _ _ _ _ _ _ _ _ _ _ _ _ _)
      | (with_reducible exact ih5 _ _ _ _ _ _ _ _ _ _ _ _)
      | (with_reducible exact ih6 _ _ _ _ _ _ _ _ _ _ _ _ _)
      | (with_reducible exact ih7 _ _ _ _ _ _ _ _ _ _ _ _ _ _)
      | (with_reducible exact levels_Close.mono _ _ _)
      | (with_reducible exact quarrylaw10_awake.mono _)
      | (with_reducible exact LeO.refl _)
      | (with_reducible exact LeO.none _)
      | (with_reducible refine LeO.ite ?_ ?_)
      | (with_reducible refine LeO.bind ?_ (fun _ => ?_))
      | exact ih0 _ _ _ _ _ _
      | exact ih1 _ _ _ _ _ _ _ _ _ _ _
      | exact ih2 _ _ _ _ _ _ _ _ _ _ _ _ _
      | exact ih3 _ _ _ _ _ _ _ _ _ _ _ _ _
      | exact ih4 _ _ _ _ _ _ _ _ _ _ _ _ _
      | exact ih5 _ _ _ _ _ _ _ _ _ _ _ _
      | exact ih6 _ _ _ _ _ _ _ _ _ _ _ _ _
      | exact ih7 _ _ _ _ _ _ _ _ _ _ _ _ _ _
      | exact levels_Close.mono _ _ _
      | exact quarrylaw10_awake.mono _
      | exact LeO.none _
      | refine LeO.ite ?_ ?_
      | refine LeO.bind ?_ (fun _ => ?_)
    · intro y0 y1 y2 y3 y4 y5 y6 y7 y8 y9 y10 y11 y12 y13
      unfold quarrylaw10_LevelsOwn.j5
      repeat' first
      | (with_reducible exact ih0 _ _ _ _ _ _)
      | (with_reducible exact ih1 _ _ _ _ _ _ _ _ _ _ _)
      | (with_reducible exact ih2 _ _ _ _ _ _ _ _ _ _ _ _ _)
      | (with_reducible exact ih3 _ _ _ _ _ _ _ _ _ _ _ _ _)
      | (with_reducible exact ih4 _ _ _ _ _ _ _ _ _ _ _ _ _)
      | (with_reducible exact ih5 _ _ _ _ _ _ _ _ _ _ _ _)
      | (with_reducible exact ih6 _ _ _ _ _ _ _ _ _ _ _ _ _)
      | (with_reducible exact ih7 _ _ _ _ _ _ _ _ _ _ _ _ _ _)
      | (with_reducible exact levels_Close.mono _ _ _)
      | (with_reducible exact quarrylaw10_awake.mono _)
      | (with_reducible exact LeO.refl _)
      | (with_reducible exact LeO.none _)
      | (with_reducible refine LeO.ite ?_ ?_)
      | (with_reducible refine LeO.bind ?_ (fun _ => ?_))
      | exact ih0 _ _ _ _ _ _
      | exact ih1 _ _ _ _ _ _ _ _ _ _ _
      | exact ih2 _ _ _ _ _ _ _ _ _ _ _ _ _
      | exact ih3 _ _ _ _ _ _ _ _ _ _ _ _ _
      | exact ih4 _ _ _ _ _ _ _ _ _ _ _ _ _
      | exact ih5 _ _ _ _ _ _ _ _ _ _ _ _
      | exact ih6 _ _ _ _ _ _ _ _ _ _ _ _ _
      | exact ih7 _ _ _ _ _ _ _ _ _ _ _ _ _ _
      | exact levels_Close.mono _ _ _
      | exact quarrylaw10_awake.mono _
      | exact LeO.none _
      | refine LeO.ite ?_ ?_
      | refine LeO.bind ?_ (fun _ => ?_)
theorem quarrylaw10_LevelsOwn.mono : ∀ a0 a1 k, LeO (quarrylaw10_LevelsOwn.f k a0 a1) (quarrylaw10_LevelsOwn.f (k + 1) a0 a1) := by
  intro a0 a1 k
  obtain ⟨ih0, ih1, ih2, ih3, ih4, ih5, ih6, ih7⟩ := quarrylaw10_LevelsOwn.mono_l k
  unfold quarrylaw10_LevelsOwn.f
  repeat' first
      | (with_reducible exact ih0 _ _ _ _ _ _)
      | (with_reducible exact ih1 _ _ _ _ _ _ _ _ _ _ _)
      | (with_reducible exact ih2 _ _ _ _ _ _ _ _ _ _ _ _ _)
      | (with_reducible exact ih3 _ _ _ _ _ _ _ _ _ _ _ _ _)
      | (with_reducible exact ih4 _ _ _ _ _ _ _ _ _ _ _ _ _)
      | (with_reducible exact ih5 _ _ _ _ _ _ _ _ _ _ _ _)
      | (with_reducible exact ih6 _ _ _ _ _ _ _ _ _ _ _ _ _)
      | (with_reducible exact ih7 _ _ _ _ _ _ _ _ _ _ _ _ _ _)
      | (with_reducible exact levels_Close.mono _ _ _)
      | (with_reducible exact quarrylaw10_awake.mono _)
      | (with_reducible exact LeO.refl _)
      | (with_reducible exact LeO.none _)
      | (with_reducible refine LeO.ite ?_ ?_)
      | (with_reducible refine LeO.bind ?_ (fun _ => ?_))
      | exact ih0 _ _ _ _ _ _
      | exact ih1 _ _ _ _ _ _ _ _ _ _ _
      | exact ih2 _ _ _ _ _ _ _ _ _ _ _ _ _
      | exact ih3 _ _ _ _ _ _ _ _ _ _ _ _ _
      | exact ih4 _ _ _ _ _ _ _ _ _ _ _ _ _
      | exact ih5 _ _ _ _ _ _ _ _ _ _ _ _
      | exact ih6 _ _ _ _ _ _ _ _ _ _ _ _ _
      | exact ih7 _ _ _ _ _ _ _ _ _ _ _ _ _ _
      | exact levels_Close.mono _ _ _
      | exact quarrylaw10_awake.mono _
      | exact LeO.none _
      | refine LeO.ite ?_ ?_
      | refine LeO.bind ?_ (fun _ => ?_)
def quarrylaw10_LevelsOwn.T10 : Bool × List (List Nat × List Nat) := (true, [([], []), ([], []), ([], []), ([], []), ([2, 3], [2, 3]), ([0, 1, 4], [0, 1, 4]), ([], []), ([], []), ([], []), ([], []), ([8, 9], [8, 9]), ([6, 7, 10, 5], [6, 7, 10]), ([5, 11, 0, 1, 2, 3, 4, 5], [5]), ([11, 12, 0, 1, 2, 3, 4, 5, 6, 7, 8, 9, 10, 11, 12], [11])])
def quarrylaw10_LevelsOwn.B10 : List Nat := [0, 0, 0, 0, 12, 31, 0, 0, 0, 0, 768, 2047, 4095, 8191]
theorem quarrylaw10_LevelsOwn.tab10 : rtab .any (opsOf Tryd.f10 10) = quarrylaw10_LevelsOwn.T10 := by kernel_rfl
theorem quarrylaw10_LevelsOwn.bits10 : waitsOk quarrylaw10_LevelsOwn.T10.2 quarrylaw10_LevelsOwn.B10 = true := by kernel_rfl
set_option maxHeartbeats 8000000 in
set_option maxRecDepth 100000 in
theorem quarrylaw10_LevelsOwn.calls (k : Nat) (a0 : ByteArray) (a1 : Int) (r : Bool) (w : World) (hT : TabOk w) (h : quarrylaw10_LevelsOwn.f k a0 a1 = some r) :
    Calls Tryd.prog 10 #[.string a0, .int .i64 a1] w fun e w' => e = .returned (.bool r) ∧ Below w.heap.size w w' := by
  have TK_ := Aside0.mk hT
  clear hT
  have hu48 := Tryd.underlying48
  have hu26 := Tryd.underlying26
  have HB := Aside0.mk (Below.refl w.heap.size w)
  have H : ((quarrylaw10_awake.f k).bind fun t357 => (if t357 = true then ((levels_Close.f k a0 a1).bind fun t358 => ((levels_Build.f a0 64).bind fun bt359 => (if bt359.2.2 = 0 then (if (bt359.1.length : Int) = 64 then (quarrylaw10_LevelsOwn.j0 k a0 a1 t358 ((bt359.2.1.length : Int) != 64) bt359.1 bt359.2.1) else (quarrylaw10_LevelsOwn.j0 k a0 a1 t358 true bt359.1 bt359.2.1)) else (quarrylaw10_LevelsOwn.j0 k a0 a1 t358 true bt359.1 bt359.2.1)))) else (some false))) = some r := h
  clear h
  replace H := Option.bind_eq_some_iff.mp H
  obtain ⟨t357, A30, H⟩ := H
  replace H : (if t357 = true then ((levels_Close.f k a0 a1).bind fun t358 => ((levels_Build.f a0 64).bind fun bt359 => (if bt359.2.2 = 0 then (if (bt359.1.length : Int) = 64 then (quarrylaw10_LevelsOwn.j0 k a0 a1 t358 ((bt359.2.1.length : Int) != 64) bt359.1 bt359.2.1) else (quarrylaw10_LevelsOwn.j0 k a0 a1 t358 true bt359.1 bt359.2.1)) else (quarrylaw10_LevelsOwn.j0 k a0 a1 t358 true bt359.1 bt359.2.1)))) else (some false)) = some r := H
  have A3 := Aside0.mk A30
  clear A30
  by_cases c4 : t357 = true
  · subst c4
    have H1 : ((levels_Close.f k a0 a1).bind fun t358 => ((levels_Build.f a0 64).bind fun bt359 => (if bt359.2.2 = 0 then (if (bt359.1.length : Int) = 64 then (quarrylaw10_LevelsOwn.j0 k a0 a1 t358 ((bt359.2.1.length : Int) != 64) bt359.1 bt359.2.1) else (quarrylaw10_LevelsOwn.j0 k a0 a1 t358 true bt359.1 bt359.2.1)) else (quarrylaw10_LevelsOwn.j0 k a0 a1 t358 true bt359.1 bt359.2.1)))) = some r := by rw [if_pos rfl] at H; exact H
    clear H
    have H := H1
    clear H1
    replace H := Option.bind_eq_some_iff.mp H
    obtain ⟨t358, A50, H⟩ := H
    replace H : ((levels_Build.f a0 64).bind fun bt359 => (if bt359.2.2 = 0 then (if (bt359.1.length : Int) = 64 then (quarrylaw10_LevelsOwn.j0 k a0 a1 t358 ((bt359.2.1.length : Int) != 64) bt359.1 bt359.2.1) else (quarrylaw10_LevelsOwn.j0 k a0 a1 t358 true bt359.1 bt359.2.1)) else (quarrylaw10_LevelsOwn.j0 k a0 a1 t358 true bt359.1 bt359.2.1))) = some r := H
    have A5 := Aside0.mk A50
    clear A50
    replace H := Option.bind_eq_some_iff.mp H
    obtain ⟨⟨t359, t362, t365⟩, A60, H⟩ := H
    replace H : (if t365 = 0 then (if (t359.length : Int) = 64 then (quarrylaw10_LevelsOwn.j0 k a0 a1 t358 ((t362.length : Int) != 64) t359 t362) else (quarrylaw10_LevelsOwn.j0 k a0 a1 t358 true t359 t362)) else (quarrylaw10_LevelsOwn.j0 k a0 a1 t358 true t359 t362)) = some r := H
    have A6 := Aside0.mk A60
    clear A60
    have HC7 := Aside0.mk H
    clear H
    go_enter Tryd.func10, Tryd.ntmps10
    go_upto_region 5 with (first | ((with_reducible refine gate_callee (f := 29) rfl ?_); refine goesL_ (some 17) rfl rfl Tryd.func29 (by kernel_rfl) rfl #[] rfl (by (try simp only [List.map_toArray, List.map_cons, List.map_nil]); first | done | rfl | (simp only [List.length_drop, List.length_take]; rfl)) ?_; (with_reducible refine (quarrylaw10_awake.calls k  true _ ?tabk A3.out).mono ?_); (case tabk => exact TK_.out.step (by repeat (first | (with_reducible first | exact HB.out | apply below_alloc | apply pw_below_drewN | apply below_drew1) | exact HB.out))); rintro e w8 ⟨rfl, hb⟩; refine ⟨_, rfl, ?_⟩; have n0_ := Aside0.mk (below_step (by repeat (first | (with_reducible first | exact HB.out | apply below_alloc | apply pw_below_drewN | apply below_drew1) | exact HB.out)) hb); clear HB; have HB := n0_; clear n0_; (try clear hb); (try clear hb2); (try clear hk); (try clear hi)) | ((with_reducible refine gate_callee (f := 39) rfl ?_); refine goesL_ (some 21) rfl rfl Tryd.func39 (by kernel_rfl) rfl #[.string a0, .int .i64 a1] rfl (by (try simp only [List.map_toArray, List.map_cons, List.map_nil]); first | done | rfl | (simp only [List.length_drop, List.length_take]; rfl)) ?_; (with_reducible refine (levels_Close.calls k a0 a1 t358 _ ?tabk A5.out).mono ?_); (case tabk => exact TK_.out.step (by repeat (first | (with_reducible first | exact HB.out | apply below_alloc | apply pw_below_drewN | apply below_drew1) | exact HB.out))); rintro e w9 ⟨rfl, hb⟩; refine ⟨_, rfl, ?_⟩; have n0_ := Aside0.mk (below_step (by repeat (first | (with_reducible first | exact HB.out | apply below_alloc | apply pw_below_drewN | apply below_drew1) | exact HB.out)) hb); clear HB; have HB := n0_; clear n0_; (try clear hb); (try clear hb2); (try clear hk); (try clear hi)) | ((with_reducible refine gate_callee (f := 28) rfl ?_); refine goesL_ (some 24) rfl rfl Tryd.func28 (by kernel_rfl) rfl #[.string a0, .int .i64 64] rfl (by (try simp only [List.map_toArray, List.map_cons, List.map_nil]); first | done | rfl | (simp only [List.length_drop, List.length_take]; rfl)) ?_; (with_reducible refine (levels_Build.calls a0 64 t359 t362 t365 _ ?tabk A6.out).mono ?_); (case tabk => exact TK_.out.step (by repeat (first | (with_reducible first | exact HB.out | apply below_alloc | apply pw_below_drewN | apply below_drew1) | exact HB.out))); rintro e w10 ⟨v360, v363, rfl, ho0, ho1, hb⟩; refine ⟨_, rfl, ?_⟩; have n0_ := Aside0.mk (Kd.S_lower ho0 (below_size (by repeat (first | (with_reducible first | exact HB.out | apply below_alloc | apply pw_below_drewN | apply below_drew1) | exact HB.out)))); have n1_ := Aside0.mk (Kd.S_lower ho1 (below_size (by repeat (first | (with_reducible first | exact HB.out | apply below_alloc | apply pw_below_drewN | apply below_drew1) | exact HB.out)))); have n2_ := Aside0.mk (below_step (by repeat (first | (with_reducible first | exact HB.out | apply below_alloc | apply pw_below_drewN | apply below_drew1) | exact HB.out)) hb); clear HB; have HO361 := n0_; have HO364 := n1_; have HB := n2_; clear n0_ n1_ n2_; (try clear hb); (try clear hb2); (try clear hk); (try clear hi); (try clear ho0); (try clear ho1)) | ((with_reducible refine gate_dst (N := 6) rfl ?_); (try (refine gate_guard (by rfl) ?_; dsimp only)); refine box_event ?hg (N := 6) ?hd (cs := #[.slice none 0 0, .slice none 0 0]) (t := 48) ?hr ?_; (case hd => rfl); (case hg => rfl); (case hr => first | (go_simp; done) | (go_simp; rfl)); intro gb366 hg w11 hbox hb; have n0_ := Aside0.mk (Kd.S_below (by (with_reducible repeat (first | apply Kd.S_alloc | apply Kd.S_drewN | apply Kd.S_drew)); exact HO361.out) hb); have n1_ := Aside0.mk (Kd.S_below (by (with_reducible repeat (first | apply Kd.S_alloc | apply Kd.S_drewN | apply Kd.S_drew)); exact HO364.out) hb); have n2_ := Aside0.mk (below_step (by repeat (first | (with_reducible first | exact HB.out | apply below_alloc | apply pw_below_drewN | apply below_drew1) | exact HB.out)) hb); have n3_ := Aside0.mk (hbox); have n4_ := Aside0.mk ((by rw [hg]; exact (below_size (by repeat (first | (with_reducible first | exact HB.out | apply below_alloc | apply pw_below_drewN | apply below_drew1) | exact HB.out))) : w.heap.size ≤ gb366)); have n5_ := Aside0.mk ((by rw [hg]; exact (below_size (by repeat (first | (with_reducible first | exact HB.out | apply below_alloc | apply pw_below_drewN | apply below_drew1) | exact HB.out))) : w.heap.size ≤ gb366)); clear HO361; clear HO364; clear HB; have HO361 := n0_; have HO364 := n1_; have HB := n2_; have BK366 := n3_; have GW366 := n4_; have GE366 := n5_; clear n0_ n1_ n2_ n3_ n4_ n5_; clear hb hbox hg; obtain ⟨Ao12, co12, eo12⟩ := Kd.S_slice HO361.out; subst eo12; have hcz13_0 : w11.cell? ⟨gb366, 0, none⟩ = some (.slice none 0 0) := (blk_cell BK366.out 0).trans rfl; have hcz13_1 : w11.cell? ⟨gb366, 1, none⟩ = some (.slice none 0 0) := (blk_cell BK366.out 1).trans rfl; have hfz13_0 := blk_frozen BK366.out 0; have hfz13_1 := blk_frozen BK366.out 1; obtain ⟨Ao14, co14, eo14⟩ := Kd.S_slice HO364.out; subst eo14))
    (try simp only [Act.put, List.setIfInBounds_toArray, List.set_cons_zero, List.set_cons_succ])
    go_cut [40] (fun v40 wc => ∃ (kq : Nat) (x40_6 : Bool), v40 = .bool x40_6 ∧ Aside0 (quarrylaw10_LevelsOwn.j0 kq a0 a1 t358 x40_6 t359 t362 = some r) ∧ Aside0 (kq ≤ k) ∧ Aside0 (Kd.S k34 34 wc w.heap.size (fun k_ => some k_ ≠ ((.slice Ao14 t362.length co14) : Value).ownBlock) (.slice Ao12 t359.length co12) t359) ∧ Aside0 (Kd.S k34 34 wc w.heap.size (fun k_ => some k_ ≠ ((.slice Ao12 t359.length co12) : Value).ownBlock) (.slice Ao14 t362.length co14) t362) ∧ Aside0 (wc.heap[gb366]? = some (.cells #[(.slice Ao12 t359.length co12), (.slice Ao14 t362.length co14)] 48 (0, 0))) ∧ Aside0 (Below w.heap.size w wc))
    case first =>
      have H := HC7.out
      clear HC7
      by_cases c15 : t365 = 0
      · rw [if_pos c15] at H
        have c15b0 : (t365 == 0) = true := beq_iff_eq.mpr c15
        have c15b1 : (t365 != 0) = false := bne_eq_false_iff_eq.mpr c15
        clear c15
        (first | rw [c15b0] | (simp only [i64_w, i32_w]; rw [c15b0]) | skip)
        by_cases c16 : (t359.length : Int) = 64
        · rw [if_pos c16] at H
          have c16b0 : ((t359.length : Int) == 64) = true := beq_iff_eq.mpr c16
          have c16b1 : ((t359.length : Int) != 64) = false := bne_eq_false_iff_eq.mpr c16
          clear c16
          have H' := Aside0.mk H
          clear H
          have hcz17_0 : w11.cell? ⟨gb366, 0, none⟩ = some (.slice none 0 0) := (blk_cell BK366.out 0).trans rfl
          have hcz17_1 : w11.cell? ⟨gb366, 1, none⟩ = some (.slice none 0 0) := (blk_cell BK366.out 1).trans rfl
          have hfz17_0 := blk_frozen BK366.out 0
          have hfz17_1 := blk_frozen BK366.out 1
          go_wp2
          go_meet
          case rel => exact ⟨_, (((t362.length : Int) != 64)), (by first | rfl | (simp; done) | (simp [*]; done)), H', ⟨by first | omega | exact Nat.le_refl _⟩, ⟨by (with_reducible repeat (first | apply Kd.S_alloc | apply Kd.S_drewN | apply Kd.S_drew)); exact Kd.S_mono (Kd.S_far (p := ⟨gb366, 1, none⟩) (Kd.S_far (p := ⟨gb366, 0, none⟩) (Kd.S_types HO361.out BK366.out (by decide)) (fun _ hk => hk.2) (.slice Ao12 t359.length co12)) (fun _ hk => hk.2) (.slice Ao14 t362.length co14)) (fun _ hk => hk.1)⟩, ⟨by (with_reducible repeat (first | apply Kd.S_alloc | apply Kd.S_drewN | apply Kd.S_drew)); exact Kd.S_mono (Kd.S_far (p := ⟨gb366, 1, none⟩) (Kd.S_far (p := ⟨gb366, 0, none⟩) (Kd.S_types HO364.out BK366.out (by decide)) (fun _ hk => hk.2) (.slice Ao12 t359.length co12)) (fun _ hk => hk.2) (.slice Ao14 t362.length co14)) (fun _ hk => hk.1)⟩, ⟨by (with_reducible repeat (first | refine blk_drewN ?_ _ | refine blk_drew ?_ | refine blk_alloc ?_ _)); refine blk_put (cs := #[.slice Ao12 t359.length co12, .slice none 0 0]) ?_ 1 _ rfl; (with_reducible repeat (first | refine blk_drewN ?_ _ | refine blk_drew ?_ | refine blk_alloc ?_ _)); refine blk_put (cs := #[.slice none 0 0, .slice none 0 0]) ?_ 0 _ rfl; (with_reducible repeat (first | refine blk_drewN ?_ _ | refine blk_drew ?_ | refine blk_alloc ?_ _)); exact BK366.out⟩, ⟨by repeat (first | (with_reducible first | exact HB.out | apply below_alloc | apply pw_below_drewN | apply below_drew1 | refine below_set ?_ GE366.out) | exact HB.out)⟩⟩
        · rw [if_neg c16] at H
          have c16b0 : ((t359.length : Int) == 64) = false := beq_eq_false_iff_ne.mpr c16
          have c16b1 : ((t359.length : Int) != 64) = true := bne_iff_ne.mpr c16
          have H' := Aside0.mk H
          clear H
          have hcz18_0 : w11.cell? ⟨gb366, 0, none⟩ = some (.slice none 0 0) := (blk_cell BK366.out 0).trans rfl
          have hcz18_1 : w11.cell? ⟨gb366, 1, none⟩ = some (.slice none 0 0) := (blk_cell BK366.out 1).trans rfl
          have hfz18_0 := blk_frozen BK366.out 0
          have hfz18_1 := blk_frozen BK366.out 1
          go_wp2
          go_meet
          case rel => exact ⟨_, (true), (by first | rfl | (simp; done) | (simp [*]; done)), H', ⟨by first | omega | exact Nat.le_refl _⟩, ⟨by (with_reducible repeat (first | apply Kd.S_alloc | apply Kd.S_drewN | apply Kd.S_drew)); exact Kd.S_mono (Kd.S_far (p := ⟨gb366, 1, none⟩) (Kd.S_far (p := ⟨gb366, 0, none⟩) (Kd.S_types HO361.out BK366.out (by decide)) (fun _ hk => hk.2) (.slice Ao12 t359.length co12)) (fun _ hk => hk.2) (.slice Ao14 t362.length co14)) (fun _ hk => hk.1)⟩, ⟨by (with_reducible repeat (first | apply Kd.S_alloc | apply Kd.S_drewN | apply Kd.S_drew)); exact Kd.S_mono (Kd.S_far (p := ⟨gb366, 1, none⟩) (Kd.S_far (p := ⟨gb366, 0, none⟩) (Kd.S_types HO364.out BK366.out (by decide)) (fun _ hk => hk.2) (.slice Ao12 t359.length co12)) (fun _ hk => hk.2) (.slice Ao14 t362.length co14)) (fun _ hk => hk.1)⟩, ⟨by (with_reducible repeat (first | refine blk_drewN ?_ _ | refine blk_drew ?_ | refine blk_alloc ?_ _)); refine blk_put (cs := #[.slice Ao12 t359.length co12, .slice none 0 0]) ?_ 1 _ rfl; (with_reducible repeat (first | refine blk_drewN ?_ _ | refine blk_drew ?_ | refine blk_alloc ?_ _)); refine blk_put (cs := #[.slice none 0 0, .slice none 0 0]) ?_ 0 _ rfl; (with_reducible repeat (first | refine blk_drewN ?_ _ | refine blk_drew ?_ | refine blk_alloc ?_ _)); exact BK366.out⟩, ⟨by repeat (first | (with_reducible first | exact HB.out | apply below_alloc | apply pw_below_drewN | apply below_drew1 | refine below_set ?_ GE366.out) | exact HB.out)⟩⟩
      · rw [if_neg c15] at H
        have c15b0 : (t365 == 0) = false := beq_eq_false_iff_ne.mpr c15
        have c15b1 : (t365 != 0) = true := bne_iff_ne.mpr c15
        (first | rw [c15b0] | (simp only [i64_w, i32_w]; rw [c15b0]) | skip)
        have H' := Aside0.mk H
        clear H
        go_wp2
        go_meet
        case rel => exact ⟨_, (true), (by first | rfl | (simp; done) | (simp [*]; done)), H', ⟨by first | omega | exact Nat.le_refl _⟩, ⟨by (with_reducible repeat (first | apply Kd.S_alloc | apply Kd.S_drewN | apply Kd.S_drew)); exact Kd.S_mono (Kd.S_far (p := ⟨gb366, 1, none⟩) (Kd.S_far (p := ⟨gb366, 0, none⟩) (Kd.S_types HO361.out BK366.out (by decide)) (fun _ hk => hk.2) (.slice Ao12 t359.length co12)) (fun _ hk => hk.2) (.slice Ao14 t362.length co14)) (fun _ hk => hk.1)⟩, ⟨by (with_reducible repeat (first | apply Kd.S_alloc | apply Kd.S_drewN | apply Kd.S_drew)); exact Kd.S_mono (Kd.S_far (p := ⟨gb366, 1, none⟩) (Kd.S_far (p := ⟨gb366, 0, none⟩) (Kd.S_types HO364.out BK366.out (by decide)) (fun _ hk => hk.2) (.slice Ao12 t359.length co12)) (fun _ hk => hk.2) (.slice Ao14 t362.length co14)) (fun _ hk => hk.1)⟩, ⟨by (with_reducible repeat (first | refine blk_drewN ?_ _ | refine blk_drew ?_ | refine blk_alloc ?_ _)); refine blk_put (cs := #[.slice Ao12 t359.length co12, .slice none 0 0]) ?_ 1 _ rfl; (with_reducible repeat (first | refine blk_drewN ?_ _ | refine blk_drew ?_ | refine blk_alloc ?_ _)); refine blk_put (cs := #[.slice none 0 0, .slice none 0 0]) ?_ 0 _ rfl; (with_reducible repeat (first | refine blk_drewN ?_ _ | refine blk_drew ?_ | refine blk_alloc ?_ _)); exact BK366.out⟩, ⟨by repeat (first | (with_reducible first | exact HB.out | apply below_alloc | apply pw_below_drewN | apply below_drew1 | refine below_set ?_ GE366.out) | exact HB.out)⟩⟩
    case rest =>
      clear HC7
      try clear c1
      try clear c2
      try clear p2
      try clear c3
      try clear c4
      try clear c10
      try clear c15
      try clear c15b0
      try clear c15b1
      try clear c16
      try clear c16b0
      try clear c16b1
      try clear hcz13_0
      try clear hcz13_1
      try clear hcz17_0
      try clear hcz17_1
      try clear hcz18_0
      try clear hcz18_1
      try clear hfz13_0
      try clear hfz13_1
      try clear hfz17_0
      try clear hfz17_1
      try clear hfz18_0
      try clear hfz18_1
      obtain ⟨kq, x40_6, rfl, HA, HJ6, HO_367000, HO_367001, BK366, HB⟩ := hcut
      cases kq with
      | zero => exact absurd HA.out (by simp [quarrylaw10_LevelsOwn.j0])
      | succ kj6 =>
        have H := HA.out
        clear HA
        simp only [quarrylaw10_LevelsOwn.j0] at H
        by_cases c19 : x40_6 = true
        · subst c19
          have H1 : (some false) = some r := by rw [if_pos rfl] at H; exact H
          clear H
          have H := H1
          clear H1
          obtain rfl := Option.some.inj H
          go_wp2
          go_ret
          exact ⟨by first | rfl | (simp [errW_none, errW_some] <;> rfl) | (simp [*, errW_none, errW_some] <;> rfl), by repeat (first | (with_reducible first | exact HB.out | apply below_alloc | apply pw_below_drewN | apply below_drew1 | refine below_set ?_ GE366.out) | exact HB.out)⟩
        · replace c19 := Bool.eq_false_iff.mpr c19
          subst c19
          have H1 : (if t358 < 0 then (some true) else ((levels_Depth.f a0 a1).bind fun t367 => ((levels_Colons.f t359 t362 (wrap64 (t367 + 1)) a1 t358).bind fun t368 => ((levels_Commas.f t359 t362 (wrap64 (t367 + 1)) a1 t358).bind fun t371 => (if (wrap64 (t367 + 1)) > 64 then (if (t368.length : Int) = 0 then (some ((t371.length : Int) == 0)) else (some false)) else ((marks_Index.f a0).bind fun t374 => (quarrylaw10_LevelsOwn.l0 kj6 a0 a1 t358 (wrap64 (t367 + 1)) t368 t371 0 0 t374 (wrap64 (t367 + 1)) 0))))))) = some r := by rw [if_neg (show ¬ (false = true) by decide)] at H; exact H
          clear H
          have H := H1
          clear H1
          by_cases c20 : t358 < 0
          · rw [if_pos c20] at H
            have c20b0 : decide (t358 < 0) = true := decide_eq_true c20
            clear c20
            obtain rfl := Option.some.inj H
            go_wp2
            go_ret
            exact ⟨by first | rfl | (simp [errW_none, errW_some] <;> rfl) | (simp [*, errW_none, errW_some] <;> rfl), by repeat (first | (with_reducible first | exact HB.out | apply below_alloc | apply pw_below_drewN | apply below_drew1 | refine below_set ?_ GE366.out) | exact HB.out)⟩
          · rw [if_neg c20] at H
            have c20b0 : decide (t358 < 0) = false := decide_eq_false c20
            clear c20
            replace H := Option.bind_eq_some_iff.mp H
            obtain ⟨t367, A210, H⟩ := H
            replace H : ((levels_Colons.f t359 t362 (wrap64 (t367 + 1)) a1 t358).bind fun t368 => ((levels_Commas.f t359 t362 (wrap64 (t367 + 1)) a1 t358).bind fun t371 => (if (wrap64 (t367 + 1)) > 64 then (if (t368.length : Int) = 0 then (some ((t371.length : Int) == 0)) else (some false)) else ((marks_Index.f a0).bind fun t374 => (quarrylaw10_LevelsOwn.l0 kj6 a0 a1 t358 (wrap64 (t367 + 1)) t368 t371 0 0 t374 (wrap64 (t367 + 1)) 0))))) = some r := H
            have A21 := Aside0.mk A210
            clear A210
            replace H := Option.bind_eq_some_iff.mp H
            obtain ⟨t368, A220, H⟩ := H
            replace H : ((levels_Commas.f t359 t362 (wrap64 (t367 + 1)) a1 t358).bind fun t371 => (if (wrap64 (t367 + 1)) > 64 then (if (t368.length : Int) = 0 then (some ((t371.length : Int) == 0)) else (some false)) else ((marks_Index.f a0).bind fun t374 => (quarrylaw10_LevelsOwn.l0 kj6 a0 a1 t358 (wrap64 (t367 + 1)) t368 t371 0 0 t374 (wrap64 (t367 + 1)) 0)))) = some r := H
            have A22 := Aside0.mk A220
            clear A220
            replace H := Option.bind_eq_some_iff.mp H
            obtain ⟨t371, A230, H⟩ := H
            replace H : (if (wrap64 (t367 + 1)) > 64 then (if (t368.length : Int) = 0 then (some ((t371.length : Int) == 0)) else (some false)) else ((marks_Index.f a0).bind fun t374 => (quarrylaw10_LevelsOwn.l0 kj6 a0 a1 t358 (wrap64 (t367 + 1)) t368 t371 0 0 t374 (wrap64 (t367 + 1)) 0))) = some r := H
            have A23 := Aside0.mk A230
            clear A230
            by_cases c24 : (wrap64 (t367 + 1)) > 64
            · rw [if_pos c24] at H
              have c24b0 : decide (64 < (wrap64 (t367 + 1))) = true := decide_eq_true c24
              clear c24
              by_cases c25 : (t368.length : Int) = 0
              · rw [if_pos c25] at H
                have c25b0 : ((t368.length : Int) == 0) = true := beq_iff_eq.mpr c25
                have c25b1 : ((t368.length : Int) != 0) = false := bne_eq_false_iff_eq.mpr c25
                clear c25
                obtain rfl := Option.some.inj H
                try go_wp2_with (first | ((with_reducible refine gate_callee (f := 37) rfl ?_); refine goesL_ (some 45) rfl rfl Tryd.func37 (by kernel_rfl) rfl #[.string a0, .int .i64 a1] rfl (by (try simp only [List.map_toArray, List.map_cons, List.map_nil]); first | done | rfl | (simp only [List.length_drop, List.length_take]; rfl)) ?_; (with_reducible refine (levels_Depth.calls a0 a1 t367 _ ?tabk A21.out).mono ?_); (case tabk => exact TK_.out.step (by repeat (first | (with_reducible first | exact HB.out | apply below_alloc | apply pw_below_drewN | apply below_drew1 | refine below_set ?_ GE366.out) | exact HB.out))); rintro e w26 ⟨rfl, hb⟩; refine ⟨_, rfl, ?_⟩; have n0_ := Aside0.mk (Kd.S_below (by (with_reducible repeat (first | apply Kd.S_alloc | apply Kd.S_drewN | apply Kd.S_drew)); exact HO_367000.out) hb); have n1_ := Aside0.mk (Kd.S_below (by (with_reducible repeat (first | apply Kd.S_alloc | apply Kd.S_drewN | apply Kd.S_drew)); exact HO_367001.out) hb); have n2_ := Aside0.mk (blk_below (g := gb366) (o := .cells #[.slice Ao12 t359.length co12, .slice Ao14 t362.length co14] 48 (0, 0)) (by (with_reducible repeat (first | refine blk_drewN ?_ _ | refine blk_drew ?_ | refine blk_alloc ?_ _)); exact BK366.out) hb); have n3_ := Aside0.mk (below_step (by repeat (first | (with_reducible first | exact HB.out | apply below_alloc | apply pw_below_drewN | apply below_drew1 | refine below_set ?_ GE366.out) | exact HB.out)) hb); clear HO_367000; clear HO_367001; clear BK366; clear HB; have HO_367000 := n0_; have HO_367001 := n1_; have BK366 := n2_; have HB := n3_; clear n0_ n1_ n2_ n3_; (try clear hb); (try clear hb2); (try clear hk); (try clear hi)))
                have n0_ := Aside0.mk (Kd.S_drew HO_367000.out)
                have n1_ := Aside0.mk (Kd.S_drew HO_367001.out)
                have n2_ := Aside0.mk (blk_drew BK366.out)
                have n3_ := Aside0.mk (below_drew1 HB.out)
                clear HO_367000
                clear HO_367001
                clear BK366
                clear HB
                have HO_367000 := n0_
                have HO_367001 := n1_
                have BK366 := n2_
                have HB := n3_
                clear n0_ n1_ n2_ n3_
                refine start_ (n := 14) (S := fun w' => w'.cell? ⟨gb366, 0, none⟩ = some (.slice Ao12 t359.length co12) ∧ w'.cell? ⟨gb366, 1, none⟩ = some (.slice Ao14 t362.length co14)) (ds := []) #[false, false, false, false, false, false, false, false, false, false, false, false, false, false] (by kernel_rfl) rfl rfl ⟨(blk_cell BK366.out 0).trans rfl, (blk_cell BK366.out 1).trans rfl⟩ (fun hHeld => ?_); refine with_tabW quarrylaw10_LevelsOwn.tab10 quarrylaw10_LevelsOwn.bits10 (fun HT_ HW_ => ?_)
                generalize w26.drew = w27 at HO_367000 HO_367001 BK366 HB hHeld ⊢
                refine pure_ (i := 1) (N := some 48) (v := ?_) (a' := ?_) #[false, true, false, false, false, false, false, false, false, false, false, false, false, false] rfl rfl (any_of HT_.out (by kernel_rfl)) (fun _ _ _ h => h) (Or.inl ⟨by rfl, ?_⟩) ?_ ?_
                rotate_left
                · intro w'
                  go_simp
                  with_reducible rfl
                rotate_left
                · simp only [Act.put, List.setIfInBounds_toArray, List.set_cons_zero, List.set_cons_succ, i64_w, i32_w]
                  rfl
                refine pure_ (i := 2) (N := some 49) (v := ?_) (a' := ?_) #[false, true, true, false, false, false, false, false, false, false, false, false, false, false] rfl rfl (any_of HT_.out (by kernel_rfl)) (fun _ _ _ h => h) (Or.inl ⟨by rfl, ?_⟩) ?_ ?_
                rotate_left
                · intro w'
                  go_simp
                  with_reducible rfl
                rotate_left
                · simp only [Act.put, List.setIfInBounds_toArray, List.set_cons_zero, List.set_cons_succ, i64_w, i32_w]
                  rfl
                refine pure_ (i := 3) (N := some 50) (v := ?_) (a' := ?_) #[false, true, true, true, false, false, false, false, false, false, false, false, false, false] rfl rfl (any_of HT_.out (by kernel_rfl)) (fun _ _ _ h => h) (Or.inl ⟨by rfl, ?_⟩) ?_ ?_
                rotate_left
                · intro w'
                  go_simp
                  with_reducible rfl
                rotate_left
                · simp only [Act.put, List.setIfInBounds_toArray, List.set_cons_zero, List.set_cons_succ, i64_w, i32_w]
                  rfl
                refine pure_ (i := 4) (N := some 51) (v := ?_) (a' := ?_) #[false, true, true, true, true, false, false, false, false, false, false, false, false, false] rfl rfl (any_of HT_.out (by kernel_rfl)) (fun _ _ _ h => h) (Or.inl ⟨by rfl, ?_⟩) ?_ ?_
                rotate_left
                · intro w'
                  go_simp
                  with_reducible rfl
                rotate_left
                · simp only [Act.put, List.setIfInBounds_toArray, List.set_cons_zero, List.set_cons_succ, i64_w, i32_w]
                  rfl
                refine pure_ (i := 7) (N := some 54) (v := ?_) (a' := ?_) #[false, true, true, true, true, false, false, true, false, false, false, false, false, false] rfl rfl (any_of HT_.out (by kernel_rfl)) (fun _ _ _ h => h) (Or.inl ⟨by rfl, ?_⟩) ?_ ?_
                rotate_left
                · intro w'
                  go_simp
                  with_reducible rfl
                rotate_left
                · simp only [Act.put, List.setIfInBounds_toArray, List.set_cons_zero, List.set_cons_succ, i64_w, i32_w]
                  rfl
                refine pure_ (i := 8) (N := some 55) (v := ?_) (a' := ?_) #[false, true, true, true, true, false, false, true, true, false, false, false, false, false] rfl rfl (any_of HT_.out (by kernel_rfl)) (fun _ _ _ h => h) (Or.inl ⟨by rfl, ?_⟩) ?_ ?_
                rotate_left
                · intro w'
                  go_simp
                  with_reducible rfl
                rotate_left
                · simp only [Act.put, List.setIfInBounds_toArray, List.set_cons_zero, List.set_cons_succ, i64_w, i32_w]
                  rfl
                refine pure_ (i := 9) (N := some 56) (v := ?_) (a' := ?_) #[false, true, true, true, true, false, false, true, true, true, false, false, false, false] rfl rfl (any_of HT_.out (by kernel_rfl)) (fun _ _ _ h => h) (Or.inl ⟨by rfl, ?_⟩) ?_ ?_
                rotate_left
                · intro w'
                  go_simp
                  with_reducible rfl
                rotate_left
                · simp only [Act.put, List.setIfInBounds_toArray, List.set_cons_zero, List.set_cons_succ, i64_w, i32_w]
                  rfl
                refine pure_ (i := 10) (N := some 57) (v := ?_) (a' := ?_) #[false, true, true, true, true, false, false, true, true, true, true, false, false, false] rfl rfl (any_of HT_.out (by kernel_rfl)) (fun _ _ _ h => h) (Or.inl ⟨by rfl, ?_⟩) ?_ ?_
                rotate_left
                · intro w'
                  go_simp
                  with_reducible rfl
                rotate_left
                · simp only [Act.put, List.setIfInBounds_toArray, List.set_cons_zero, List.set_cons_succ, i64_w, i32_w]
                  rfl
                refine take_ (i := 0) (N := some 47) (v := ?_) (a' := ?_) #[true, true, true, true, true, false, false, true, true, true, true, false, false, false] rfl rfl (take_ofW HT_.out HW_.out (by kernel_rfl)) (fun _ _ _ h => h) (Or.inl ⟨by rfl, ?_⟩) hHeld ?_ ?_
                rotate_left
                · rintro w' ⟨s0, s1⟩
                  go_simp
                  with_reducible rfl
                rotate_left
                · simp only [Act.put, List.setIfInBounds_toArray, List.set_cons_zero, List.set_cons_succ, i64_w, i32_w]
                  rfl
                refine take_ (i := 6) (N := some 53) (v := ?_) (a' := ?_) #[true, true, true, true, true, false, true, true, true, true, true, false, false, false] rfl rfl (take_ofW HT_.out HW_.out (by kernel_rfl)) (fun _ _ _ h => h) (Or.inl ⟨by rfl, ?_⟩) hHeld ?_ ?_
                rotate_left
                · rintro w' ⟨s0, s1⟩
                  go_simp
                  with_reducible rfl
                rotate_left
                · simp only [Act.put, List.setIfInBounds_toArray, List.set_cons_zero, List.set_cons_succ, i64_w, i32_w]
                  rfl
                refine one_ (i := 5) (N := some 52) #[true, true, true, true, true, true, true, true, true, true, true, false, false, false] rfl rfl (one_of HT_.out (by kernel_rfl)) (by decide) (fun K hK => ?_)
                refine goes_ Tryd.func33 (by kernel_rfl) rfl #[.agg #[.slice Ao12 t359.length co12, .slice Ao14 t362.length co14], .int .i64 (wrap64 (t367 + 1)), .agg #[.int .i64 a1, .int .i64 t358]] (by rfl) rfl rfl (by (try simp only [List.map_toArray, List.map_cons, List.map_nil]); first | done | rfl | (simp only [List.length_drop, List.length_take]; rfl)) ?_
                with_reducible refine (levels_Colons.calls _ _ t359 _ _ t362 (wrap64 (t367 + 1)) a1 t358 t368 _ ?tabk ?side1 ?side2 ?side3 ?side4 A22.out).mono ?_
                (case tabk => exact TK_.out.step (by repeat (first | (with_reducible first | exact HB.out | apply below_alloc | apply pw_below_drewN | apply below_drew1 | refine below_set ?_ GE366.out) | exact HB.out)))
                (case side1 => repeat (first | exact (Kd.S_reads' HO_367000.out).2.2 | (with_reducible refine Kd.C_alloc ?_ _) | (with_reducible refine Kd.C_drewN ?_ _) | (with_reducible refine Kd.C_drew ?_)))
                (case side2 => exact (Kd.S_reads' HO_367000.out).2.1)
                (case side3 => repeat (first | exact (Kd.S_reads' HO_367001.out).2.2 | (with_reducible refine Kd.C_alloc ?_ _) | (with_reducible refine Kd.C_drewN ?_ _) | (with_reducible refine Kd.C_drew ?_)))
                (case side4 => exact (Kd.S_reads' HO_367001.out).2.1)
                rintro e w28 ⟨v369, rfl, ho0, hb⟩
                refine ⟨_, rfl, ?_⟩
                have n0_ := Aside0.mk (Kd.S_below (by (with_reducible repeat (first | apply Kd.S_alloc | apply Kd.S_drewN | apply Kd.S_drew)); exact HO_367000.out) hb)
                have n1_ := Aside0.mk (Kd.S_below (by (with_reducible repeat (first | apply Kd.S_alloc | apply Kd.S_drewN | apply Kd.S_drew)); exact HO_367001.out) hb)
                have n2_ := Aside0.mk (Kd.R_lower ho0 (below_size (by repeat (first | (with_reducible first | exact HB.out | apply below_alloc | apply pw_below_drewN | apply below_drew1 | refine below_set ?_ GE366.out) | exact HB.out))))
                have n3_ := Aside0.mk (blk_below (g := gb366) (o := .cells #[.slice Ao12 t359.length co12, .slice Ao14 t362.length co14] 48 (0, 0)) (by (with_reducible repeat (first | refine blk_drewN ?_ _ | refine blk_drew ?_ | refine blk_alloc ?_ _)); exact BK366.out) hb)
                have n4_ := Aside0.mk (below_step (by repeat (first | (with_reducible first | exact HB.out | apply below_alloc | apply pw_below_drewN | apply below_drew1 | refine below_set ?_ GE366.out) | exact HB.out)) hb)
                clear HO_367000
                clear HO_367001
                clear BK366
                clear HB
                have HO_367000 := n0_
                have HO_367001 := n1_
                have HO370 := n2_
                have BK366 := n3_
                have HB := n4_
                clear n0_ n1_ n2_ n3_ n4_
                (try clear hb)
                (try clear hb2)
                (try clear hk)
                (try clear hi)
                (try clear ho0)
                refine hK.out _ _ ⟨(blk_cell BK366.out 0).trans rfl, (blk_cell BK366.out 1).trans rfl⟩ (fun hHeld => ?_)
                clear hK K
                refine norm_ (a' := ?_) ?_ ?_
                rotate_left
                · show Act.put _ (some 52) _ = _
                  simp only [Act.put, List.setIfInBounds_toArray, List.set_cons_zero, List.set_cons_succ, i64_w, i32_w]
                  rfl
                refine one_ (i := 11) (N := some 58) #[true, true, true, true, true, true, true, true, true, true, true, true, false, false] rfl rfl (one_of HT_.out (by kernel_rfl)) (by decide) (fun K hK => ?_)
                refine goes_ Tryd.func34 (by kernel_rfl) rfl #[.agg #[.slice Ao12 t359.length co12, .slice Ao14 t362.length co14], .int .i64 (wrap64 (t367 + 1)), .agg #[.int .i64 a1, .int .i64 t358]] (by rfl) rfl rfl (by (try simp only [List.map_toArray, List.map_cons, List.map_nil]); first | done | rfl | (simp only [List.length_drop, List.length_take]; rfl)) ?_
                with_reducible refine (levels_Commas.calls _ _ t359 _ _ t362 (wrap64 (t367 + 1)) a1 t358 t371 _ ?tabk ?side1 ?side2 ?side3 ?side4 A23.out).mono ?_
                (case tabk => exact TK_.out.step (by repeat (first | (with_reducible first | exact HB.out | apply below_alloc | apply pw_below_drewN | apply below_drew1 | refine below_set ?_ GE366.out) | exact HB.out)))
                (case side1 => repeat (first | exact (Kd.S_reads' HO_367000.out).2.2 | (with_reducible refine Kd.C_alloc ?_ _) | (with_reducible refine Kd.C_drewN ?_ _) | (with_reducible refine Kd.C_drew ?_)))
                (case side2 => exact (Kd.S_reads' HO_367000.out).2.1)
                (case side3 => repeat (first | exact (Kd.S_reads' HO_367001.out).2.2 | (with_reducible refine Kd.C_alloc ?_ _) | (with_reducible refine Kd.C_drewN ?_ _) | (with_reducible refine Kd.C_drew ?_)))
                (case side4 => exact (Kd.S_reads' HO_367001.out).2.1)
                rintro e w29 ⟨v372, rfl, ho0, hb⟩
                refine ⟨_, rfl, ?_⟩
                have n0_ := Aside0.mk (Kd.S_below (by (with_reducible repeat (first | apply Kd.S_alloc | apply Kd.S_drewN | apply Kd.S_drew)); exact HO_367000.out) hb)
                have n1_ := Aside0.mk (Kd.S_below (by (with_reducible repeat (first | apply Kd.S_alloc | apply Kd.S_drewN | apply Kd.S_drew)); exact HO_367001.out) hb)
                have n2_ := Aside0.mk (Kd.R_elder' (by (with_reducible repeat (first | apply Kd.R_alloc | apply Kd.R_drewN | apply Kd.R_drew)); exact HO370.out) (Kd.R_base ho0) hb)
                have n3_ := Aside0.mk (Kd.R_lower (Kd.R_new' ho0 (Kd.R_lt (by (with_reducible repeat (first | apply Kd.R_alloc | apply Kd.R_drewN | apply Kd.R_drew)); exact HO370.out))) (below_size (by repeat (first | (with_reducible first | exact HB.out | apply below_alloc | apply pw_below_drewN | apply below_drew1 | refine below_set ?_ GE366.out) | exact HB.out))))
                have n4_ := Aside0.mk (blk_below (g := gb366) (o := .cells #[.slice Ao12 t359.length co12, .slice Ao14 t362.length co14] 48 (0, 0)) (by (with_reducible repeat (first | refine blk_drewN ?_ _ | refine blk_drew ?_ | refine blk_alloc ?_ _)); exact BK366.out) hb)
                have n5_ := Aside0.mk (below_step (by repeat (first | (with_reducible first | exact HB.out | apply below_alloc | apply pw_below_drewN | apply below_drew1 | refine below_set ?_ GE366.out) | exact HB.out)) hb)
                clear HO_367000
                clear HO_367001
                clear HO370
                clear BK366
                clear HB
                have HO_367000 := n0_
                have HO_367001 := n1_
                have HO370 := n2_
                have HO373 := n3_
                have BK366 := n4_
                have HB := n5_
                clear n0_ n1_ n2_ n3_ n4_ n5_
                (try clear hb)
                (try clear hb2)
                (try clear hk)
                (try clear hi)
                (try clear ho0)
                refine hK.out _ _ ⟨(blk_cell BK366.out 0).trans rfl, (blk_cell BK366.out 1).trans rfl⟩ (fun hHeld => ?_)
                clear hK K
                refine norm_ (a' := ?_) ?_ ?_
                rotate_left
                · show Act.put _ (some 58) _ = _
                  simp only [Act.put, List.setIfInBounds_toArray, List.set_cons_zero, List.set_cons_succ, i64_w, i32_w]
                  rfl
                refine pure_ (i := 12) (N := some 9) (v := ?_) (a' := ?_) #[true, true, true, true, true, true, true, true, true, true, true, true, true, false] rfl rfl (any_of HT_.out (by kernel_rfl)) (fun _ _ _ h => h) (Or.inl ⟨by rfl, ?_⟩) ?_ ?_
                rotate_left
                · intro w'
                  go_simp
                  with_reducible rfl
                rotate_left
                · simp only [Act.put, List.setIfInBounds_toArray, List.set_cons_zero, List.set_cons_succ, i64_w, i32_w]
                  rfl
                refine pure_ (i := 13) (N := some 10) (v := ?_) (a' := ?_) #[true, true, true, true, true, true, true, true, true, true, true, true, true, true] rfl rfl (any_of HT_.out (by kernel_rfl)) (fun _ _ _ h => h) (Or.inl ⟨by rfl, ?_⟩) ?_ ?_
                rotate_left
                · intro w'
                  go_simp
                  with_reducible rfl
                rotate_left
                · simp only [Act.put, List.setIfInBounds_toArray, List.set_cons_zero, List.set_cons_succ, i64_w, i32_w]
                  rfl
                refine done_ (done_of HT_.out (by kernel_rfl)) ?_
                obtain ⟨Ao30, co30, eo30⟩ := Kd.R_slice HO370.out
                subst eo30
                obtain ⟨Ao31, co31, eo31⟩ := Kd.R_slice HO373.out
                subst eo31
                try go_wp2
                go_ret
                exact ⟨by first | rfl | (simp [errW_none, errW_some] <;> rfl) | (simp [*, errW_none, errW_some] <;> rfl), by repeat (first | (with_reducible first | exact HB.out | apply below_alloc | apply pw_below_drewN | apply below_drew1 | refine below_set ?_ GE366.out) | exact HB.out)⟩
              · rw [if_neg c25] at H
                have c25b0 : ((t368.length : Int) == 0) = false := beq_eq_false_iff_ne.mpr c25
                have c25b1 : ((t368.length : Int) != 0) = true := bne_iff_ne.mpr c25
                have c25b2 : ¬ (t368 = []) := fun h_ => c25 (by rw [h_]; rfl)
                obtain rfl := Option.some.inj H
                try go_wp2_with (first | ((with_reducible refine gate_callee (f := 37) rfl ?_); refine goesL_ (some 45) rfl rfl Tryd.func37 (by kernel_rfl) rfl #[.string a0, .int .i64 a1] rfl (by (try simp only [List.map_toArray, List.map_cons, List.map_nil]); first | done | rfl | (simp only [List.length_drop, List.length_take]; rfl)) ?_; (with_reducible refine (levels_Depth.calls a0 a1 t367 _ ?tabk A21.out).mono ?_); (case tabk => exact TK_.out.step (by repeat (first | (with_reducible first | exact HB.out | apply below_alloc | apply pw_below_drewN | apply below_drew1 | refine below_set ?_ GE366.out) | exact HB.out))); rintro e w32 ⟨rfl, hb⟩; refine ⟨_, rfl, ?_⟩; have n0_ := Aside0.mk (Kd.S_below (by (with_reducible repeat (first | apply Kd.S_alloc | apply Kd.S_drewN | apply Kd.S_drew)); exact HO_367000.out) hb); have n1_ := Aside0.mk (Kd.S_below (by (with_reducible repeat (first | apply Kd.S_alloc | apply Kd.S_drewN | apply Kd.S_drew)); exact HO_367001.out) hb); have n2_ := Aside0.mk (blk_below (g := gb366) (o := .cells #[.slice Ao12 t359.length co12, .slice Ao14 t362.length co14] 48 (0, 0)) (by (with_reducible repeat (first | refine blk_drewN ?_ _ | refine blk_drew ?_ | refine blk_alloc ?_ _)); exact BK366.out) hb); have n3_ := Aside0.mk (below_step (by repeat (first | (with_reducible first | exact HB.out | apply below_alloc | apply pw_below_drewN | apply below_drew1 | refine below_set ?_ GE366.out) | exact HB.out)) hb); clear HO_367000; clear HO_367001; clear BK366; clear HB; have HO_367000 := n0_; have HO_367001 := n1_; have BK366 := n2_; have HB := n3_; clear n0_ n1_ n2_ n3_; (try clear hb); (try clear hb2); (try clear hk); (try clear hi)))
                have n0_ := Aside0.mk (Kd.S_drew HO_367000.out)
                have n1_ := Aside0.mk (Kd.S_drew HO_367001.out)
                have n2_ := Aside0.mk (blk_drew BK366.out)
                have n3_ := Aside0.mk (below_drew1 HB.out)
                clear HO_367000
                clear HO_367001
                clear BK366
                clear HB
                have HO_367000 := n0_
                have HO_367001 := n1_
                have BK366 := n2_
                have HB := n3_
                clear n0_ n1_ n2_ n3_
                refine start_ (n := 14) (S := fun w' => w'.cell? ⟨gb366, 0, none⟩ = some (.slice Ao12 t359.length co12) ∧ w'.cell? ⟨gb366, 1, none⟩ = some (.slice Ao14 t362.length co14)) (ds := []) #[false, false, false, false, false, false, false, false, false, false, false, false, false, false] (by kernel_rfl) rfl rfl ⟨(blk_cell BK366.out 0).trans rfl, (blk_cell BK366.out 1).trans rfl⟩ (fun hHeld => ?_); refine with_tabW quarrylaw10_LevelsOwn.tab10 quarrylaw10_LevelsOwn.bits10 (fun HT_ HW_ => ?_)
                generalize w32.drew = w33 at HO_367000 HO_367001 BK366 HB hHeld ⊢
                refine pure_ (i := 1) (N := some 48) (v := ?_) (a' := ?_) #[false, true, false, false, false, false, false, false, false, false, false, false, false, false] rfl rfl (any_of HT_.out (by kernel_rfl)) (fun _ _ _ h => h) (Or.inl ⟨by rfl, ?_⟩) ?_ ?_
                rotate_left
                · intro w'
                  go_simp
                  with_reducible rfl
                rotate_left
                · simp only [Act.put, List.setIfInBounds_toArray, List.set_cons_zero, List.set_cons_succ, i64_w, i32_w]
                  rfl
                refine pure_ (i := 2) (N := some 49) (v := ?_) (a' := ?_) #[false, true, true, false, false, false, false, false, false, false, false, false, false, false] rfl rfl (any_of HT_.out (by kernel_rfl)) (fun _ _ _ h => h) (Or.inl ⟨by rfl, ?_⟩) ?_ ?_
                rotate_left
                · intro w'
                  go_simp
                  with_reducible rfl
                rotate_left
                · simp only [Act.put, List.setIfInBounds_toArray, List.set_cons_zero, List.set_cons_succ, i64_w, i32_w]
                  rfl
                refine pure_ (i := 3) (N := some 50) (v := ?_) (a' := ?_) #[false, true, true, true, false, false, false, false, false, false, false, false, false, false] rfl rfl (any_of HT_.out (by kernel_rfl)) (fun _ _ _ h => h) (Or.inl ⟨by rfl, ?_⟩) ?_ ?_
                rotate_left
                · intro w'
                  go_simp
                  with_reducible rfl
                rotate_left
                · simp only [Act.put, List.setIfInBounds_toArray, List.set_cons_zero, List.set_cons_succ, i64_w, i32_w]
                  rfl
                refine pure_ (i := 4) (N := some 51) (v := ?_) (a' := ?_) #[false, true, true, true, true, false, false, false, false, false, false, false, false, false] rfl rfl (any_of HT_.out (by kernel_rfl)) (fun _ _ _ h => h) (Or.inl ⟨by rfl, ?_⟩) ?_ ?_
                rotate_left
                · intro w'
                  go_simp
                  with_reducible rfl
                rotate_left
                · simp only [Act.put, List.setIfInBounds_toArray, List.set_cons_zero, List.set_cons_succ, i64_w, i32_w]
                  rfl
                refine pure_ (i := 7) (N := some 54) (v := ?_) (a' := ?_) #[false, true, true, true, true, false, false, true, false, false, false, false, false, false] rfl rfl (any_of HT_.out (by kernel_rfl)) (fun _ _ _ h => h) (Or.inl ⟨by rfl, ?_⟩) ?_ ?_
                rotate_left
                · intro w'
                  go_simp
                  with_reducible rfl
                rotate_left
                · simp only [Act.put, List.setIfInBounds_toArray, List.set_cons_zero, List.set_cons_succ, i64_w, i32_w]
                  rfl
                refine pure_ (i := 8) (N := some 55) (v := ?_) (a' := ?_) #[false, true, true, true, true, false, false, true, true, false, false, false, false, false] rfl rfl (any_of HT_.out (by kernel_rfl)) (fun _ _ _ h => h) (Or.inl ⟨by rfl, ?_⟩) ?_ ?_
                rotate_left
                · intro w'
                  go_simp
                  with_reducible rfl
                rotate_left
                · simp only [Act.put, List.setIfInBounds_toArray, List.set_cons_zero, List.set_cons_succ, i64_w, i32_w]
                  rfl
                refine pure_ (i := 9) (N := some 56) (v := ?_) (a' := ?_) #[false, true, true, true, true, false, false, true, true, true, false, false, false, false] rfl rfl (any_of HT_.out (by kernel_rfl)) (fun _ _ _ h => h) (Or.inl ⟨by rfl, ?_⟩) ?_ ?_
                rotate_left
                · intro w'
                  go_simp
                  with_reducible rfl
                rotate_left
                · simp only [Act.put, List.setIfInBounds_toArray, List.set_cons_zero, List.set_cons_succ, i64_w, i32_w]
                  rfl
                refine pure_ (i := 10) (N := some 57) (v := ?_) (a' := ?_) #[false, true, true, true, true, false, false, true, true, true, true, false, false, false] rfl rfl (any_of HT_.out (by kernel_rfl)) (fun _ _ _ h => h) (Or.inl ⟨by rfl, ?_⟩) ?_ ?_
                rotate_left
                · intro w'
                  go_simp
                  with_reducible rfl
                rotate_left
                · simp only [Act.put, List.setIfInBounds_toArray, List.set_cons_zero, List.set_cons_succ, i64_w, i32_w]
                  rfl
                refine take_ (i := 0) (N := some 47) (v := ?_) (a' := ?_) #[true, true, true, true, true, false, false, true, true, true, true, false, false, false] rfl rfl (take_ofW HT_.out HW_.out (by kernel_rfl)) (fun _ _ _ h => h) (Or.inl ⟨by rfl, ?_⟩) hHeld ?_ ?_
                rotate_left
                · rintro w' ⟨s0, s1⟩
                  go_simp
                  with_reducible rfl
                rotate_left
                · simp only [Act.put, List.setIfInBounds_toArray, List.set_cons_zero, List.set_cons_succ, i64_w, i32_w]
                  rfl
                refine take_ (i := 6) (N := some 53) (v := ?_) (a' := ?_) #[true, true, true, true, true, false, true, true, true, true, true, false, false, false] rfl rfl (take_ofW HT_.out HW_.out (by kernel_rfl)) (fun _ _ _ h => h) (Or.inl ⟨by rfl, ?_⟩) hHeld ?_ ?_
                rotate_left
                · rintro w' ⟨s0, s1⟩
                  go_simp
                  with_reducible rfl
                rotate_left
                · simp only [Act.put, List.setIfInBounds_toArray, List.set_cons_zero, List.set_cons_succ, i64_w, i32_w]
                  rfl
                refine one_ (i := 5) (N := some 52) #[true, true, true, true, true, true, true, true, true, true, true, false, false, false] rfl rfl (one_of HT_.out (by kernel_rfl)) (by decide) (fun K hK => ?_)
                refine goes_ Tryd.func33 (by kernel_rfl) rfl #[.agg #[.slice Ao12 t359.length co12, .slice Ao14 t362.length co14], .int .i64 (wrap64 (t367 + 1)), .agg #[.int .i64 a1, .int .i64 t358]] (by rfl) rfl rfl (by (try simp only [List.map_toArray, List.map_cons, List.map_nil]); first | done | rfl | (simp only [List.length_drop, List.length_take]; rfl)) ?_
                with_reducible refine (levels_Colons.calls _ _ t359 _ _ t362 (wrap64 (t367 + 1)) a1 t358 t368 _ ?tabk ?side1 ?side2 ?side3 ?side4 A22.out).mono ?_
                (case tabk => exact TK_.out.step (by repeat (first | (with_reducible first | exact HB.out | apply below_alloc | apply pw_below_drewN | apply below_drew1 | refine below_set ?_ GE366.out) | exact HB.out)))
                (case side1 => repeat (first | exact (Kd.S_reads' HO_367000.out).2.2 | (with_reducible refine Kd.C_alloc ?_ _) | (with_reducible refine Kd.C_drewN ?_ _) | (with_reducible refine Kd.C_drew ?_)))
                (case side2 => exact (Kd.S_reads' HO_367000.out).2.1)
                (case side3 => repeat (first | exact (Kd.S_reads' HO_367001.out).2.2 | (with_reducible refine Kd.C_alloc ?_ _) | (with_reducible refine Kd.C_drewN ?_ _) | (with_reducible refine Kd.C_drew ?_)))
                (case side4 => exact (Kd.S_reads' HO_367001.out).2.1)
                rintro e w34 ⟨v369, rfl, ho0, hb⟩
                refine ⟨_, rfl, ?_⟩
                have n0_ := Aside0.mk (Kd.S_below (by (with_reducible repeat (first | apply Kd.S_alloc | apply Kd.S_drewN | apply Kd.S_drew)); exact HO_367000.out) hb)
                have n1_ := Aside0.mk (Kd.S_below (by (with_reducible repeat (first | apply Kd.S_alloc | apply Kd.S_drewN | apply Kd.S_drew)); exact HO_367001.out) hb)
                have n2_ := Aside0.mk (Kd.R_lower ho0 (below_size (by repeat (first | (with_reducible first | exact HB.out | apply below_alloc | apply pw_below_drewN | apply below_drew1 | refine below_set ?_ GE366.out) | exact HB.out))))
                have n3_ := Aside0.mk (blk_below (g := gb366) (o := .cells #[.slice Ao12 t359.length co12, .slice Ao14 t362.length co14] 48 (0, 0)) (by (with_reducible repeat (first | refine blk_drewN ?_ _ | refine blk_drew ?_ | refine blk_alloc ?_ _)); exact BK366.out) hb)
                have n4_ := Aside0.mk (below_step (by repeat (first | (with_reducible first | exact HB.out | apply below_alloc | apply pw_below_drewN | apply below_drew1 | refine below_set ?_ GE366.out) | exact HB.out)) hb)
                clear HO_367000
                clear HO_367001
                clear BK366
                clear HB
                have HO_367000 := n0_
                have HO_367001 := n1_
                have HO370 := n2_
                have BK366 := n3_
                have HB := n4_
                clear n0_ n1_ n2_ n3_ n4_
                (try clear hb)
                (try clear hb2)
                (try clear hk)
                (try clear hi)
                (try clear ho0)
                refine hK.out _ _ ⟨(blk_cell BK366.out 0).trans rfl, (blk_cell BK366.out 1).trans rfl⟩ (fun hHeld => ?_)
                clear hK K
                refine norm_ (a' := ?_) ?_ ?_
                rotate_left
                · show Act.put _ (some 52) _ = _
                  simp only [Act.put, List.setIfInBounds_toArray, List.set_cons_zero, List.set_cons_succ, i64_w, i32_w]
                  rfl
                refine one_ (i := 11) (N := some 58) #[true, true, true, true, true, true, true, true, true, true, true, true, false, false] rfl rfl (one_of HT_.out (by kernel_rfl)) (by decide) (fun K hK => ?_)
                refine goes_ Tryd.func34 (by kernel_rfl) rfl #[.agg #[.slice Ao12 t359.length co12, .slice Ao14 t362.length co14], .int .i64 (wrap64 (t367 + 1)), .agg #[.int .i64 a1, .int .i64 t358]] (by rfl) rfl rfl (by (try simp only [List.map_toArray, List.map_cons, List.map_nil]); first | done | rfl | (simp only [List.length_drop, List.length_take]; rfl)) ?_
                with_reducible refine (levels_Commas.calls _ _ t359 _ _ t362 (wrap64 (t367 + 1)) a1 t358 t371 _ ?tabk ?side1 ?side2 ?side3 ?side4 A23.out).mono ?_
                (case tabk => exact TK_.out.step (by repeat (first | (with_reducible first | exact HB.out | apply below_alloc | apply pw_below_drewN | apply below_drew1 | refine below_set ?_ GE366.out) | exact HB.out)))
                (case side1 => repeat (first | exact (Kd.S_reads' HO_367000.out).2.2 | (with_reducible refine Kd.C_alloc ?_ _) | (with_reducible refine Kd.C_drewN ?_ _) | (with_reducible refine Kd.C_drew ?_)))
                (case side2 => exact (Kd.S_reads' HO_367000.out).2.1)
                (case side3 => repeat (first | exact (Kd.S_reads' HO_367001.out).2.2 | (with_reducible refine Kd.C_alloc ?_ _) | (with_reducible refine Kd.C_drewN ?_ _) | (with_reducible refine Kd.C_drew ?_)))
                (case side4 => exact (Kd.S_reads' HO_367001.out).2.1)
                rintro e w35 ⟨v372, rfl, ho0, hb⟩
                refine ⟨_, rfl, ?_⟩
                have n0_ := Aside0.mk (Kd.S_below (by (with_reducible repeat (first | apply Kd.S_alloc | apply Kd.S_drewN | apply Kd.S_drew)); exact HO_367000.out) hb)
                have n1_ := Aside0.mk (Kd.S_below (by (with_reducible repeat (first | apply Kd.S_alloc | apply Kd.S_drewN | apply Kd.S_drew)); exact HO_367001.out) hb)
                have n2_ := Aside0.mk (Kd.R_elder' (by (with_reducible repeat (first | apply Kd.R_alloc | apply Kd.R_drewN | apply Kd.R_drew)); exact HO370.out) (Kd.R_base ho0) hb)
                have n3_ := Aside0.mk (Kd.R_lower (Kd.R_new' ho0 (Kd.R_lt (by (with_reducible repeat (first | apply Kd.R_alloc | apply Kd.R_drewN | apply Kd.R_drew)); exact HO370.out))) (below_size (by repeat (first | (with_reducible first | exact HB.out | apply below_alloc | apply pw_below_drewN | apply below_drew1 | refine below_set ?_ GE366.out) | exact HB.out))))
                have n4_ := Aside0.mk (blk_below (g := gb366) (o := .cells #[.slice Ao12 t359.length co12, .slice Ao14 t362.length co14] 48 (0, 0)) (by (with_reducible repeat (first | refine blk_drewN ?_ _ | refine blk_drew ?_ | refine blk_alloc ?_ _)); exact BK366.out) hb)
                have n5_ := Aside0.mk (below_step (by repeat (first | (with_reducible first | exact HB.out | apply below_alloc | apply pw_below_drewN | apply below_drew1 | refine below_set ?_ GE366.out) | exact HB.out)) hb)
                clear HO_367000
                clear HO_367001
                clear HO370
                clear BK366
                clear HB
                have HO_367000 := n0_
                have HO_367001 := n1_
                have HO370 := n2_
                have HO373 := n3_
                have BK366 := n4_
                have HB := n5_
                clear n0_ n1_ n2_ n3_ n4_ n5_
                (try clear hb)
                (try clear hb2)
                (try clear hk)
                (try clear hi)
                (try clear ho0)
                refine hK.out _ _ ⟨(blk_cell BK366.out 0).trans rfl, (blk_cell BK366.out 1).trans rfl⟩ (fun hHeld => ?_)
                clear hK K
                refine norm_ (a' := ?_) ?_ ?_
                rotate_left
                · show Act.put _ (some 58) _ = _
                  simp only [Act.put, List.setIfInBounds_toArray, List.set_cons_zero, List.set_cons_succ, i64_w, i32_w]
                  rfl
                refine pure_ (i := 12) (N := some 9) (v := ?_) (a' := ?_) #[true, true, true, true, true, true, true, true, true, true, true, true, true, false] rfl rfl (any_of HT_.out (by kernel_rfl)) (fun _ _ _ h => h) (Or.inl ⟨by rfl, ?_⟩) ?_ ?_
                rotate_left
                · intro w'
                  go_simp
                  with_reducible rfl
                rotate_left
                · simp only [Act.put, List.setIfInBounds_toArray, List.set_cons_zero, List.set_cons_succ, i64_w, i32_w]
                  rfl
                refine pure_ (i := 13) (N := some 10) (v := ?_) (a' := ?_) #[true, true, true, true, true, true, true, true, true, true, true, true, true, true] rfl rfl (any_of HT_.out (by kernel_rfl)) (fun _ _ _ h => h) (Or.inl ⟨by rfl, ?_⟩) ?_ ?_
                rotate_left
                · intro w'
                  go_simp
                  with_reducible rfl
                rotate_left
                · simp only [Act.put, List.setIfInBounds_toArray, List.set_cons_zero, List.set_cons_succ, i64_w, i32_w]
                  rfl
                refine done_ (done_of HT_.out (by kernel_rfl)) ?_
                obtain ⟨Ao36, co36, eo36⟩ := Kd.R_slice HO370.out
                subst eo36
                try go_wp2
                go_ret
                exact ⟨by first | rfl | (simp [errW_none, errW_some] <;> rfl) | (simp [*, errW_none, errW_some] <;> rfl), by repeat (first | (with_reducible first | exact HB.out | apply below_alloc | apply pw_below_drewN | apply below_drew1 | refine below_set ?_ GE366.out) | exact HB.out)⟩
            · rw [if_neg c24] at H
              have c24b0 : decide (64 < (wrap64 (t367 + 1))) = false := decide_eq_false c24
              clear c24
              replace H := Option.bind_eq_some_iff.mp H
              obtain ⟨t374, A370, H⟩ := H
              replace H : (quarrylaw10_LevelsOwn.l0 kj6 a0 a1 t358 (wrap64 (t367 + 1)) t368 t371 0 0 t374 (wrap64 (t367 + 1)) 0) = some r := H
              have A37 := Aside0.mk A370
              clear A370
              have H' := Aside0.mk H
              clear H
              try go_wp2_with (first | ((with_reducible refine gate_callee (f := 37) rfl ?_); refine goesL_ (some 45) rfl rfl Tryd.func37 (by kernel_rfl) rfl #[.string a0, .int .i64 a1] rfl (by (try simp only [List.map_toArray, List.map_cons, List.map_nil]); first | done | rfl | (simp only [List.length_drop, List.length_take]; rfl)) ?_; (with_reducible refine (levels_Depth.calls a0 a1 t367 _ ?tabk A21.out).mono ?_); (case tabk => exact TK_.out.step (by repeat (first | (with_reducible first | exact HB.out | apply below_alloc | apply pw_below_drewN | apply below_drew1 | refine below_set ?_ GE366.out) | exact HB.out))); rintro e w38 ⟨rfl, hb⟩; refine ⟨_, rfl, ?_⟩; have n0_ := Aside0.mk (Kd.S_below (by (with_reducible repeat (first | apply Kd.S_alloc | apply Kd.S_drewN | apply Kd.S_drew)); exact HO_367000.out) hb); have n1_ := Aside0.mk (Kd.S_below (by (with_reducible repeat (first | apply Kd.S_alloc | apply Kd.S_drewN | apply Kd.S_drew)); exact HO_367001.out) hb); have n2_ := Aside0.mk (blk_below (g := gb366) (o := .cells #[.slice Ao12 t359.length co12, .slice Ao14 t362.length co14] 48 (0, 0)) (by (with_reducible repeat (first | refine blk_drewN ?_ _ | refine blk_drew ?_ | refine blk_alloc ?_ _)); exact BK366.out) hb); have n3_ := Aside0.mk (below_step (by repeat (first | (with_reducible first | exact HB.out | apply below_alloc | apply pw_below_drewN | apply below_drew1 | refine below_set ?_ GE366.out) | exact HB.out)) hb); clear HO_367000; clear HO_367001; clear BK366; clear HB; have HO_367000 := n0_; have HO_367001 := n1_; have BK366 := n2_; have HB := n3_; clear n0_ n1_ n2_ n3_; (try clear hb); (try clear hb2); (try clear hk); (try clear hi)))
              have n0_ := Aside0.mk (Kd.S_drew HO_367000.out)
              have n1_ := Aside0.mk (Kd.S_drew HO_367001.out)
              have n2_ := Aside0.mk (blk_drew BK366.out)
              have n3_ := Aside0.mk (below_drew1 HB.out)
              clear HO_367000
              clear HO_367001
              clear BK366
              clear HB
              have HO_367000 := n0_
              have HO_367001 := n1_
              have BK366 := n2_
              have HB := n3_
              clear n0_ n1_ n2_ n3_
              refine start_ (n := 14) (S := fun w' => w'.cell? ⟨gb366, 0, none⟩ = some (.slice Ao12 t359.length co12) ∧ w'.cell? ⟨gb366, 1, none⟩ = some (.slice Ao14 t362.length co14)) (ds := []) #[false, false, false, false, false, false, false, false, false, false, false, false, false, false] (by kernel_rfl) rfl rfl ⟨(blk_cell BK366.out 0).trans rfl, (blk_cell BK366.out 1).trans rfl⟩ (fun hHeld => ?_); refine with_tabW quarrylaw10_LevelsOwn.tab10 quarrylaw10_LevelsOwn.bits10 (fun HT_ HW_ => ?_)
              generalize w38.drew = w39 at HO_367000 HO_367001 BK366 HB hHeld ⊢
              refine pure_ (i := 1) (N := some 48) (v := ?_) (a' := ?_) #[false, true, false, false, false, false, false, false, false, false, false, false, false, false] rfl rfl (any_of HT_.out (by kernel_rfl)) (fun _ _ _ h => h) (Or.inl ⟨by rfl, ?_⟩) ?_ ?_
              rotate_left
              · intro w'
                go_simp
                with_reducible rfl
              rotate_left
              · simp only [Act.put, List.setIfInBounds_toArray, List.set_cons_zero, List.set_cons_succ, i64_w, i32_w]
                rfl
              refine pure_ (i := 2) (N := some 49) (v := ?_) (a' := ?_) #[false, true, true, false, false, false, false, false, false, false, false, false, false, false] rfl rfl (any_of HT_.out (by kernel_rfl)) (fun _ _ _ h => h) (Or.inl ⟨by rfl, ?_⟩) ?_ ?_
              rotate_left
              · intro w'
                go_simp
                with_reducible rfl
              rotate_left
              · simp only [Act.put, List.setIfInBounds_toArray, List.set_cons_zero, List.set_cons_succ, i64_w, i32_w]
                rfl
              refine pure_ (i := 3) (N := some 50) (v := ?_) (a' := ?_) #[false, true, true, true, false, false, false, false, false, false, false, false, false, false] rfl rfl (any_of HT_.out (by kernel_rfl)) (fun _ _ _ h => h) (Or.inl ⟨by rfl, ?_⟩) ?_ ?_
              rotate_left
              · intro w'
                go_simp
                with_reducible rfl
              rotate_left
              · simp only [Act.put, List.setIfInBounds_toArray, List.set_cons_zero, List.set_cons_succ, i64_w, i32_w]
                rfl
              refine pure_ (i := 4) (N := some 51) (v := ?_) (a' := ?_) #[false, true, true, true, true, false, false, false, false, false, false, false, false, false] rfl rfl (any_of HT_.out (by kernel_rfl)) (fun _ _ _ h => h) (Or.inl ⟨by rfl, ?_⟩) ?_ ?_
              rotate_left
              · intro w'
                go_simp
                with_reducible rfl
              rotate_left
              · simp only [Act.put, List.setIfInBounds_toArray, List.set_cons_zero, List.set_cons_succ, i64_w, i32_w]
                rfl
              refine pure_ (i := 7) (N := some 54) (v := ?_) (a' := ?_) #[false, true, true, true, true, false, false, true, false, false, false, false, false, false] rfl rfl (any_of HT_.out (by kernel_rfl)) (fun _ _ _ h => h) (Or.inl ⟨by rfl, ?_⟩) ?_ ?_
              rotate_left
              · intro w'
                go_simp
                with_reducible rfl
              rotate_left
              · simp only [Act.put, List.setIfInBounds_toArray, List.set_cons_zero, List.set_cons_succ, i64_w, i32_w]
                rfl
              refine pure_ (i := 8) (N := some 55) (v := ?_) (a' := ?_) #[false, true, true, true, true, false, false, true, true, false, false, false, false, false] rfl rfl (any_of HT_.out (by kernel_rfl)) (fun _ _ _ h => h) (Or.inl ⟨by rfl, ?_⟩) ?_ ?_
              rotate_left
              · intro w'
                go_simp
                with_reducible rfl
              rotate_left
              · simp only [Act.put, List.setIfInBounds_toArray, List.set_cons_zero, List.set_cons_succ, i64_w, i32_w]
                rfl
              refine pure_ (i := 9) (N := some 56) (v := ?_) (a' := ?_) #[false, true, true, true, true, false, false, true, true, true, false, false, false, false] rfl rfl (any_of HT_.out (by kernel_rfl)) (fun _ _ _ h => h) (Or.inl ⟨by rfl, ?_⟩) ?_ ?_
              rotate_left
              · intro w'
                go_simp
                with_reducible rfl
              rotate_left
              · simp only [Act.put, List.setIfInBounds_toArray, List.set_cons_zero, List.set_cons_succ, i64_w, i32_w]
                rfl
              refine pure_ (i := 10) (N := some 57) (v := ?_) (a' := ?_) #[false, true, true, true, true, false, false, true, true, true, true, false, false, false] rfl rfl (any_of HT_.out (by kernel_rfl)) (fun _ _ _ h => h) (Or.inl ⟨by rfl, ?_⟩) ?_ ?_
              rotate_left
              · intro w'
                go_simp
                with_reducible rfl
              rotate_left
              · simp only [Act.put, List.setIfInBounds_toArray, List.set_cons_zero, List.set_cons_succ, i64_w, i32_w]
                rfl
              refine take_ (i := 0) (N := some 47) (v := ?_) (a' := ?_) #[true, true, true, true, true, false, false, true, true, true, true, false, false, false] rfl rfl (take_ofW HT_.out HW_.out (by kernel_rfl)) (fun _ _ _ h => h) (Or.inl ⟨by rfl, ?_⟩) hHeld ?_ ?_
              rotate_left
              · rintro w' ⟨s0, s1⟩
                go_simp
                with_reducible rfl
              rotate_left
              · simp only [Act.put, List.setIfInBounds_toArray, List.set_cons_zero, List.set_cons_succ, i64_w, i32_w]
                rfl
              refine take_ (i := 6) (N := some 53) (v := ?_) (a' := ?_) #[true, true, true, true, true, false, true, true, true, true, true, false, false, false] rfl rfl (take_ofW HT_.out HW_.out (by kernel_rfl)) (fun _ _ _ h => h) (Or.inl ⟨by rfl, ?_⟩) hHeld ?_ ?_
              rotate_left
              · rintro w' ⟨s0, s1⟩
                go_simp
                with_reducible rfl
              rotate_left
              · simp only [Act.put, List.setIfInBounds_toArray, List.set_cons_zero, List.set_cons_succ, i64_w, i32_w]
                rfl
              refine one_ (i := 5) (N := some 52) #[true, true, true, true, true, true, true, true, true, true, true, false, false, false] rfl rfl (one_of HT_.out (by kernel_rfl)) (by decide) (fun K hK => ?_)
              refine goes_ Tryd.func33 (by kernel_rfl) rfl #[.agg #[.slice Ao12 t359.length co12, .slice Ao14 t362.length co14], .int .i64 (wrap64 (t367 + 1)), .agg #[.int .i64 a1, .int .i64 t358]] (by rfl) rfl rfl (by (try simp only [List.map_toArray, List.map_cons, List.map_nil]); first | done | rfl | (simp only [List.length_drop, List.length_take]; rfl)) ?_
              with_reducible refine (levels_Colons.calls _ _ t359 _ _ t362 (wrap64 (t367 + 1)) a1 t358 t368 _ ?tabk ?side1 ?side2 ?side3 ?side4 A22.out).mono ?_
              (case tabk => exact TK_.out.step (by repeat (first | (with_reducible first | exact HB.out | apply below_alloc | apply pw_below_drewN | apply below_drew1 | refine below_set ?_ GE366.out) | exact HB.out)))
              (case side1 => repeat (first | exact (Kd.S_reads' HO_367000.out).2.2 | (with_reducible refine Kd.C_alloc ?_ _) | (with_reducible refine Kd.C_drewN ?_ _) | (with_reducible refine Kd.C_drew ?_)))
              (case side2 => exact (Kd.S_reads' HO_367000.out).2.1)
              (case side3 => repeat (first | exact (Kd.S_reads' HO_367001.out).2.2 | (with_reducible refine Kd.C_alloc ?_ _) | (with_reducible refine Kd.C_drewN ?_ _) | (with_reducible refine Kd.C_drew ?_)))
              (case side4 => exact (Kd.S_reads' HO_367001.out).2.1)
              rintro e w40 ⟨v369, rfl, ho0, hb⟩
              refine ⟨_, rfl, ?_⟩
              have n0_ := Aside0.mk (Kd.S_below (by (with_reducible repeat (first | apply Kd.S_alloc | apply Kd.S_drewN | apply Kd.S_drew)); exact HO_367000.out) hb)
              have n1_ := Aside0.mk (Kd.S_below (by (with_reducible repeat (first | apply Kd.S_alloc | apply Kd.S_drewN | apply Kd.S_drew)); exact HO_367001.out) hb)
              have n2_ := Aside0.mk (Kd.R_lower ho0 (below_size (by repeat (first | (with_reducible first | exact HB.out | apply below_alloc | apply pw_below_drewN | apply below_drew1 | refine below_set ?_ GE366.out) | exact HB.out))))
              have n3_ := Aside0.mk (blk_below (g := gb366) (o := .cells #[.slice Ao12 t359.length co12, .slice Ao14 t362.length co14] 48 (0, 0)) (by (with_reducible repeat (first | refine blk_drewN ?_ _ | refine blk_drew ?_ | refine blk_alloc ?_ _)); exact BK366.out) hb)
              have n4_ := Aside0.mk (below_step (by repeat (first | (with_reducible first | exact HB.out | apply below_alloc | apply pw_below_drewN | apply below_drew1 | refine below_set ?_ GE366.out) | exact HB.out)) hb)
              clear HO_367000
              clear HO_367001
              clear BK366
              clear HB
              have HO_367000 := n0_
              have HO_367001 := n1_
              have HO370 := n2_
              have BK366 := n3_
              have HB := n4_
              clear n0_ n1_ n2_ n3_ n4_
              (try clear hb)
              (try clear hb2)
              (try clear hk)
              (try clear hi)
              (try clear ho0)
              refine hK.out _ _ ⟨(blk_cell BK366.out 0).trans rfl, (blk_cell BK366.out 1).trans rfl⟩ (fun hHeld => ?_)
              clear hK K
              refine norm_ (a' := ?_) ?_ ?_
              rotate_left
              · show Act.put _ (some 52) _ = _
                simp only [Act.put, List.setIfInBounds_toArray, List.set_cons_zero, List.set_cons_succ, i64_w, i32_w]
                rfl
              refine one_ (i := 11) (N := some 58) #[true, true, true, true, true, true, true, true, true, true, true, true, false, false] rfl rfl (one_of HT_.out (by kernel_rfl)) (by decide) (fun K hK => ?_)
              refine goes_ Tryd.func34 (by kernel_rfl) rfl #[.agg #[.slice Ao12 t359.length co12, .slice Ao14 t362.length co14], .int .i64 (wrap64 (t367 + 1)), .agg #[.int .i64 a1, .int .i64 t358]] (by rfl) rfl rfl (by (try simp only [List.map_toArray, List.map_cons, List.map_nil]); first | done | rfl | (simp only [List.length_drop, List.length_take]; rfl)) ?_
              with_reducible refine (levels_Commas.calls _ _ t359 _ _ t362 (wrap64 (t367 + 1)) a1 t358 t371 _ ?tabk ?side1 ?side2 ?side3 ?side4 A23.out).mono ?_
              (case tabk => exact TK_.out.step (by repeat (first | (with_reducible first | exact HB.out | apply below_alloc | apply pw_below_drewN | apply below_drew1 | refine below_set ?_ GE366.out) | exact HB.out)))
              (case side1 => repeat (first | exact (Kd.S_reads' HO_367000.out).2.2 | (with_reducible refine Kd.C_alloc ?_ _) | (with_reducible refine Kd.C_drewN ?_ _) | (with_reducible refine Kd.C_drew ?_)))
              (case side2 => exact (Kd.S_reads' HO_367000.out).2.1)
              (case side3 => repeat (first | exact (Kd.S_reads' HO_367001.out).2.2 | (with_reducible refine Kd.C_alloc ?_ _) | (with_reducible refine Kd.C_drewN ?_ _) | (with_reducible refine Kd.C_drew ?_)))
              (case side4 => exact (Kd.S_reads' HO_367001.out).2.1)
              rintro e w41 ⟨v372, rfl, ho0, hb⟩
              refine ⟨_, rfl, ?_⟩
              have n0_ := Aside0.mk (Kd.S_below (by (with_reducible repeat (first | apply Kd.S_alloc | apply Kd.S_drewN | apply Kd.S_drew)); exact HO_367000.out) hb)
              have n1_ := Aside0.mk (Kd.S_below (by (with_reducible repeat (first | apply Kd.S_alloc | apply Kd.S_drewN | apply Kd.S_drew)); exact HO_367001.out) hb)
              have n2_ := Aside0.mk (Kd.R_elder' (by (with_reducible repeat (first | apply Kd.R_alloc | apply Kd.R_drewN | apply Kd.R_drew)); exact HO370.out) (Kd.R_base ho0) hb)
              have n3_ := Aside0.mk (Kd.R_lower (Kd.R_new' ho0 (Kd.R_lt (by (with_reducible repeat (first | apply Kd.R_alloc | apply Kd.R_drewN | apply Kd.R_drew)); exact HO370.out))) (below_size (by repeat (first | (with_reducible first | exact HB.out | apply below_alloc | apply pw_below_drewN | apply below_drew1 | refine below_set ?_ GE366.out) | exact HB.out))))
              have n4_ := Aside0.mk (blk_below (g := gb366) (o := .cells #[.slice Ao12 t359.length co12, .slice Ao14 t362.length co14] 48 (0, 0)) (by (with_reducible repeat (first | refine blk_drewN ?_ _ | refine blk_drew ?_ | refine blk_alloc ?_ _)); exact BK366.out) hb)
              have n5_ := Aside0.mk (below_step (by repeat (first | (with_reducible first | exact HB.out | apply below_alloc | apply pw_below_drewN | apply below_drew1 | refine below_set ?_ GE366.out) | exact HB.out)) hb)
              clear HO_367000
              clear HO_367001
              clear HO370
              clear BK366
              clear HB
              have HO_367000 := n0_
              have HO_367001 := n1_
              have HO370 := n2_
              have HO373 := n3_
              have BK366 := n4_
              have HB := n5_
              clear n0_ n1_ n2_ n3_ n4_ n5_
              (try clear hb)
              (try clear hb2)
              (try clear hk)
              (try clear hi)
              (try clear ho0)
              refine hK.out _ _ ⟨(blk_cell BK366.out 0).trans rfl, (blk_cell BK366.out 1).trans rfl⟩ (fun hHeld => ?_)
              clear hK K
              refine norm_ (a' := ?_) ?_ ?_
              rotate_left
              · show Act.put _ (some 58) _ = _
                simp only [Act.put, List.setIfInBounds_toArray, List.set_cons_zero, List.set_cons_succ, i64_w, i32_w]
                rfl
              refine pure_ (i := 12) (N := some 9) (v := ?_) (a' := ?_) #[true, true, true, true, true, true, true, true, true, true, true, true, true, false] rfl rfl (any_of HT_.out (by kernel_rfl)) (fun _ _ _ h => h) (Or.inl ⟨by rfl, ?_⟩) ?_ ?_
              rotate_left
              · intro w'
                go_simp
                with_reducible rfl
              rotate_left
              · simp only [Act.put, List.setIfInBounds_toArray, List.set_cons_zero, List.set_cons_succ, i64_w, i32_w]
                rfl
              refine pure_ (i := 13) (N := some 10) (v := ?_) (a' := ?_) #[true, true, true, true, true, true, true, true, true, true, true, true, true, true] rfl rfl (any_of HT_.out (by kernel_rfl)) (fun _ _ _ h => h) (Or.inl ⟨by rfl, ?_⟩) ?_ ?_
              rotate_left
              · intro w'
                go_simp
                with_reducible rfl
              rotate_left
              · simp only [Act.put, List.setIfInBounds_toArray, List.set_cons_zero, List.set_cons_succ, i64_w, i32_w]
                rfl
              refine done_ (done_of HT_.out (by kernel_rfl)) ?_
              try go_wp2_with (first | ((with_reducible refine gate_callee (f := 26) rfl ?_); refine goesL_ (some 70) rfl rfl Tryd.func26 (by kernel_rfl) rfl #[.string a0] rfl (by (try simp only [List.map_toArray, List.map_cons, List.map_nil]); first | done | rfl | (simp only [List.length_drop, List.length_take]; rfl)) ?_; (with_reducible refine (marks_Index.calls a0 t374 _ ?tabk A37.out).mono ?_); (case tabk => exact TK_.out.step (by repeat (first | (with_reducible first | exact HB.out | apply below_alloc | apply pw_below_drewN | apply below_drew1 | refine below_set ?_ GE366.out) | exact HB.out))); rintro e w42 ⟨v375, rfl, ho0, hb⟩; refine ⟨_, rfl, ?_⟩; have n0_ := Aside0.mk (Kd.S_below (by (with_reducible repeat (first | apply Kd.S_alloc | apply Kd.S_drewN | apply Kd.S_drew)); exact HO_367000.out) hb); have n1_ := Aside0.mk (Kd.S_below (by (with_reducible repeat (first | apply Kd.S_alloc | apply Kd.S_drewN | apply Kd.S_drew)); exact HO_367001.out) hb); have n2_ := Aside0.mk (Kd.R_elder' (by (with_reducible repeat (first | apply Kd.R_alloc | apply Kd.R_drewN | apply Kd.R_drew)); exact HO370.out) (Kd.R_base ho0) hb); have n3_ := Aside0.mk (Kd.R_elder' (by (with_reducible repeat (first | apply Kd.R_alloc | apply Kd.R_drewN | apply Kd.R_drew)); exact HO373.out) (Kd.R_base ho0) hb); have n4_ := Aside0.mk (Kd.R_lower (Kd.R_new' (Kd.R_new' ho0 (Kd.R_lt (by (with_reducible repeat (first | apply Kd.R_alloc | apply Kd.R_drewN | apply Kd.R_drew)); exact HO370.out))) (Kd.R_lt (by (with_reducible repeat (first | apply Kd.R_alloc | apply Kd.R_drewN | apply Kd.R_drew)); exact HO373.out))) (below_size (by repeat (first | (with_reducible first | exact HB.out | apply below_alloc | apply pw_below_drewN | apply below_drew1 | refine below_set ?_ GE366.out) | exact HB.out)))); have n5_ := Aside0.mk (blk_below (g := gb366) (o := .cells #[.slice Ao12 t359.length co12, .slice Ao14 t362.length co14] 48 (0, 0)) (by (with_reducible repeat (first | refine blk_drewN ?_ _ | refine blk_drew ?_ | refine blk_alloc ?_ _)); exact BK366.out) hb); have n6_ := Aside0.mk (below_step (by repeat (first | (with_reducible first | exact HB.out | apply below_alloc | apply pw_below_drewN | apply below_drew1 | refine below_set ?_ GE366.out) | exact HB.out)) hb); clear HO_367000; clear HO_367001; clear HO370; clear HO373; clear BK366; clear HB; have HO_367000 := n0_; have HO_367001 := n1_; have HO370 := n2_; have HO373 := n3_; have HO376 := n4_; have BK366 := n5_; have HB := n6_; clear n0_ n1_ n2_ n3_ n4_ n5_ n6_; (try clear hb); (try clear hb2); (try clear hk); (try clear hi); (try clear ho0)))
              go_loopg [11, 12, 14, 15] kj6 (fun kq v11 v12 v14 v15 w' => ∃ (x11_2 : Int) (x12_2 : Int) (x14_2 : Int) (x15_2 : Int), v11 = .int .i64 x11_2 ∧ v12 = .int .i64 x12_2 ∧ v14 = .int .i64 x14_2 ∧ v15 = .int .i64 x15_2 ∧ Aside0 (quarrylaw10_LevelsOwn.l0 kq a0 a1 t358 (wrap64 (t367 + 1)) t368 t371 x11_2 x12_2 t374 x14_2 x15_2 = some r) ∧ Aside0 (kq ≤ kj6) ∧ Aside0 (Kd.R (Kd.int .i64) 3 w' w.heap.size (fun k_ => some k_ ≠ (v372 : Value).ownBlock ∧ some k_ ≠ (v375 : Value).ownBlock) v369 t368) ∧ Aside0 (Kd.R (Kd.int .i64) 3 w' w.heap.size (fun k_ => some k_ ≠ (v369 : Value).ownBlock ∧ some k_ ≠ (v375 : Value).ownBlock) v372 t371) ∧ Aside0 (Kd.R (Kd.int .i64) 3 w' w.heap.size (fun k_ => some k_ ≠ (v369 : Value).ownBlock ∧ some k_ ≠ (v372 : Value).ownBlock) v375 t374) ∧ Aside0 (Kd.S k34 34 w' w.heap.size (fun k_ => some k_ ≠ ((.slice Ao14 t362.length co14) : Value).ownBlock) (.slice Ao12 t359.length co12) t359) ∧ Aside0 (Kd.S k34 34 w' w.heap.size (fun k_ => some k_ ≠ ((.slice Ao12 t359.length co12) : Value).ownBlock) (.slice Ao14 t362.length co14) t362) ∧ Aside0 (w'.heap[gb366]? = some (.cells #[(.slice Ao12 t359.length co12), (.slice Ao14 t362.length co14)] 48 (0, 0))) ∧ Aside0 (Below w.heap.size w w'))
              case atStart => exact ⟨(0), (0), (wrap64 (t367 + 1)), (0), (by first | rfl | (simp; done) | (simp [*]; done)), (by first | rfl | (simp; done) | (simp [*]; done)), (by first | rfl | (simp; done) | (simp [*]; done)), (by first | rfl | (simp; done) | (simp [*]; done)), H', ⟨Nat.le_refl _⟩, ⟨by (with_reducible repeat (first | apply Kd.R_alloc | apply Kd.R_drewN | apply Kd.R_drew)); exact Kd.R_mono HO370.out (fun _ hk => ⟨hk.1.2, hk.2⟩)⟩, ⟨by (with_reducible repeat (first | apply Kd.R_alloc | apply Kd.R_drewN | apply Kd.R_drew)); exact Kd.R_mono HO373.out (fun _ hk => ⟨hk.1.2, hk.2⟩)⟩, ⟨by (with_reducible repeat (first | apply Kd.R_alloc | apply Kd.R_drewN | apply Kd.R_drew)); exact Kd.R_mono HO376.out (fun _ hk => ⟨hk.1.2, hk.2⟩)⟩, ⟨by (with_reducible repeat (first | apply Kd.S_alloc | apply Kd.S_drewN | apply Kd.S_drew)); exact HO_367000.out⟩, ⟨by (with_reducible repeat (first | apply Kd.S_alloc | apply Kd.S_drewN | apply Kd.S_drew)); exact HO_367001.out⟩, ⟨by (with_reducible repeat (first | refine blk_drewN ?_ _ | refine blk_drew ?_ | refine blk_alloc ?_ _)); exact BK366.out⟩, ⟨by repeat (first | (with_reducible first | exact HB.out | apply below_alloc | apply pw_below_drewN | apply below_drew1 | refine below_set ?_ GE366.out) | exact HB.out)⟩⟩
              case round =>
                clear H'
                try clear c2
                try clear p2
                try clear c3
                try clear p6
                try clear c24
                try clear c24b0
                try clear c25
                try clear c25b0
                try clear c25b1
                try clear c25b2
                try clear c26
                try clear c33
                try clear c34
                try clear c37
                obtain ⟨x11_2, x12_2, x14_2, x15_2, rfl, rfl, rfl, rfl, HA, HK2, HO_9, HO_10, HO_13, HO_367000, HO_367001, BK366, HB⟩ := hrel
                cases gk with
                | zero => exact absurd HA.out (by simp [quarrylaw10_LevelsOwn.l0])
                | succ k2 =>
                  have H := HA.out
                  clear HA
                  simp only [quarrylaw10_LevelsOwn.l0] at H
                  by_cases c43 : x15_2 < (t374.length : Int)
                  · rw [if_pos c43] at H
                    have c43b0 : decide (x15_2 < (t374.length : Int)) = true := decide_eq_true c43
                    clear c43
                    by_cases c44 : 0 ≤ x15_2
                    · rw [if_pos c44] at H
                      have c44b0 : decide (0 ≤ x15_2) = true := decide_eq_true c44
                      clear c44
                      have HC45 := Aside0.mk H
                      clear H
                      obtain ⟨Ao46, co46, eo46⟩ := Kd.R_slice HO_13.out
                      subst eo46
                      have p377 : 0 ≤ (x15_2 : Int) := of_decide_eq_true (by first | (with_reducible assumption) | assumption)
                      have q377 : x15_2 < (t374.length : Int) := of_decide_eq_true (by first | (with_reducible assumption) | assumption)
                      obtain ⟨ad377, e377, hx377_0⟩ := Kd.at_int (Kd.R_reads' HO_13.out).2.2 x15_2 p377 q377
                      cases e377
                      replace p377 := eq_true p377
                      replace q377 := eq_true q377
                      go_upto_region 20 with (fail)
                      go_cut [89] (fun v89 wc => ∃ (kq : Nat) (x89_44 : Bool), v89 = .bool x89_44 ∧ Aside0 (quarrylaw10_LevelsOwn.j2 kq a0 a1 t358 (wrap64 (t367 + 1)) t368 t371 x11_2 x12_2 t374 x14_2 x15_2 (rd t374 x15_2) x89_44 = some r) ∧ Aside0 (kq ≤ k2) ∧ Aside0 (Kd.R (Kd.int .i64) 3 wc w.heap.size (fun k_ => some k_ ≠ (v372 : Value).ownBlock ∧ some k_ ≠ ((.slice (some ad377) t374.length co46) : Value).ownBlock) v369 t368) ∧ Aside0 (Kd.R (Kd.int .i64) 3 wc w.heap.size (fun k_ => some k_ ≠ (v369 : Value).ownBlock ∧ some k_ ≠ ((.slice (some ad377) t374.length co46) : Value).ownBlock) v372 t371) ∧ Aside0 (Kd.R (Kd.int .i64) 3 wc w.heap.size (fun k_ => some k_ ≠ (v369 : Value).ownBlock ∧ some k_ ≠ (v372 : Value).ownBlock) (.slice (some ad377) t374.length co46) t374) ∧ Aside0 (Kd.S k34 34 wc w.heap.size (fun k_ => some k_ ≠ ((.slice Ao14 t362.length co14) : Value).ownBlock) (.slice Ao12 t359.length co12) t359) ∧ Aside0 (Kd.S k34 34 wc w.heap.size (fun k_ => some k_ ≠ ((.slice Ao12 t359.length co12) : Value).ownBlock) (.slice Ao14 t362.length co14) t362) ∧ Aside0 (wc.heap[gb366]? = some (.cells #[(.slice Ao12 t359.length co12), (.slice Ao14 t362.length co14)] 48 (0, 0))) ∧ Aside0 (Below w.heap.size w wc))
                      case first =>
                        have H := HC45.out
                        clear HC45
                        by_cases c47 : (rd t374 x15_2) < 0
                        · rw [if_pos c47] at H
                          have c47b0 : decide ((rd t374 x15_2) < 0) = true := decide_eq_true c47
                          clear c47
                          (first | rw [c47b0] | (simp only [i64_w, i32_w]; rw [c47b0]) | skip)
                          have H' := Aside0.mk H
                          clear H
                          go_wp2
                          go_meet
                          case rel => exact ⟨_, (true), (by first | rfl | (simp; done) | (simp [*]; done)), H', ⟨by have := HJ6.out; have := HK2.out; first | omega | exact Nat.le_refl _⟩, ⟨by (with_reducible repeat (first | apply Kd.R_alloc | apply Kd.R_drewN | apply Kd.R_drew)); exact HO_9.out⟩, ⟨by (with_reducible repeat (first | apply Kd.R_alloc | apply Kd.R_drewN | apply Kd.R_drew)); exact HO_10.out⟩, ⟨by (with_reducible repeat (first | apply Kd.R_alloc | apply Kd.R_drewN | apply Kd.R_drew)); exact HO_13.out⟩, ⟨by (with_reducible repeat (first | apply Kd.S_alloc | apply Kd.S_drewN | apply Kd.S_drew)); exact HO_367000.out⟩, ⟨by (with_reducible repeat (first | apply Kd.S_alloc | apply Kd.S_drewN | apply Kd.S_drew)); exact HO_367001.out⟩, ⟨by (with_reducible repeat (first | refine blk_drewN ?_ _ | refine blk_drew ?_ | refine blk_alloc ?_ _)); exact BK366.out⟩, ⟨by repeat (first | (with_reducible first | exact HB.out | apply below_alloc | apply pw_below_drewN | apply below_drew1 | refine below_set ?_ GE366.out) | exact HB.out)⟩⟩
                        · rw [if_neg c47] at H
                          have c47b0 : decide ((rd t374 x15_2) < 0) = false := decide_eq_false c47
                          clear c47
                          (first | rw [c47b0] | (simp only [i64_w, i32_w]; rw [c47b0]) | skip)
                          have H' := Aside0.mk H
                          clear H
                          go_wp2
                          go_meet
                          case rel => exact ⟨_, (decide ((rd t374 x15_2) ≥ (a0.size : Int))), (by first | rfl | (simp; done) | (simp [*]; done)), H', ⟨by have := HJ6.out; have := HK2.out; first | omega | exact Nat.le_refl _⟩, ⟨by (with_reducible repeat (first | apply Kd.R_alloc | apply Kd.R_drewN | apply Kd.R_drew)); exact HO_9.out⟩, ⟨by (with_reducible repeat (first | apply Kd.R_alloc | apply Kd.R_drewN | apply Kd.R_drew)); exact HO_10.out⟩, ⟨by (with_reducible repeat (first | apply Kd.R_alloc | apply Kd.R_drewN | apply Kd.R_drew)); exact HO_13.out⟩, ⟨by (with_reducible repeat (first | apply Kd.S_alloc | apply Kd.S_drewN | apply Kd.S_drew)); exact HO_367000.out⟩, ⟨by (with_reducible repeat (first | apply Kd.S_alloc | apply Kd.S_drewN | apply Kd.S_drew)); exact HO_367001.out⟩, ⟨by (with_reducible repeat (first | refine blk_drewN ?_ _ | refine blk_drew ?_ | refine blk_alloc ?_ _)); exact BK366.out⟩, ⟨by repeat (first | (with_reducible first | exact HB.out | apply below_alloc | apply pw_below_drewN | apply below_drew1 | refine below_set ?_ GE366.out) | exact HB.out)⟩⟩
                      case rest =>
                        clear HC45
                        try clear c2
                        try clear p2
                        try clear c3
                        try clear p3
                        try clear q3
                        try clear hx3
                        try clear c4
                        try clear p6
                        try clear c24
                        try clear c24b0
                        try clear c25
                        try clear c25b0
                        try clear c25b1
                        try clear c25b2
                        try clear c26
                        try clear c33
                        try clear c34
                        try clear c37
                        try clear p37
                        try clear q37
                        try clear hx37
                        try clear c43
                        try clear c43b0
                        try clear c44
                        try clear c44b0
                        try clear c47
                        try clear c47b0
                        try clear hx377_0
                        try clear p2
                        try clear p377
                        try clear p6
                        try clear q377
                        obtain ⟨kq, x89_44, rfl, HA, HJ44, HO_9, HO_10, HO_13, HO_367000, HO_367001, BK366, HB⟩ := hcut
                        cases kq with
                        | zero => exact absurd HA.out (by simp [quarrylaw10_LevelsOwn.j2])
                        | succ kj44 =>
                          have H := HA.out
                          clear HA
                          simp only [quarrylaw10_LevelsOwn.j2] at H
                          by_cases c48 : x89_44 = true
                          · subst c48
                            have H1 : (some false) = some r := by rw [if_pos rfl] at H; exact H
                            clear H
                            have H := H1
                            clear H1
                            obtain rfl := Option.some.inj H
                            go_wp2
                            go_ret
                            exact ⟨by first | rfl | (simp [errW_none, errW_some] <;> rfl) | (simp [*, errW_none, errW_some] <;> rfl), by repeat (first | (with_reducible first | exact HB.out | apply below_alloc | apply pw_below_drewN | apply below_drew1 | refine below_set ?_ GE366.out) | exact HB.out)⟩
                          · replace c48 := Bool.eq_false_iff.mpr c48
                            subst c48
                            have H1 : (if (rd t374 x15_2) ≤ a1 then (quarrylaw10_LevelsOwn.j3 kj44 a0 a1 t358 (wrap64 (t367 + 1)) t368 t371 x11_2 x12_2 t374 x14_2 x15_2 (rd t374 x15_2) true) else (quarrylaw10_LevelsOwn.j3 kj44 a0 a1 t358 (wrap64 (t367 + 1)) t368 t371 x11_2 x12_2 t374 x14_2 x15_2 (rd t374 x15_2) (decide ((rd t374 x15_2) ≥ t358)))) = some r := by rw [if_neg (show ¬ (false = true) by decide)] at H; exact H
                            clear H
                            have H := H1
                            clear H1
                            have HC49 := Aside0.mk H
                            clear H
                            go_upto_region 22 with (fail)
                            go_cut [97] (fun v97 wc => ∃ (kq : Nat) (x97_48 : Bool), v97 = .bool x97_48 ∧ Aside0 (quarrylaw10_LevelsOwn.j3 kq a0 a1 t358 (wrap64 (t367 + 1)) t368 t371 x11_2 x12_2 t374 x14_2 x15_2 (rd t374 x15_2) x97_48 = some r) ∧ Aside0 (kq ≤ kj44) ∧ Aside0 (Kd.R (Kd.int .i64) 3 wc w.heap.size (fun k_ => some k_ ≠ (v372 : Value).ownBlock ∧ some k_ ≠ ((.slice (some ad377) t374.length co46) : Value).ownBlock) v369 t368) ∧ Aside0 (Kd.R (Kd.int .i64) 3 wc w.heap.size (fun k_ => some k_ ≠ (v369 : Value).ownBlock ∧ some k_ ≠ ((.slice (some ad377) t374.length co46) : Value).ownBlock) v372 t371) ∧ Aside0 (Kd.R (Kd.int .i64) 3 wc w.heap.size (fun k_ => some k_ ≠ (v369 : Value).ownBlock ∧ some k_ ≠ (v372 : Value).ownBlock) (.slice (some ad377) t374.length co46) t374) ∧ Aside0 (Kd.S k34 34 wc w.heap.size (fun k_ => some k_ ≠ ((.slice Ao14 t362.length co14) : Value).ownBlock) (.slice Ao12 t359.length co12) t359) ∧ Aside0 (Kd.S k34 34 wc w.heap.size (fun k_ => some k_ ≠ ((.slice Ao12 t359.length co12) : Value).ownBlock) (.slice Ao14 t362.length co14) t362) ∧ Aside0 (wc.heap[gb366]? = some (.cells #[(.slice Ao12 t359.length co12), (.slice Ao14 t362.length co14)] 48 (0, 0))) ∧ Aside0 (Below w.heap.size w wc))
                            case first =>
                              have H := HC49.out
                              clear HC49
                              by_cases c50 : (rd t374 x15_2) ≤ a1
                              · rw [if_pos c50] at H
                                have c50b0 : decide ((rd t374 x15_2) ≤ a1) = true := decide_eq_true c50
                                clear c50
                                (first | rw [c50b0] | (simp only [i64_w, i32_w]; rw [c50b0]) | skip)
                                have H' := Aside0.mk H
                                clear H
                                go_wp2
                                go_meet
                                case rel => exact ⟨_, (true), (by first | rfl | (simp; done) | (simp [*]; done)), H', ⟨by have := HJ6.out; have := HK2.out; have := HJ44.out; first | omega | exact Nat.le_refl _⟩, ⟨by (with_reducible repeat (first | apply Kd.R_alloc | apply Kd.R_drewN | apply Kd.R_drew)); exact HO_9.out⟩, ⟨by (with_reducible repeat (first | apply Kd.R_alloc | apply Kd.R_drewN | apply Kd.R_drew)); exact HO_10.out⟩, ⟨by (with_reducible repeat (first | apply Kd.R_alloc | apply Kd.R_drewN | apply Kd.R_drew)); exact HO_13.out⟩, ⟨by (with_reducible repeat (first | apply Kd.S_alloc | apply Kd.S_drewN | apply Kd.S_drew)); exact HO_367000.out⟩, ⟨by (with_reducible repeat (first | apply Kd.S_alloc | apply Kd.S_drewN | apply Kd.S_drew)); exact HO_367001.out⟩, ⟨by (with_reducible repeat (first | refine blk_drewN ?_ _ | refine blk_drew ?_ | refine blk_alloc ?_ _)); exact BK366.out⟩, ⟨by repeat (first | (with_reducible first | exact HB.out | apply below_alloc | apply pw_below_drewN | apply below_drew1 | refine below_set ?_ GE366.out) | exact HB.out)⟩⟩
                              · rw [if_neg c50] at H
                                have c50b0 : decide ((rd t374 x15_2) ≤ a1) = false := decide_eq_false c50
                                clear c50
                                (first | rw [c50b0] | (simp only [i64_w, i32_w]; rw [c50b0]) | skip)
                                have H' := Aside0.mk H
                                clear H
                                go_wp2
                                go_meet
                                case rel => exact ⟨_, (decide ((rd t374 x15_2) ≥ t358)), (by first | rfl | (simp; done) | (simp [*]; done)), H', ⟨by have := HJ6.out; have := HK2.out; have := HJ44.out; first | omega | exact Nat.le_refl _⟩, ⟨by (with_reducible repeat (first | apply Kd.R_alloc | apply Kd.R_drewN | apply Kd.R_drew)); exact HO_9.out⟩, ⟨by (with_reducible repeat (first | apply Kd.R_alloc | apply Kd.R_drewN | apply Kd.R_drew)); exact HO_10.out⟩, ⟨by (with_reducible repeat (first | apply Kd.R_alloc | apply Kd.R_drewN | apply Kd.R_drew)); exact HO_13.out⟩, ⟨by (with_reducible repeat (first | apply Kd.S_alloc | apply Kd.S_drewN | apply Kd.S_drew)); exact HO_367000.out⟩, ⟨by (with_reducible repeat (first | apply Kd.S_alloc | apply Kd.S_drewN | apply Kd.S_drew)); exact HO_367001.out⟩, ⟨by (with_reducible repeat (first | refine blk_drewN ?_ _ | refine blk_drew ?_ | refine blk_alloc ?_ _)); exact BK366.out⟩, ⟨by repeat (first | (with_reducible first | exact HB.out | apply below_alloc | apply pw_below_drewN | apply below_drew1 | refine below_set ?_ GE366.out) | exact HB.out)⟩⟩
                            case rest =>
                              clear HC49
                              try clear c2
                              try clear p2
                              try clear c3
                              try clear p3
                              try clear q3
                              try clear hx3
                              try clear c4
                              try clear c5
                              try clear p6
                              try clear c24
                              try clear c24b0
                              try clear c25
                              try clear c25b0
                              try clear c25b1
                              try clear c25b2
                              try clear c26
                              try clear c33
                              try clear c34
                              try clear c37
                              try clear p37
                              try clear q37
                              try clear hx37
                              try clear c43
                              try clear c43b0
                              try clear c44
                              try clear c44b0
                              try clear c47
                              try clear c47b0
                              try clear c48
                              try clear c50
                              try clear c50b0
                              try clear hx377_0
                              try clear p2
                              try clear p3
                              try clear p37
                              try clear p377
                              try clear p6
                              try clear q3
                              try clear q37
                              try clear q377
                              obtain ⟨kq, x97_48, rfl, HA, HJ48, HO_9, HO_10, HO_13, HO_367000, HO_367001, BK366, HB⟩ := hcut
                              cases kq with
                              | zero => exact absurd HA.out (by simp [quarrylaw10_LevelsOwn.j3])
                              | succ kj48 =>
                                have H := HA.out
                                clear HA
                                simp only [quarrylaw10_LevelsOwn.j3] at H
                                by_cases c51 : x97_48 = true
                                · subst c51
                                  have H1 : (quarrylaw10_LevelsOwn.l0 kj48 a0 a1 t358 (wrap64 (t367 + 1)) t368 t371 x11_2 x12_2 t374 x14_2 (wrap64 (x15_2 + 1))) = some r := by rw [if_pos rfl] at H; exact H
                                  clear H
                                  have H := H1
                                  clear H1
                                  have H' := Aside0.mk H
                                  clear H
                                  go_wp2
                                  go_roundg kj48
                                  case measure => have := HJ6.out; have := HK2.out; have := HJ44.out; have := HJ48.out; omega
                                  case rel => exact ⟨(x11_2), (x12_2), (x14_2), (wrap64 (x15_2 + 1)), (by first | rfl | (simp; done) | (simp [*]; done)), (by first | rfl | (simp; done) | (simp [*]; done)), (by first | rfl | (simp; done) | (simp [*]; done)), (by first | rfl | (simp; done) | (simp [*]; done)), H', ⟨by have := HJ6.out; have := HK2.out; have := HJ44.out; have := HJ48.out; omega⟩, ⟨by (with_reducible repeat (first | apply Kd.R_alloc | apply Kd.R_drewN | apply Kd.R_drew)); exact HO_9.out⟩, ⟨by (with_reducible repeat (first | apply Kd.R_alloc | apply Kd.R_drewN | apply Kd.R_drew)); exact HO_10.out⟩, ⟨by (with_reducible repeat (first | apply Kd.R_alloc | apply Kd.R_drewN | apply Kd.R_drew)); exact HO_13.out⟩, ⟨by (with_reducible repeat (first | apply Kd.S_alloc | apply Kd.S_drewN | apply Kd.S_drew)); exact HO_367000.out⟩, ⟨by (with_reducible repeat (first | apply Kd.S_alloc | apply Kd.S_drewN | apply Kd.S_drew)); exact HO_367001.out⟩, ⟨by (with_reducible repeat (first | refine blk_drewN ?_ _ | refine blk_drew ?_ | refine blk_alloc ?_ _)); exact BK366.out⟩, ⟨by repeat (first | (with_reducible first | exact HB.out | apply below_alloc | apply pw_below_drewN | apply below_drew1 | refine below_set ?_ GE366.out) | exact HB.out)⟩⟩
                                · replace c51 := Bool.eq_false_iff.mpr c51
                                  subst c51
                                  have H1 : (if (wrap64 ((wrap64 ((t374.length : Int) / 64)) + 1)) = 0 then (none) else (if (Int.tmod x15_2 (wrap64 ((wrap64 ((t374.length : Int) / 64)) + 1))) = 0 then ((levels_Depth.f a0 (rd t374 x15_2)).bind fun t378 => (quarrylaw10_LevelsOwn.j4 kj48 a0 a1 t358 (wrap64 (t367 + 1)) t368 t371 x11_2 x12_2 t374 x14_2 x15_2 (rd t374 x15_2) (t378 != x14_2))) else (quarrylaw10_LevelsOwn.j4 kj48 a0 a1 t358 (wrap64 (t367 + 1)) t368 t371 x11_2 x12_2 t374 x14_2 x15_2 (rd t374 x15_2) false))) = some r := by rw [if_neg (show ¬ (false = true) by decide)] at H; exact H
                                  clear H
                                  have H := H1
                                  clear H1
                                  have HC52 := Aside0.mk H
                                  clear H
                                  go_upto_region 23 with (fail)
                                  go_cut [111] (fun v111 wc => ∃ (kq : Nat) (x111_51 : Bool), v111 = .bool x111_51 ∧ Aside0 (quarrylaw10_LevelsOwn.j4 kq a0 a1 t358 (wrap64 (t367 + 1)) t368 t371 x11_2 x12_2 t374 x14_2 x15_2 (rd t374 x15_2) x111_51 = some r) ∧ Aside0 (kq ≤ kj48) ∧ Aside0 (Kd.R (Kd.int .i64) 3 wc w.heap.size (fun k_ => some k_ ≠ (v372 : Value).ownBlock ∧ some k_ ≠ ((.slice (some ad377) t374.length co46) : Value).ownBlock) v369 t368) ∧ Aside0 (Kd.R (Kd.int .i64) 3 wc w.heap.size (fun k_ => some k_ ≠ (v369 : Value).ownBlock ∧ some k_ ≠ ((.slice (some ad377) t374.length co46) : Value).ownBlock) v372 t371) ∧ Aside0 (Kd.R (Kd.int .i64) 3 wc w.heap.size (fun k_ => some k_ ≠ (v369 : Value).ownBlock ∧ some k_ ≠ (v372 : Value).ownBlock) (.slice (some ad377) t374.length co46) t374) ∧ Aside0 (Kd.S k34 34 wc w.heap.size (fun k_ => some k_ ≠ ((.slice Ao14 t362.length co14) : Value).ownBlock) (.slice Ao12 t359.length co12) t359) ∧ Aside0 (Kd.S k34 34 wc w.heap.size (fun k_ => some k_ ≠ ((.slice Ao12 t359.length co12) : Value).ownBlock) (.slice Ao14 t362.length co14) t362) ∧ Aside0 (wc.heap[gb366]? = some (.cells #[(.slice Ao12 t359.length co12), (.slice Ao14 t362.length co14)] 48 (0, 0))) ∧ Aside0 (Below w.heap.size w wc))
                                  case first =>
                                    have H := HC52.out
                                    clear HC52
                                    by_cases c53 : (wrap64 ((wrap64 ((t374.length : Int) / 64)) + 1)) = 0
                                    · rw [if_pos c53] at H
                                      exact absurd H (by simp)
                                    · rw [if_neg c53] at H
                                      have c53b0 : ((wrap64 ((wrap64 ((t374.length : Int) / 64)) + 1)) == 0) = false := beq_eq_false_iff_ne.mpr c53
                                      have c53b1 : ((wrap64 ((wrap64 ((t374.length : Int) / 64)) + 1)) != 0) = true := bne_iff_ne.mpr c53
                                      (first | rw [c53b0] | (simp only [i64_w, i32_w]; rw [c53b0]) | skip)
                                      by_cases c54 : (Int.tmod x15_2 (wrap64 ((wrap64 ((t374.length : Int) / 64)) + 1))) = 0
                                      · rw [if_pos c54] at H
                                        have c54b0 : ((Int.tmod x15_2 (wrap64 ((wrap64 ((t374.length : Int) / 64)) + 1))) == 0) = true := beq_iff_eq.mpr c54
                                        have c54b1 : ((Int.tmod x15_2 (wrap64 ((wrap64 ((t374.length : Int) / 64)) + 1))) != 0) = false := bne_eq_false_iff_eq.mpr c54
                                        clear c54
                                        replace H := Option.bind_eq_some_iff.mp H
                                        obtain ⟨t378, A550, H⟩ := H
                                        replace H : (quarrylaw10_LevelsOwn.j4 kj48 a0 a1 t358 (wrap64 (t367 + 1)) t368 t371 x11_2 x12_2 t374 x14_2 x15_2 (rd t374 x15_2) (t378 != x14_2)) = some r := H
                                        have A55 := Aside0.mk A550
                                        clear A550
                                        have H' := Aside0.mk H
                                        clear H
                                        go_wp2_with (first | (go_at_call 37; (with_reducible refine (levels_Depth.calls a0 (rd t374 x15_2) t378 _ ?tabk A55.out).mono ?_); (case tabk => exact TK_.out.step (by repeat (first | (with_reducible first | exact HB.out | apply below_alloc | apply pw_below_drewN | apply below_drew1 | refine below_set ?_ GE366.out) | exact HB.out))); rintro e w56 ⟨rfl, hb⟩; have n0_ := Aside0.mk (Kd.R_below (by (with_reducible repeat (first | apply Kd.R_alloc | apply Kd.R_drewN | apply Kd.R_drew)); exact HO_9.out) hb); have n1_ := Aside0.mk (Kd.R_below (by (with_reducible repeat (first | apply Kd.R_alloc | apply Kd.R_drewN | apply Kd.R_drew)); exact HO_10.out) hb); have n2_ := Aside0.mk (Kd.R_below (by (with_reducible repeat (first | apply Kd.R_alloc | apply Kd.R_drewN | apply Kd.R_drew)); exact HO_13.out) hb); have n3_ := Aside0.mk (Kd.S_below (by (with_reducible repeat (first | apply Kd.S_alloc | apply Kd.S_drewN | apply Kd.S_drew)); exact HO_367000.out) hb); have n4_ := Aside0.mk (Kd.S_below (by (with_reducible repeat (first | apply Kd.S_alloc | apply Kd.S_drewN | apply Kd.S_drew)); exact HO_367001.out) hb); have n5_ := Aside0.mk (blk_below (g := gb366) (o := .cells #[.slice Ao12 t359.length co12, .slice Ao14 t362.length co14] 48 (0, 0)) (by (with_reducible repeat (first | refine blk_drewN ?_ _ | refine blk_drew ?_ | refine blk_alloc ?_ _)); exact BK366.out) hb); have n6_ := Aside0.mk (below_step (by repeat (first | (with_reducible first | exact HB.out | apply below_alloc | apply pw_below_drewN | apply below_drew1 | refine below_set ?_ GE366.out) | exact HB.out)) hb); clear HO_9; clear HO_10; clear HO_13; clear HO_367000; clear HO_367001; clear BK366; clear HB; have HO_9 := n0_; have HO_10 := n1_; have HO_13 := n2_; have HO_367000 := n3_; have HO_367001 := n4_; have BK366 := n5_; have HB := n6_; clear n0_ n1_ n2_ n3_ n4_ n5_ n6_; (try clear hb); (try clear hb2); (try clear hk); (try clear hi)))
                                        go_meet
                                        case rel => exact ⟨_, ((t378 != x14_2)), (by first | rfl | (simp; done) | (simp [*]; done)), H', ⟨by have := HJ6.out; have := HK2.out; have := HJ44.out; have := HJ48.out; first | omega | exact Nat.le_refl _⟩, ⟨by (with_reducible repeat (first | apply Kd.R_alloc | apply Kd.R_drewN | apply Kd.R_drew)); exact HO_9.out⟩, ⟨by (with_reducible repeat (first | apply Kd.R_alloc | apply Kd.R_drewN | apply Kd.R_drew)); exact HO_10.out⟩, ⟨by (with_reducible repeat (first | apply Kd.R_alloc | apply Kd.R_drewN | apply Kd.R_drew)); exact HO_13.out⟩, ⟨by (with_reducible repeat (first | apply Kd.S_alloc | apply Kd.S_drewN | apply Kd.S_drew)); exact HO_367000.out⟩, ⟨by (with_reducible repeat (first | apply Kd.S_alloc | apply Kd.S_drewN | apply Kd.S_drew)); exact HO_367001.out⟩, ⟨by (with_reducible repeat (first | refine blk_drewN ?_ _ | refine blk_drew ?_ | refine blk_alloc ?_ _)); exact BK366.out⟩, ⟨by repeat (first | (with_reducible first | exact HB.out | apply below_alloc | apply pw_below_drewN | apply below_drew1 | refine below_set ?_ GE366.out) | exact HB.out)⟩⟩
                                      · rw [if_neg c54] at H
                                        have c54b0 : ((Int.tmod x15_2 (wrap64 ((wrap64 ((t374.length : Int) / 64)) + 1))) == 0) = false := beq_eq_false_iff_ne.mpr c54
                                        have c54b1 : ((Int.tmod x15_2 (wrap64 ((wrap64 ((t374.length : Int) / 64)) + 1))) != 0) = true := bne_iff_ne.mpr c54
                                        have H' := Aside0.mk H
                                        clear H
                                        go_wp2
                                        go_meet
                                        case rel => exact ⟨_, (false), (by first | rfl | (simp; done) | (simp [*]; done)), H', ⟨by have := HJ6.out; have := HK2.out; have := HJ44.out; have := HJ48.out; first | omega | exact Nat.le_refl _⟩, ⟨by (with_reducible repeat (first | apply Kd.R_alloc | apply Kd.R_drewN | apply Kd.R_drew)); exact HO_9.out⟩, ⟨by (with_reducible repeat (first | apply Kd.R_alloc | apply Kd.R_drewN | apply Kd.R_drew)); exact HO_10.out⟩, ⟨by (with_reducible repeat (first | apply Kd.R_alloc | apply Kd.R_drewN | apply Kd.R_drew)); exact HO_13.out⟩, ⟨by (with_reducible repeat (first | apply Kd.S_alloc | apply Kd.S_drewN | apply Kd.S_drew)); exact HO_367000.out⟩, ⟨by (with_reducible repeat (first | apply Kd.S_alloc | apply Kd.S_drewN | apply Kd.S_drew)); exact HO_367001.out⟩, ⟨by (with_reducible repeat (first | refine blk_drewN ?_ _ | refine blk_drew ?_ | refine blk_alloc ?_ _)); exact BK366.out⟩, ⟨by repeat (first | (with_reducible first | exact HB.out | apply below_alloc | apply pw_below_drewN | apply below_drew1 | refine below_set ?_ GE366.out) | exact HB.out)⟩⟩
                                  case rest =>
                                    clear HC52
                                    try clear c2
                                    try clear p2
                                    try clear c3
                                    try clear p3
                                    try clear q3
                                    try clear hx3
                                    try clear c4
                                    try clear c5
                                    try clear p6
                                    try clear c24
                                    try clear c24b0
                                    try clear c25
                                    try clear c25b0
                                    try clear c25b1
                                    try clear c25b2
                                    try clear c26
                                    try clear c33
                                    try clear c34
                                    try clear c37
                                    try clear p37
                                    try clear q37
                                    try clear hx37
                                    try clear c43
                                    try clear c43b0
                                    try clear c44
                                    try clear c44b0
                                    try clear c47
                                    try clear c47b0
                                    try clear c48
                                    try clear c50
                                    try clear c50b0
                                    try clear c51
                                    try clear c53
                                    try clear c53b0
                                    try clear c53b1
                                    try clear c54
                                    try clear c54b0
                                    try clear c54b1
                                    try clear hx377_0
                                    try clear p2
                                    try clear p3
                                    try clear p37
                                    try clear p377
                                    try clear p6
                                    try clear q3
                                    try clear q37
                                    try clear q377
                                    obtain ⟨kq, x111_51, rfl, HA, HJ51, HO_9, HO_10, HO_13, HO_367000, HO_367001, BK366, HB⟩ := hcut
                                    cases kq with
                                    | zero => exact absurd HA.out (by simp [quarrylaw10_LevelsOwn.j4])
                                    | succ kj51 =>
                                      have H := HA.out
                                      clear HA
                                      simp only [quarrylaw10_LevelsOwn.j4] at H
                                      by_cases c57 : x111_51 = true
                                      · subst c57
                                        have H1 : (some false) = some r := by rw [if_pos rfl] at H; exact H
                                        clear H
                                        have H := H1
                                        clear H1
                                        obtain rfl := Option.some.inj H
                                        go_wp2
                                        go_ret
                                        exact ⟨by first | rfl | (simp [errW_none, errW_some] <;> rfl) | (simp [*, errW_none, errW_some] <;> rfl), by repeat (first | (with_reducible first | exact HB.out | apply below_alloc | apply pw_below_drewN | apply below_drew1 | refine below_set ?_ GE366.out) | exact HB.out)⟩
                                      · replace c57 := Bool.eq_false_iff.mpr c57
                                        subst c57
                                        have H1 : (if 0 ≤ (rd t374 x15_2) then (if (rd t374 x15_2) < (a0.size : Int) then (if (bt a0 (rd t374 x15_2)) = 123 then (quarrylaw10_LevelsOwn.j5 kj51 a0 a1 t358 (wrap64 (t367 + 1)) t368 t371 x11_2 x12_2 t374 x14_2 x15_2 (rd t374 x15_2) (bt a0 (rd t374 x15_2)) ((bt a0 (rd t374 x15_2)) == 123)) else (quarrylaw10_LevelsOwn.j5 kj51 a0 a1 t358 (wrap64 (t367 + 1)) t368 t371 x11_2 x12_2 t374 x14_2 x15_2 (rd t374 x15_2) (bt a0 (rd t374 x15_2)) ((bt a0 (rd t374 x15_2)) == 91))) else (none)) else (none)) = some r := by rw [if_neg (show ¬ (false = true) by decide)] at H; exact H
                                        clear H
                                        have H := H1
                                        clear H1
                                        by_cases c58 : 0 ≤ (rd t374 x15_2)
                                        · rw [if_pos c58] at H
                                          have c58b0 : decide (0 ≤ (rd t374 x15_2)) = true := decide_eq_true c58
                                          clear c58
                                          by_cases c59 : (rd t374 x15_2) < (a0.size : Int)
                                          · rw [if_pos c59] at H
                                            have c59b0 : decide ((rd t374 x15_2) < (a0.size : Int)) = true := decide_eq_true c59
                                            clear c59
                                            have HC61 := Aside0.mk H
                                            clear H
                                            have p60 : 0 ≤ ((rd t374 x15_2) : Int) := of_decide_eq_true (by first | (with_reducible assumption) | assumption)
                                            have q60 : (rd t374 x15_2) < (a0.size : Int) := of_decide_eq_true (by first | (with_reducible assumption) | assumption)
                                            have hx60 := bt_at a0 (rd t374 x15_2)
                                            replace p60 := eq_true p60
                                            replace q60 := eq_true q60
                                            go_upto_block 2 with (fail)
                                            go_cut [14] (fun v14 wc => ∃ (kq : Nat) (x14_60 : Int), v14 = .int .i64 x14_60 ∧ Aside0 (quarrylaw10_LevelsOwn.j6 kq a0 a1 t358 (wrap64 (t367 + 1)) t368 t371 x11_2 x12_2 t374 x14_60 x15_2 (rd t374 x15_2) = some r) ∧ Aside0 (kq ≤ kj51) ∧ Aside0 (Kd.R (Kd.int .i64) 3 wc w.heap.size (fun k_ => some k_ ≠ (v372 : Value).ownBlock ∧ some k_ ≠ ((.slice (some ad377) t374.length co46) : Value).ownBlock) v369 t368) ∧ Aside0 (Kd.R (Kd.int .i64) 3 wc w.heap.size (fun k_ => some k_ ≠ (v369 : Value).ownBlock ∧ some k_ ≠ ((.slice (some ad377) t374.length co46) : Value).ownBlock) v372 t371) ∧ Aside0 (Kd.R (Kd.int .i64) 3 wc w.heap.size (fun k_ => some k_ ≠ (v369 : Value).ownBlock ∧ some k_ ≠ (v372 : Value).ownBlock) (.slice (some ad377) t374.length co46) t374) ∧ Aside0 (Kd.S k34 34 wc w.heap.size (fun k_ => some k_ ≠ ((.slice Ao14 t362.length co14) : Value).ownBlock) (.slice Ao12 t359.length co12) t359) ∧ Aside0 (Kd.S k34 34 wc w.heap.size (fun k_ => some k_ ≠ ((.slice Ao12 t359.length co12) : Value).ownBlock) (.slice Ao14 t362.length co14) t362) ∧ Aside0 (wc.heap[gb366]? = some (.cells #[(.slice Ao12 t359.length co12), (.slice Ao14 t362.length co14)] 48 (0, 0))) ∧ Aside0 (Below w.heap.size w wc))
                                            case first =>
                                              have H := HC61.out
                                              clear HC61
                                              have HC62 := Aside0.mk H
                                              clear H
                                              go_upto_if 115 with (fail)
                                              go_cut [115] (fun v115 wc => ∃ (kq : Nat) (x115_61 : Bool), v115 = .bool x115_61 ∧ Aside0 (quarrylaw10_LevelsOwn.j5 kq a0 a1 t358 (wrap64 (t367 + 1)) t368 t371 x11_2 x12_2 t374 x14_2 x15_2 (rd t374 x15_2) (bt a0 (rd t374 x15_2)) x115_61 = some r) ∧ Aside0 (kq ≤ kj51) ∧ Aside0 (Kd.R (Kd.int .i64) 3 wc w.heap.size (fun k_ => some k_ ≠ (v372 : Value).ownBlock ∧ some k_ ≠ ((.slice (some ad377) t374.length co46) : Value).ownBlock) v369 t368) ∧ Aside0 (Kd.R (Kd.int .i64) 3 wc w.heap.size (fun k_ => some k_ ≠ (v369 : Value).ownBlock ∧ some k_ ≠ ((.slice (some ad377) t374.length co46) : Value).ownBlock) v372 t371) ∧ Aside0 (Kd.R (Kd.int .i64) 3 wc w.heap.size (fun k_ => some k_ ≠ (v369 : Value).ownBlock ∧ some k_ ≠ (v372 : Value).ownBlock) (.slice (some ad377) t374.length co46) t374) ∧ Aside0 (Kd.S k34 34 wc w.heap.size (fun k_ => some k_ ≠ ((.slice Ao14 t362.length co14) : Value).ownBlock) (.slice Ao12 t359.length co12) t359) ∧ Aside0 (Kd.S k34 34 wc w.heap.size (fun k_ => some k_ ≠ ((.slice Ao12 t359.length co12) : Value).ownBlock) (.slice Ao14 t362.length co14) t362) ∧ Aside0 (wc.heap[gb366]? = some (.cells #[(.slice Ao12 t359.length co12), (.slice Ao14 t362.length co14)] 48 (0, 0))) ∧ Aside0 (Below w.heap.size w wc))
                                              case first =>
                                                have H := HC62.out
                                                clear HC62
                                                by_cases c63 : (bt a0 (rd t374 x15_2)) = 123
                                                · rw [if_pos c63] at H
                                                  have c63b0 : ((bt a0 (rd t374 x15_2)) == 123) = true := beq_iff_eq.mpr c63
                                                  have c63b1 : ((bt a0 (rd t374 x15_2)) != 123) = false := bne_eq_false_iff_eq.mpr c63
                                                  clear c63
                                                  (first | rw [c63b0] | (simp only [i64_w, i32_w]; rw [c63b0]) | skip)
                                                  have H' := Aside0.mk H
                                                  clear H
                                                  go_wp2
                                                  go_meet
                                                  case rel => exact ⟨_, (((bt a0 (rd t374 x15_2)) == 123)), (by first | rfl | (simp; done) | (simp [*]; done)), H', ⟨by have := HJ6.out; have := HK2.out; have := HJ44.out; have := HJ48.out; have := HJ51.out; first | omega | exact Nat.le_refl _⟩, ⟨by (with_reducible repeat (first | apply Kd.R_alloc | apply Kd.R_drewN | apply Kd.R_drew)); exact HO_9.out⟩, ⟨by (with_reducible repeat (first | apply Kd.R_alloc | apply Kd.R_drewN | apply Kd.R_drew)); exact HO_10.out⟩, ⟨by (with_reducible repeat (first | apply Kd.R_alloc | apply Kd.R_drewN | apply Kd.R_drew)); exact HO_13.out⟩, ⟨by (with_reducible repeat (first | apply Kd.S_alloc | apply Kd.S_drewN | apply Kd.S_drew)); exact HO_367000.out⟩, ⟨by (with_reducible repeat (first | apply Kd.S_alloc | apply Kd.S_drewN | apply Kd.S_drew)); exact HO_367001.out⟩, ⟨by (with_reducible repeat (first | refine blk_drewN ?_ _ | refine blk_drew ?_ | refine blk_alloc ?_ _)); exact BK366.out⟩, ⟨by repeat (first | (with_reducible first | exact HB.out | apply below_alloc | apply pw_below_drewN | apply below_drew1 | refine below_set ?_ GE366.out) | exact HB.out)⟩⟩
                                                · rw [if_neg c63] at H
                                                  have c63b0 : ((bt a0 (rd t374 x15_2)) == 123) = false := beq_eq_false_iff_ne.mpr c63
                                                  have c63b1 : ((bt a0 (rd t374 x15_2)) != 123) = true := bne_iff_ne.mpr c63
                                                  (first | rw [c63b0] | (simp only [i64_w, i32_w]; rw [c63b0]) | skip)
                                                  have H' := Aside0.mk H
                                                  clear H
                                                  go_wp2
                                                  go_meet
                                                  case rel => exact ⟨_, (((bt a0 (rd t374 x15_2)) == 91)), (by first | rfl | (simp; done) | (simp [*]; done)), H', ⟨by have := HJ6.out; have := HK2.out; have := HJ44.out; have := HJ48.out; have := HJ51.out; first | omega | exact Nat.le_refl _⟩, ⟨by (with_reducible repeat (first | apply Kd.R_alloc | apply Kd.R_drewN | apply Kd.R_drew)); exact HO_9.out⟩, ⟨by (with_reducible repeat (first | apply Kd.R_alloc | apply Kd.R_drewN | apply Kd.R_drew)); exact HO_10.out⟩, ⟨by (with_reducible repeat (first | apply Kd.R_alloc | apply Kd.R_drewN | apply Kd.R_drew)); exact HO_13.out⟩, ⟨by (with_reducible repeat (first | apply Kd.S_alloc | apply Kd.S_drewN | apply Kd.S_drew)); exact HO_367000.out⟩, ⟨by (with_reducible repeat (first | apply Kd.S_alloc | apply Kd.S_drewN | apply Kd.S_drew)); exact HO_367001.out⟩, ⟨by (with_reducible repeat (first | refine blk_drewN ?_ _ | refine blk_drew ?_ | refine blk_alloc ?_ _)); exact BK366.out⟩, ⟨by repeat (first | (with_reducible first | exact HB.out | apply below_alloc | apply pw_below_drewN | apply below_drew1 | refine below_set ?_ GE366.out) | exact HB.out)⟩⟩
                                              case rest =>
                                                clear HC62
                                                try clear c2
                                                try clear p2
                                                try clear c3
                                                try clear p3
                                                try clear q3
                                                try clear hx3
                                                try clear c4
                                                try clear c5
                                                try clear c6
                                                try clear p6
                                                try clear q6
                                                try clear hx6
                                                try clear c24
                                                try clear c24b0
                                                try clear c25
                                                try clear c25b0
                                                try clear c25b1
                                                try clear c25b2
                                                try clear c26
                                                try clear c33
                                                try clear c34
                                                try clear c37
                                                try clear p37
                                                try clear q37
                                                try clear hx37
                                                try clear c43
                                                try clear c43b0
                                                try clear c44
                                                try clear c44b0
                                                try clear c47
                                                try clear c47b0
                                                try clear c48
                                                try clear c50
                                                try clear c50b0
                                                try clear c51
                                                try clear c53
                                                try clear c53b0
                                                try clear c53b1
                                                try clear c54
                                                try clear c54b0
                                                try clear c54b1
                                                try clear c57
                                                try clear c58
                                                try clear c58b0
                                                try clear c59
                                                try clear c59b0
                                                try clear p60
                                                try clear q60
                                                try clear hx60
                                                try clear c63
                                                try clear c63b0
                                                try clear c63b1
                                                try clear hx377_0
                                                try clear p2
                                                try clear p3
                                                try clear p37
                                                try clear p377
                                                try clear p6
                                                try clear p60
                                                try clear q3
                                                try clear q37
                                                try clear q377
                                                try clear q60
                                                obtain ⟨kq, x115_61, rfl, HA, HJ61, HO_9, HO_10, HO_13, HO_367000, HO_367001, BK366, HB⟩ := hcut
                                                cases kq with
                                                | zero => exact absurd HA.out (by simp [quarrylaw10_LevelsOwn.j5])
                                                | succ kj61 =>
                                                  have H := HA.out
                                                  clear HA
                                                  simp only [quarrylaw10_LevelsOwn.j5] at H
                                                  by_cases c64 : x115_61 = true
                                                  · subst c64
                                                    have H1 : (quarrylaw10_LevelsOwn.j6 kj61 a0 a1 t358 (wrap64 (t367 + 1)) t368 t371 x11_2 x12_2 t374 (wrap64 (x14_2 + 1)) x15_2 (rd t374 x15_2)) = some r := by rw [if_pos rfl] at H; exact H
                                                    clear H
                                                    have H := H1
                                                    clear H1
                                                    have H' := Aside0.mk H
                                                    clear H
                                                    go_wp2
                                                    go_meet
                                                    case rel => exact ⟨_, (wrap64 (x14_2 + 1)), (by first | rfl | (simp; done) | (simp [*]; done)), H', ⟨by have := HJ6.out; have := HK2.out; have := HJ44.out; have := HJ48.out; have := HJ51.out; have := HJ61.out; first | omega | exact Nat.le_refl _⟩, ⟨by (with_reducible repeat (first | apply Kd.R_alloc | apply Kd.R_drewN | apply Kd.R_drew)); exact HO_9.out⟩, ⟨by (with_reducible repeat (first | apply Kd.R_alloc | apply Kd.R_drewN | apply Kd.R_drew)); exact HO_10.out⟩, ⟨by (with_reducible repeat (first | apply Kd.R_alloc | apply Kd.R_drewN | apply Kd.R_drew)); exact HO_13.out⟩, ⟨by (with_reducible repeat (first | apply Kd.S_alloc | apply Kd.S_drewN | apply Kd.S_drew)); exact HO_367000.out⟩, ⟨by (with_reducible repeat (first | apply Kd.S_alloc | apply Kd.S_drewN | apply Kd.S_drew)); exact HO_367001.out⟩, ⟨by (with_reducible repeat (first | refine blk_drewN ?_ _ | refine blk_drew ?_ | refine blk_alloc ?_ _)); exact BK366.out⟩, ⟨by repeat (first | (with_reducible first | exact HB.out | apply below_alloc | apply pw_below_drewN | apply below_drew1 | refine below_set ?_ GE366.out) | exact HB.out)⟩⟩
                                                  · replace c64 := Bool.eq_false_iff.mpr c64
                                                    subst c64
                                                    have H1 : (if (bt a0 (rd t374 x15_2)) = 125 then (quarrylaw10_LevelsOwn.j6 kj61 a0 a1 t358 (wrap64 (t367 + 1)) t368 t371 x11_2 x12_2 t374 (wrap64 (x14_2 - 1)) x15_2 (rd t374 x15_2)) else (if (bt a0 (rd t374 x15_2)) = 93 then (quarrylaw10_LevelsOwn.j6 kj61 a0 a1 t358 (wrap64 (t367 + 1)) t368 t371 x11_2 x12_2 t374 (wrap64 (x14_2 - 1)) x15_2 (rd t374 x15_2)) else (quarrylaw10_LevelsOwn.j6 kj61 a0 a1 t358 (wrap64 (t367 + 1)) t368 t371 x11_2 x12_2 t374 x14_2 x15_2 (rd t374 x15_2)))) = some r := by rw [if_neg (show ¬ (false = true) by decide)] at H; exact H
                                                    clear H
                                                    have H := H1
                                                    clear H1
                                                    by_cases c65 : (bt a0 (rd t374 x15_2)) = 125
                                                    · rw [if_pos c65] at H
                                                      have c65b0 : ((bt a0 (rd t374 x15_2)) == 125) = true := beq_iff_eq.mpr c65
                                                      have c65b1 : ((bt a0 (rd t374 x15_2)) != 125) = false := bne_eq_false_iff_eq.mpr c65
                                                      clear c65
                                                      have H' := Aside0.mk H
                                                      clear H
                                                      go_wp2
                                                      go_meet
                                                      case rel => exact ⟨_, (wrap64 (x14_2 - 1)), (by first | rfl | (simp; done) | (simp [*]; done)), H', ⟨by have := HJ6.out; have := HK2.out; have := HJ44.out; have := HJ48.out; have := HJ51.out; have := HJ61.out; first | omega | exact Nat.le_refl _⟩, ⟨by (with_reducible repeat (first | apply Kd.R_alloc | apply Kd.R_drewN | apply Kd.R_drew)); exact HO_9.out⟩, ⟨by (with_reducible repeat (first | apply Kd.R_alloc | apply Kd.R_drewN | apply Kd.R_drew)); exact HO_10.out⟩, ⟨by (with_reducible repeat (first | apply Kd.R_alloc | apply Kd.R_drewN | apply Kd.R_drew)); exact HO_13.out⟩, ⟨by (with_reducible repeat (first | apply Kd.S_alloc | apply Kd.S_drewN | apply Kd.S_drew)); exact HO_367000.out⟩, ⟨by (with_reducible repeat (first | apply Kd.S_alloc | apply Kd.S_drewN | apply Kd.S_drew)); exact HO_367001.out⟩, ⟨by (with_reducible repeat (first | refine blk_drewN ?_ _ | refine blk_drew ?_ | refine blk_alloc ?_ _)); exact BK366.out⟩, ⟨by repeat (first | (with_reducible first | exact HB.out | apply below_alloc | apply pw_below_drewN | apply below_drew1 | refine below_set ?_ GE366.out) | exact HB.out)⟩⟩
                                                    · rw [if_neg c65] at H
                                                      have c65b0 : ((bt a0 (rd t374 x15_2)) == 125) = false := beq_eq_false_iff_ne.mpr c65
                                                      have c65b1 : ((bt a0 (rd t374 x15_2)) != 125) = true := bne_iff_ne.mpr c65
                                                      by_cases c66 : (bt a0 (rd t374 x15_2)) = 93
                                                      · rw [if_pos c66] at H
                                                        have c66b0 : ((bt a0 (rd t374 x15_2)) == 93) = true := beq_iff_eq.mpr c66
                                                        have c66b1 : ((bt a0 (rd t374 x15_2)) != 93) = false := bne_eq_false_iff_eq.mpr c66
                                                        clear c66
                                                        have H' := Aside0.mk H
                                                        clear H
                                                        go_wp2
                                                        go_meet
                                                        case rel => exact ⟨_, (wrap64 (x14_2 - 1)), (by first | rfl | (simp; done) | (simp [*]; done)), H', ⟨by have := HJ6.out; have := HK2.out; have := HJ44.out; have := HJ48.out; have := HJ51.out; have := HJ61.out; first | omega | exact Nat.le_refl _⟩, ⟨by (with_reducible repeat (first | apply Kd.R_alloc | apply Kd.R_drewN | apply Kd.R_drew)); exact HO_9.out⟩, ⟨by (with_reducible repeat (first | apply Kd.R_alloc | apply Kd.R_drewN | apply Kd.R_drew)); exact HO_10.out⟩, ⟨by (with_reducible repeat (first | apply Kd.R_alloc | apply Kd.R_drewN | apply Kd.R_drew)); exact HO_13.out⟩, ⟨by (with_reducible repeat (first | apply Kd.S_alloc | apply Kd.S_drewN | apply Kd.S_drew)); exact HO_367000.out⟩, ⟨by (with_reducible repeat (first | apply Kd.S_alloc | apply Kd.S_drewN | apply Kd.S_drew)); exact HO_367001.out⟩, ⟨by (with_reducible repeat (first | refine blk_drewN ?_ _ | refine blk_drew ?_ | refine blk_alloc ?_ _)); exact BK366.out⟩, ⟨by repeat (first | (with_reducible first | exact HB.out | apply below_alloc | apply pw_below_drewN | apply below_drew1 | refine below_set ?_ GE366.out) | exact HB.out)⟩⟩
                                                      · rw [if_neg c66] at H
                                                        have c66b0 : ((bt a0 (rd t374 x15_2)) == 93) = false := beq_eq_false_iff_ne.mpr c66
                                                        have c66b1 : ((bt a0 (rd t374 x15_2)) != 93) = true := bne_iff_ne.mpr c66
                                                        have H' := Aside0.mk H
                                                        clear H
                                                        go_wp2
                                                        go_meet
                                                        case rel => exact ⟨_, (x14_2), (by first | rfl | (simp; done) | (simp [*]; done)), H', ⟨by have := HJ6.out; have := HK2.out; have := HJ44.out; have := HJ48.out; have := HJ51.out; have := HJ61.out; first | omega | exact Nat.le_refl _⟩, ⟨by (with_reducible repeat (first | apply Kd.R_alloc | apply Kd.R_drewN | apply Kd.R_drew)); exact HO_9.out⟩, ⟨by (with_reducible repeat (first | apply Kd.R_alloc | apply Kd.R_drewN | apply Kd.R_drew)); exact HO_10.out⟩, ⟨by (with_reducible repeat (first | apply Kd.R_alloc | apply Kd.R_drewN | apply Kd.R_drew)); exact HO_13.out⟩, ⟨by (with_reducible repeat (first | apply Kd.S_alloc | apply Kd.S_drewN | apply Kd.S_drew)); exact HO_367000.out⟩, ⟨by (with_reducible repeat (first | apply Kd.S_alloc | apply Kd.S_drewN | apply Kd.S_drew)); exact HO_367001.out⟩, ⟨by (with_reducible repeat (first | refine blk_drewN ?_ _ | refine blk_drew ?_ | refine blk_alloc ?_ _)); exact BK366.out⟩, ⟨by repeat (first | (with_reducible first | exact HB.out | apply below_alloc | apply pw_below_drewN | apply below_drew1 | refine below_set ?_ GE366.out) | exact HB.out)⟩⟩
                                            case rest =>
                                              clear HC61
                                              try clear c2
                                              try clear p2
                                              try clear c3
                                              try clear p3
                                              try clear q3
                                              try clear hx3
                                              try clear c4
                                              try clear c5
                                              try clear c6
                                              try clear p6
                                              try clear q6
                                              try clear hx6
                                              try clear c24
                                              try clear c24b0
                                              try clear c25
                                              try clear c25b0
                                              try clear c25b1
                                              try clear c25b2
                                              try clear c26
                                              try clear c33
                                              try clear c34
                                              try clear c37
                                              try clear p37
                                              try clear q37
                                              try clear hx37
                                              try clear c43
                                              try clear c43b0
                                              try clear c44
                                              try clear c44b0
                                              try clear c47
                                              try clear c47b0
                                              try clear c48
                                              try clear c50
                                              try clear c50b0
                                              try clear c51
                                              try clear c53
                                              try clear c53b0
                                              try clear c53b1
                                              try clear c54
                                              try clear c54b0
                                              try clear c54b1
                                              try clear c57
                                              try clear c58
                                              try clear c58b0
                                              try clear c59
                                              try clear c59b0
                                              try clear p60
                                              try clear q60
                                              try clear hx60
                                              try clear c63
                                              try clear c63b0
                                              try clear c63b1
                                              try clear c64
                                              try clear p64
                                              try clear c65
                                              try clear c65b0
                                              try clear c65b1
                                              try clear c66
                                              try clear c66b0
                                              try clear c66b1
                                              try clear hx377_0
                                              try clear p2
                                              try clear p3
                                              try clear p37
                                              try clear p377
                                              try clear p6
                                              try clear p60
                                              try clear q3
                                              try clear q37
                                              try clear q377
                                              try clear q6
                                              try clear q60
                                              obtain ⟨kq, x14_60, rfl, HA, HJ60, HO_9, HO_10, HO_13, HO_367000, HO_367001, BK366, HB⟩ := hcut
                                              cases kq with
                                              | zero => exact absurd HA.out (by simp [quarrylaw10_LevelsOwn.j6])
                                              | succ kj60 =>
                                                have H := HA.out
                                                clear HA
                                                simp only [quarrylaw10_LevelsOwn.j6] at H
                                                have HC67 := Aside0.mk H
                                                clear H
                                                go_upto_region 32 with (fail)
                                                go_cut [139] (fun v139 wc => ∃ (kq : Nat) (x139_66 : Bool), v139 = .bool x139_66 ∧ Aside0 (quarrylaw10_LevelsOwn.j7 kq a0 a1 t358 (wrap64 (t367 + 1)) t368 t371 x11_2 x12_2 t374 x14_60 x15_2 (rd t374 x15_2) x139_66 = some r) ∧ Aside0 (kq ≤ kj60) ∧ Aside0 (Kd.R (Kd.int .i64) 3 wc w.heap.size (fun k_ => some k_ ≠ (v372 : Value).ownBlock ∧ some k_ ≠ ((.slice (some ad377) t374.length co46) : Value).ownBlock) v369 t368) ∧ Aside0 (Kd.R (Kd.int .i64) 3 wc w.heap.size (fun k_ => some k_ ≠ (v369 : Value).ownBlock ∧ some k_ ≠ ((.slice (some ad377) t374.length co46) : Value).ownBlock) v372 t371) ∧ Aside0 (Kd.R (Kd.int .i64) 3 wc w.heap.size (fun k_ => some k_ ≠ (v369 : Value).ownBlock ∧ some k_ ≠ (v372 : Value).ownBlock) (.slice (some ad377) t374.length co46) t374) ∧ Aside0 (Kd.S k34 34 wc w.heap.size (fun k_ => some k_ ≠ ((.slice Ao14 t362.length co14) : Value).ownBlock) (.slice Ao12 t359.length co12) t359) ∧ Aside0 (Kd.S k34 34 wc w.heap.size (fun k_ => some k_ ≠ ((.slice Ao12 t359.length co12) : Value).ownBlock) (.slice Ao14 t362.length co14) t362) ∧ Aside0 (wc.heap[gb366]? = some (.cells #[(.slice Ao12 t359.length co12), (.slice Ao14 t362.length co14)] 48 (0, 0))) ∧ Aside0 (Below w.heap.size w wc))
                                                case first =>
                                                  have H := HC67.out
                                                  clear HC67
                                                  by_cases c68 : 0 ≤ (rd t374 x15_2)
                                                  · rw [if_pos c68] at H
                                                    have c68b0 : decide (0 ≤ (rd t374 x15_2)) = true := decide_eq_true c68
                                                    clear c68
                                                    (first | rw [c68b0] | (simp only [i64_w, i32_w]; rw [c68b0]) | skip)
                                                    by_cases c69 : (rd t374 x15_2) < (a0.size : Int)
                                                    · rw [if_pos c69] at H
                                                      have c69b0 : decide ((rd t374 x15_2) < (a0.size : Int)) = true := decide_eq_true c69
                                                      clear c69
                                                      by_cases c71 : (bt a0 (rd t374 x15_2)) = 58
                                                      · rw [if_pos c71] at H
                                                        have c71b0 : ((bt a0 (rd t374 x15_2)) == 58) = true := beq_iff_eq.mpr c71
                                                        have c71b1 : ((bt a0 (rd t374 x15_2)) != 58) = false := bne_eq_false_iff_eq.mpr c71
                                                        clear c71
                                                        have H' := Aside0.mk H
                                                        clear H
                                                        have p70 : 0 ≤ ((rd t374 x15_2) : Int) := of_decide_eq_true (by first | (with_reducible assumption) | assumption)
                                                        have q70 : (rd t374 x15_2) < (a0.size : Int) := of_decide_eq_true (by first | (with_reducible assumption) | assumption)
                                                        have hx70 := bt_at a0 (rd t374 x15_2)
                                                        replace p70 := eq_true p70
                                                        replace q70 := eq_true q70
                                                        go_wp2
                                                        go_meet
                                                        case rel => exact ⟨_, ((x14_60 != (wrap64 (t367 + 1)))), (by first | rfl | (simp; done) | (simp [*]; done)), H', ⟨by have := HJ6.out; have := HK2.out; have := HJ44.out; have := HJ48.out; have := HJ51.out; have := HJ60.out; first | omega | exact Nat.le_refl _⟩, ⟨by (with_reducible repeat (first | apply Kd.R_alloc | apply Kd.R_drewN | apply Kd.R_drew)); exact HO_9.out⟩, ⟨by (with_reducible repeat (first | apply Kd.R_alloc | apply Kd.R_drewN | apply Kd.R_drew)); exact HO_10.out⟩, ⟨by (with_reducible repeat (first | apply Kd.R_alloc | apply Kd.R_drewN | apply Kd.R_drew)); exact HO_13.out⟩, ⟨by (with_reducible repeat (first | apply Kd.S_alloc | apply Kd.S_drewN | apply Kd.S_drew)); exact HO_367000.out⟩, ⟨by (with_reducible repeat (first | apply Kd.S_alloc | apply Kd.S_drewN | apply Kd.S_drew)); exact HO_367001.out⟩, ⟨by (with_reducible repeat (first | refine blk_drewN ?_ _ | refine blk_drew ?_ | refine blk_alloc ?_ _)); exact BK366.out⟩, ⟨by repeat (first | (with_reducible first | exact HB.out | apply below_alloc | apply pw_below_drewN | apply below_drew1 | refine below_set ?_ GE366.out) | exact HB.out)⟩⟩
                                                      · rw [if_neg c71] at H
                                                        have c71b0 : ((bt a0 (rd t374 x15_2)) == 58) = false := beq_eq_false_iff_ne.mpr c71
                                                        have c71b1 : ((bt a0 (rd t374 x15_2)) != 58) = true := bne_iff_ne.mpr c71
                                                        by_cases c73 : (bt a0 (rd t374 x15_2)) = 44
                                                        · rw [if_pos c73] at H
                                                          have c73b0 : ((bt a0 (rd t374 x15_2)) == 44) = true := beq_iff_eq.mpr c73
                                                          have c73b1 : ((bt a0 (rd t374 x15_2)) != 44) = false := bne_eq_false_iff_eq.mpr c73
                                                          clear c73
                                                          have H' := Aside0.mk H
                                                          clear H
                                                          have p70 : 0 ≤ ((rd t374 x15_2) : Int) := of_decide_eq_true (by first | (with_reducible assumption) | assumption)
                                                          have q70 : (rd t374 x15_2) < (a0.size : Int) := of_decide_eq_true (by first | (with_reducible assumption) | assumption)
                                                          have hx70 := bt_at a0 (rd t374 x15_2)
                                                          replace p70 := eq_true p70
                                                          replace q70 := eq_true q70
                                                          have p72 : 0 ≤ ((rd t374 x15_2) : Int) := of_decide_eq_true (by first | (with_reducible assumption) | assumption)
                                                          have q72 : (rd t374 x15_2) < (a0.size : Int) := of_decide_eq_true (by first | (with_reducible assumption) | assumption)
                                                          have hx72 := bt_at a0 (rd t374 x15_2)
                                                          replace p72 := eq_true p72
                                                          replace q72 := eq_true q72
                                                          go_wp2
                                                          go_meet
                                                          case rel => exact ⟨_, ((x14_60 != (wrap64 (t367 + 1)))), (by first | rfl | (simp; done) | (simp [*]; done)), H', ⟨by have := HJ6.out; have := HK2.out; have := HJ44.out; have := HJ48.out; have := HJ51.out; have := HJ60.out; first | omega | exact Nat.le_refl _⟩, ⟨by (with_reducible repeat (first | apply Kd.R_alloc | apply Kd.R_drewN | apply Kd.R_drew)); exact HO_9.out⟩, ⟨by (with_reducible repeat (first | apply Kd.R_alloc | apply Kd.R_drewN | apply Kd.R_drew)); exact HO_10.out⟩, ⟨by (with_reducible repeat (first | apply Kd.R_alloc | apply Kd.R_drewN | apply Kd.R_drew)); exact HO_13.out⟩, ⟨by (with_reducible repeat (first | apply Kd.S_alloc | apply Kd.S_drewN | apply Kd.S_drew)); exact HO_367000.out⟩, ⟨by (with_reducible repeat (first | apply Kd.S_alloc | apply Kd.S_drewN | apply Kd.S_drew)); exact HO_367001.out⟩, ⟨by (with_reducible repeat (first | refine blk_drewN ?_ _ | refine blk_drew ?_ | refine blk_alloc ?_ _)); exact BK366.out⟩, ⟨by repeat (first | (with_reducible first | exact HB.out | apply below_alloc | apply pw_below_drewN | apply below_drew1 | refine below_set ?_ GE366.out) | exact HB.out)⟩⟩
                                                        · rw [if_neg c73] at H
                                                          have c73b0 : ((bt a0 (rd t374 x15_2)) == 44) = false := beq_eq_false_iff_ne.mpr c73
                                                          have c73b1 : ((bt a0 (rd t374 x15_2)) != 44) = true := bne_iff_ne.mpr c73
                                                          have H' := Aside0.mk H
                                                          clear H
                                                          have p70 : 0 ≤ ((rd t374 x15_2) : Int) := of_decide_eq_true (by first | (with_reducible assumption) | assumption)
                                                          have q70 : (rd t374 x15_2) < (a0.size : Int) := of_decide_eq_true (by first | (with_reducible assumption) | assumption)
                                                          have hx70 := bt_at a0 (rd t374 x15_2)
                                                          replace p70 := eq_true p70
                                                          replace q70 := eq_true q70
                                                          have p72 : 0 ≤ ((rd t374 x15_2) : Int) := of_decide_eq_true (by first | (with_reducible assumption) | assumption)
                                                          have q72 : (rd t374 x15_2) < (a0.size : Int) := of_decide_eq_true (by first | (with_reducible assumption) | assumption)
                                                          have hx72 := bt_at a0 (rd t374 x15_2)
                                                          replace p72 := eq_true p72
                                                          replace q72 := eq_true q72
                                                          go_wp2
                                                          go_meet
                                                          case rel => exact ⟨_, (true), (by first | rfl | (simp; done) | (simp [*]; done)), H', ⟨by have := HJ6.out; have := HK2.out; have := HJ44.out; have := HJ48.out; have := HJ51.out; have := HJ60.out; first | omega | exact Nat.le_refl _⟩, ⟨by (with_reducible repeat (first | apply Kd.R_alloc | apply Kd.R_drewN | apply Kd.R_drew)); exact HO_9.out⟩, ⟨by (with_reducible repeat (first | apply Kd.R_alloc | apply Kd.R_drewN | apply Kd.R_drew)); exact HO_10.out⟩, ⟨by (with_reducible repeat (first | apply Kd.R_alloc | apply Kd.R_drewN | apply Kd.R_drew)); exact HO_13.out⟩, ⟨by (with_reducible repeat (first | apply Kd.S_alloc | apply Kd.S_drewN | apply Kd.S_drew)); exact HO_367000.out⟩, ⟨by (with_reducible repeat (first | apply Kd.S_alloc | apply Kd.S_drewN | apply Kd.S_drew)); exact HO_367001.out⟩, ⟨by (with_reducible repeat (first | refine blk_drewN ?_ _ | refine blk_drew ?_ | refine blk_alloc ?_ _)); exact BK366.out⟩, ⟨by repeat (first | (with_reducible first | exact HB.out | apply below_alloc | apply pw_below_drewN | apply below_drew1 | refine below_set ?_ GE366.out) | exact HB.out)⟩⟩
                                                    · rw [if_neg c69] at H
                                                      exact absurd H (by simp)
                                                  · rw [if_neg c68] at H
                                                    exact absurd H (by simp)
                                                case rest =>
                                                  clear HC67
                                                  try clear c2
                                                  try clear p2
                                                  try clear c3
                                                  try clear p3
                                                  try clear q3
                                                  try clear hx3
                                                  try clear c4
                                                  try clear c5
                                                  try clear c6
                                                  try clear p6
                                                  try clear q6
                                                  try clear hx6
                                                  try clear c7
                                                  try clear p7
                                                  try clear q7
                                                  try clear hx7
                                                  try clear c24
                                                  try clear c24b0
                                                  try clear c25
                                                  try clear c25b0
                                                  try clear c25b1
                                                  try clear c25b2
                                                  try clear c26
                                                  try clear c33
                                                  try clear c34
                                                  try clear c37
                                                  try clear p37
                                                  try clear q37
                                                  try clear hx37
                                                  try clear c43
                                                  try clear c43b0
                                                  try clear c44
                                                  try clear c44b0
                                                  try clear c47
                                                  try clear c47b0
                                                  try clear c48
                                                  try clear c50
                                                  try clear c50b0
                                                  try clear c51
                                                  try clear c53
                                                  try clear c53b0
                                                  try clear c53b1
                                                  try clear c54
                                                  try clear c54b0
                                                  try clear c54b1
                                                  try clear c57
                                                  try clear c58
                                                  try clear c58b0
                                                  try clear c59
                                                  try clear c59b0
                                                  try clear p60
                                                  try clear q60
                                                  try clear hx60
                                                  try clear c63
                                                  try clear c63b0
                                                  try clear c63b1
                                                  try clear c64
                                                  try clear p64
                                                  try clear c65
                                                  try clear c65b0
                                                  try clear c65b1
                                                  try clear c66
                                                  try clear c66b0
                                                  try clear c66b1
                                                  try clear c68
                                                  try clear c68b0
                                                  try clear c69
                                                  try clear c69b0
                                                  try clear p70
                                                  try clear q70
                                                  try clear hx70
                                                  try clear c71
                                                  try clear c71b0
                                                  try clear c71b1
                                                  try clear p72
                                                  try clear q72
                                                  try clear hx72
                                                  try clear c73
                                                  try clear c73b0
                                                  try clear c73b1
                                                  try clear hx377_0
                                                  try clear p2
                                                  try clear p3
                                                  try clear p37
                                                  try clear p377
                                                  try clear p6
                                                  try clear p60
                                                  try clear p64
                                                  try clear p70
                                                  try clear p72
                                                  try clear q3
                                                  try clear q37
                                                  try clear q377
                                                  try clear q6
                                                  try clear q60
                                                  try clear q70
                                                  try clear q72
                                                  obtain ⟨kq, x139_66, rfl, HA, HJ66, HO_9, HO_10, HO_13, HO_367000, HO_367001, BK366, HB⟩ := hcut
                                                  cases kq with
                                                  | zero => exact absurd HA.out (by simp [quarrylaw10_LevelsOwn.j7])
                                                  | succ kj66 =>
                                                    have H := HA.out
                                                    clear HA
                                                    simp only [quarrylaw10_LevelsOwn.j7] at H
                                                    by_cases c74 : x139_66 = true
                                                    · subst c74
                                                      have H1 : (quarrylaw10_LevelsOwn.l0 kj66 a0 a1 t358 (wrap64 (t367 + 1)) t368 t371 x11_2 x12_2 t374 x14_60 (wrap64 (x15_2 + 1))) = some r := by rw [if_pos rfl] at H; exact H
                                                      clear H
                                                      have H := H1
                                                      clear H1
                                                      have H' := Aside0.mk H
                                                      clear H
                                                      go_wp2
                                                      go_roundg kj66
                                                      case measure => have := HJ6.out; have := HK2.out; have := HJ44.out; have := HJ48.out; have := HJ51.out; have := HJ60.out; have := HJ66.out; omega
                                                      case rel => exact ⟨(x11_2), (x12_2), (x14_60), (wrap64 (x15_2 + 1)), (by first | rfl | (simp; done) | (simp [*]; done)), (by first | rfl | (simp; done) | (simp [*]; done)), (by first | rfl | (simp; done) | (simp [*]; done)), (by first | rfl | (simp; done) | (simp [*]; done)), H', ⟨by have := HJ6.out; have := HK2.out; have := HJ44.out; have := HJ48.out; have := HJ51.out; have := HJ60.out; have := HJ66.out; omega⟩, ⟨by (with_reducible repeat (first | apply Kd.R_alloc | apply Kd.R_drewN | apply Kd.R_drew)); exact HO_9.out⟩, ⟨by (with_reducible repeat (first | apply Kd.R_alloc | apply Kd.R_drewN | apply Kd.R_drew)); exact HO_10.out⟩, ⟨by (with_reducible repeat (first | apply Kd.R_alloc | apply Kd.R_drewN | apply Kd.R_drew)); exact HO_13.out⟩, ⟨by (with_reducible repeat (first | apply Kd.S_alloc | apply Kd.S_drewN | apply Kd.S_drew)); exact HO_367000.out⟩, ⟨by (with_reducible repeat (first | apply Kd.S_alloc | apply Kd.S_drewN | apply Kd.S_drew)); exact HO_367001.out⟩, ⟨by (with_reducible repeat (first | refine blk_drewN ?_ _ | refine blk_drew ?_ | refine blk_alloc ?_ _)); exact BK366.out⟩, ⟨by repeat (first | (with_reducible first | exact HB.out | apply below_alloc | apply pw_below_drewN | apply below_drew1 | refine below_set ?_ GE366.out) | exact HB.out)⟩⟩
                                                    · replace c74 := Bool.eq_false_iff.mpr c74
                                                      subst c74
                                                      have H1 : (if 0 ≤ (rd t374 x15_2) then (if (rd t374 x15_2) < (a0.size : Int) then (if (bt a0 (rd t374 x15_2)) = 58 then (if x11_2 ≥ (t368.length : Int) then (some false) else (if 0 ≤ x11_2 then (if x11_2 < (t368.length : Int) then (if (rd t368 x11_2) = (rd t374 x15_2) then (quarrylaw10_LevelsOwn.l0 kj66 a0 a1 t358 (wrap64 (t367 + 1)) t368 t371 (wrap64 (x11_2 + 1)) x12_2 t374 x14_60 (wrap64 (x15_2 + 1))) else (some false)) else (none)) else (none))) else (if x12_2 ≥ (t371.length : Int) then (some false) else (if 0 ≤ x12_2 then (if x12_2 < (t371.length : Int) then (if (rd t371 x12_2) = (rd t374 x15_2) then (quarrylaw10_LevelsOwn.l0 kj66 a0 a1 t358 (wrap64 (t367 + 1)) t368 t371 x11_2 (wrap64 (x12_2 + 1)) t374 x14_60 (wrap64 (x15_2 + 1))) else (some false)) else (none)) else (none)))) else (none)) else (none)) = some r := by rw [if_neg (show ¬ (false = true) by decide)] at H; exact H
                                                      clear H
                                                      have H := H1
                                                      clear H1
                                                      by_cases c75 : 0 ≤ (rd t374 x15_2)
                                                      · rw [if_pos c75] at H
                                                        have c75b0 : decide (0 ≤ (rd t374 x15_2)) = true := decide_eq_true c75
                                                        clear c75
                                                        by_cases c76 : (rd t374 x15_2) < (a0.size : Int)
                                                        · rw [if_pos c76] at H
                                                          have c76b0 : decide ((rd t374 x15_2) < (a0.size : Int)) = true := decide_eq_true c76
                                                          clear c76
                                                          by_cases c78 : (bt a0 (rd t374 x15_2)) = 58
                                                          · rw [if_pos c78] at H
                                                            have c78b0 : ((bt a0 (rd t374 x15_2)) == 58) = true := beq_iff_eq.mpr c78
                                                            have c78b1 : ((bt a0 (rd t374 x15_2)) != 58) = false := bne_eq_false_iff_eq.mpr c78
                                                            clear c78
                                                            by_cases c79 : x11_2 ≥ (t368.length : Int)
                                                            · rw [if_pos c79] at H
                                                              have c79b0 : decide ((t368.length : Int) ≤ x11_2) = true := decide_eq_true c79
                                                              clear c79
                                                              obtain rfl := Option.some.inj H
                                                              have p77 : 0 ≤ ((rd t374 x15_2) : Int) := of_decide_eq_true (by first | (with_reducible assumption) | assumption)
                                                              have q77 : (rd t374 x15_2) < (a0.size : Int) := of_decide_eq_true (by first | (with_reducible assumption) | assumption)
                                                              have hx77 := bt_at a0 (rd t374 x15_2)
                                                              replace p77 := eq_true p77
                                                              replace q77 := eq_true q77
                                                              obtain ⟨Ao80, co80, eo80⟩ := Kd.R_slice HO_9.out
                                                              subst eo80
                                                              go_wp2
                                                              go_ret
                                                              exact ⟨by first | rfl | (simp [errW_none, errW_some] <;> rfl) | (simp [*, errW_none, errW_some] <;> rfl), by repeat (first | (with_reducible first | exact HB.out | apply below_alloc | apply pw_below_drewN | apply below_drew1 | refine below_set ?_ GE366.out) | exact HB.out)⟩
                                                            · rw [if_neg c79] at H
                                                              have c79b0 : decide ((t368.length : Int) ≤ x11_2) = false := decide_eq_false c79
                                                              clear c79
                                                              by_cases c81 : 0 ≤ x11_2
                                                              · rw [if_pos c81] at H
                                                                have c81b0 : decide (0 ≤ x11_2) = true := decide_eq_true c81
                                                                clear c81
                                                                by_cases c82 : x11_2 < (t368.length : Int)
                                                                · rw [if_pos c82] at H
                                                                  have c82b0 : decide (x11_2 < (t368.length : Int)) = true := decide_eq_true c82
                                                                  clear c82
                                                                  by_cases c83 : (rd t368 x11_2) = (rd t374 x15_2)
                                                                  · rw [if_pos c83] at H
                                                                    have c83b0 : ((rd t368 x11_2) == (rd t374 x15_2)) = true := beq_iff_eq.mpr c83
                                                                    have c83b1 : ((rd t368 x11_2) != (rd t374 x15_2)) = false := bne_eq_false_iff_eq.mpr c83
                                                                    clear c83
                                                                    have H' := Aside0.mk H
                                                                    clear H
                                                                    have p77 : 0 ≤ ((rd t374 x15_2) : Int) := of_decide_eq_true (by first | (with_reducible assumption) | assumption)
                                                                    have q77 : (rd t374 x15_2) < (a0.size : Int) := of_decide_eq_true (by first | (with_reducible assumption) | assumption)
                                                                    have hx77 := bt_at a0 (rd t374 x15_2)
                                                                    replace p77 := eq_true p77
                                                                    replace q77 := eq_true q77
                                                                    obtain ⟨Ao84, co84, eo84⟩ := Kd.R_slice HO_9.out
                                                                    subst eo84
                                                                    have p379 : 0 ≤ (x11_2 : Int) := of_decide_eq_true (by first | (with_reducible assumption) | assumption)
                                                                    have q379 : x11_2 < (t368.length : Int) := of_decide_eq_true (by first | (with_reducible assumption) | assumption)
                                                                    obtain ⟨ad379, e379, hx379_0⟩ := Kd.at_int (Kd.R_reads' HO_9.out).2.2 x11_2 p379 q379
                                                                    cases e379
                                                                    replace p379 := eq_true p379
                                                                    replace q379 := eq_true q379
                                                                    go_wp2
                                                                    go_roundg kj66
                                                                    case measure => have := HJ6.out; have := HK2.out; have := HJ44.out; have := HJ48.out; have := HJ51.out; have := HJ60.out; have := HJ66.out; omega
                                                                    case rel => exact ⟨(wrap64 (x11_2 + 1)), (x12_2), (x14_60), (wrap64 (x15_2 + 1)), (by first | rfl | (simp; done) | (simp [*]; done)), (by first | rfl | (simp; done) | (simp [*]; done)), (by first | rfl | (simp; done) | (simp [*]; done)), (by first | rfl | (simp; done) | (simp [*]; done)), H', ⟨by have := HJ6.out; have := HK2.out; have := HJ44.out; have := HJ48.out; have := HJ51.out; have := HJ60.out; have := HJ66.out; omega⟩, ⟨by (with_reducible repeat (first | apply Kd.R_alloc | apply Kd.R_drewN | apply Kd.R_drew)); exact HO_9.out⟩, ⟨by (with_reducible repeat (first | apply Kd.R_alloc | apply Kd.R_drewN | apply Kd.R_drew)); exact HO_10.out⟩, ⟨by (with_reducible repeat (first | apply Kd.R_alloc | apply Kd.R_drewN | apply Kd.R_drew)); exact HO_13.out⟩, ⟨by (with_reducible repeat (first | apply Kd.S_alloc | apply Kd.S_drewN | apply Kd.S_drew)); exact HO_367000.out⟩, ⟨by (with_reducible repeat (first | apply Kd.S_alloc | apply Kd.S_drewN | apply Kd.S_drew)); exact HO_367001.out⟩, ⟨by (with_reducible repeat (first | refine blk_drewN ?_ _ | refine blk_drew ?_ | refine blk_alloc ?_ _)); exact BK366.out⟩, ⟨by repeat (first | (with_reducible first | exact HB.out | apply below_alloc | apply pw_below_drewN | apply below_drew1 | refine below_set ?_ GE366.out) | exact HB.out)⟩⟩
                                                                  · rw [if_neg c83] at H
                                                                    have c83b0 : ((rd t368 x11_2) == (rd t374 x15_2)) = false := beq_eq_false_iff_ne.mpr c83
                                                                    have c83b1 : ((rd t368 x11_2) != (rd t374 x15_2)) = true := bne_iff_ne.mpr c83
                                                                    obtain rfl := Option.some.inj H
                                                                    have p77 : 0 ≤ ((rd t374 x15_2) : Int) := of_decide_eq_true (by first | (with_reducible assumption) | assumption)
                                                                    have q77 : (rd t374 x15_2) < (a0.size : Int) := of_decide_eq_true (by first | (with_reducible assumption) | assumption)
                                                                    have hx77 := bt_at a0 (rd t374 x15_2)
                                                                    replace p77 := eq_true p77
                                                                    replace q77 := eq_true q77
                                                                    obtain ⟨Ao85, co85, eo85⟩ := Kd.R_slice HO_9.out
                                                                    subst eo85
                                                                    have p379 : 0 ≤ (x11_2 : Int) := of_decide_eq_true (by first | (with_reducible assumption) | assumption)
                                                                    have q379 : x11_2 < (t368.length : Int) := of_decide_eq_true (by first | (with_reducible assumption) | assumption)
                                                                    obtain ⟨ad379, e379, hx379_0⟩ := Kd.at_int (Kd.R_reads' HO_9.out).2.2 x11_2 p379 q379
                                                                    cases e379
                                                                    replace p379 := eq_true p379
                                                                    replace q379 := eq_true q379
                                                                    go_wp2
                                                                    go_ret
                                                                    exact ⟨by first | rfl | (simp [errW_none, errW_some] <;> rfl) | (simp [*, errW_none, errW_some] <;> rfl), by repeat (first | (with_reducible first | exact HB.out | apply below_alloc | apply pw_below_drewN | apply below_drew1 | refine below_set ?_ GE366.out) | exact HB.out)⟩
                                                                · rw [if_neg c82] at H
                                                                  exact absurd H (by simp)
                                                              · rw [if_neg c81] at H
                                                                exact absurd H (by simp)
                                                          · rw [if_neg c78] at H
                                                            have c78b0 : ((bt a0 (rd t374 x15_2)) == 58) = false := beq_eq_false_iff_ne.mpr c78
                                                            have c78b1 : ((bt a0 (rd t374 x15_2)) != 58) = true := bne_iff_ne.mpr c78
                                                            by_cases c86 : x12_2 ≥ (t371.length : Int)
                                                            · rw [if_pos c86] at H
                                                              have c86b0 : decide ((t371.length : Int) ≤ x12_2) = true := decide_eq_true c86
                                                              clear c86
                                                              obtain rfl := Option.some.inj H
                                                              have p77 : 0 ≤ ((rd t374 x15_2) : Int) := of_decide_eq_true (by first | (with_reducible assumption) | assumption)
                                                              have q77 : (rd t374 x15_2) < (a0.size : Int) := of_decide_eq_true (by first | (with_reducible assumption) | assumption)
                                                              have hx77 := bt_at a0 (rd t374 x15_2)
                                                              replace p77 := eq_true p77
                                                              replace q77 := eq_true q77
                                                              obtain ⟨Ao87, co87, eo87⟩ := Kd.R_slice HO_10.out
                                                              subst eo87
                                                              go_wp2
                                                              go_ret
                                                              exact ⟨by first | rfl | (simp [errW_none, errW_some] <;> rfl) | (simp [*, errW_none, errW_some] <;> rfl), by repeat (first | (with_reducible first | exact HB.out | apply below_alloc | apply pw_below_drewN | apply below_drew1 | refine below_set ?_ GE366.out) | exact HB.out)⟩
                                                            · rw [if_neg c86] at H
                                                              have c86b0 : decide ((t371.length : Int) ≤ x12_2) = false := decide_eq_false c86
                                                              clear c86
                                                              by_cases c88 : 0 ≤ x12_2
                                                              · rw [if_pos c88] at H
                                                                have c88b0 : decide (0 ≤ x12_2) = true := decide_eq_true c88
                                                                clear c88
                                                                by_cases c89 : x12_2 < (t371.length : Int)
                                                                · rw [if_pos c89] at H
                                                                  have c89b0 : decide (x12_2 < (t371.length : Int)) = true := decide_eq_true c89
                                                                  clear c89
                                                                  by_cases c90 : (rd t371 x12_2) = (rd t374 x15_2)
                                                                  · rw [if_pos c90] at H
                                                                    have c90b0 : ((rd t371 x12_2) == (rd t374 x15_2)) = true := beq_iff_eq.mpr c90
                                                                    have c90b1 : ((rd t371 x12_2) != (rd t374 x15_2)) = false := bne_eq_false_iff_eq.mpr c90
                                                                    clear c90
                                                                    have H' := Aside0.mk H
                                                                    clear H
                                                                    have p77 : 0 ≤ ((rd t374 x15_2) : Int) := of_decide_eq_true (by first | (with_reducible assumption) | assumption)
                                                                    have q77 : (rd t374 x15_2) < (a0.size : Int) := of_decide_eq_true (by first | (with_reducible assumption) | assumption)
                                                                    have hx77 := bt_at a0 (rd t374 x15_2)
                                                                    replace p77 := eq_true p77
                                                                    replace q77 := eq_true q77
                                                                    obtain ⟨Ao91, co91, eo91⟩ := Kd.R_slice HO_10.out
                                                                    subst eo91
                                                                    have p380 : 0 ≤ (x12_2 : Int) := of_decide_eq_true (by first | (with_reducible assumption) | assumption)
                                                                    have q380 : x12_2 < (t371.length : Int) := of_decide_eq_true (by first | (with_reducible assumption) | assumption)
                                                                    obtain ⟨ad380, e380, hx380_0⟩ := Kd.at_int (Kd.R_reads' HO_10.out).2.2 x12_2 p380 q380
                                                                    cases e380
                                                                    replace p380 := eq_true p380
                                                                    replace q380 := eq_true q380
                                                                    go_wp2
                                                                    go_roundg kj66
                                                                    case measure => have := HJ6.out; have := HK2.out; have := HJ44.out; have := HJ48.out; have := HJ51.out; have := HJ60.out; have := HJ66.out; omega
                                                                    case rel => exact ⟨(x11_2), (wrap64 (x12_2 + 1)), (x14_60), (wrap64 (x15_2 + 1)), (by first | rfl | (simp; done) | (simp [*]; done)), (by first | rfl | (simp; done) | (simp [*]; done)), (by first | rfl | (simp; done) | (simp [*]; done)), (by first | rfl | (simp; done) | (simp [*]; done)), H', ⟨by have := HJ6.out; have := HK2.out; have := HJ44.out; have := HJ48.out; have := HJ51.out; have := HJ60.out; have := HJ66.out; omega⟩, ⟨by (with_reducible repeat (first | apply Kd.R_alloc | apply Kd.R_drewN | apply Kd.R_drew)); exact HO_9.out⟩, ⟨by (with_reducible repeat (first | apply Kd.R_alloc | apply Kd.R_drewN | apply Kd.R_drew)); exact HO_10.out⟩, ⟨by (with_reducible repeat (first | apply Kd.R_alloc | apply Kd.R_drewN | apply Kd.R_drew)); exact HO_13.out⟩, ⟨by (with_reducible repeat (first | apply Kd.S_alloc | apply Kd.S_drewN | apply Kd.S_drew)); exact HO_367000.out⟩, ⟨by (with_reducible repeat (first | apply Kd.S_alloc | apply Kd.S_drewN | apply Kd.S_drew)); exact HO_367001.out⟩, ⟨by (with_reducible repeat (first | refine blk_drewN ?_ _ | refine blk_drew ?_ | refine blk_alloc ?_ _)); exact BK366.out⟩, ⟨by repeat (first | (with_reducible first | exact HB.out | apply below_alloc | apply pw_below_drewN | apply below_drew1 | refine below_set ?_ GE366.out) | exact HB.out)⟩⟩
                                                                  · rw [if_neg c90] at H
                                                                    have c90b0 : ((rd t371 x12_2) == (rd t374 x15_2)) = false := beq_eq_false_iff_ne.mpr c90
                                                                    have c90b1 : ((rd t371 x12_2) != (rd t374 x15_2)) = true := bne_iff_ne.mpr c90
                                                                    obtain rfl := Option.some.inj H
                                                                    have p77 : 0 ≤ ((rd t374 x15_2) : Int) := of_decide_eq_true (by first | (with_reducible assumption) | assumption)
                                                                    have q77 : (rd t374 x15_2) < (a0.size : Int) := of_decide_eq_true (by first | (with_reducible assumption) | assumption)
                                                                    have hx77 := bt_at a0 (rd t374 x15_2)
                                                                    replace p77 := eq_true p77
                                                                    replace q77 := eq_true q77
                                                                    obtain ⟨Ao92, co92, eo92⟩ := Kd.R_slice HO_10.out
                                                                    subst eo92
                                                                    have p380 : 0 ≤ (x12_2 : Int) := of_decide_eq_true (by first | (with_reducible assumption) | assumption)
                                                                    have q380 : x12_2 < (t371.length : Int) := of_decide_eq_true (by first | (with_reducible assumption) | assumption)
                                                                    obtain ⟨ad380, e380, hx380_0⟩ := Kd.at_int (Kd.R_reads' HO_10.out).2.2 x12_2 p380 q380
                                                                    cases e380
                                                                    replace p380 := eq_true p380
                                                                    replace q380 := eq_true q380
                                                                    go_wp2
                                                                    go_ret
                                                                    exact ⟨by first | rfl | (simp [errW_none, errW_some] <;> rfl) | (simp [*, errW_none, errW_some] <;> rfl), by repeat (first | (with_reducible first | exact HB.out | apply below_alloc | apply pw_below_drewN | apply below_drew1 | refine below_set ?_ GE366.out) | exact HB.out)⟩
                                                                · rw [if_neg c89] at H
                                                                  exact absurd H (by simp)
                                                              · rw [if_neg c88] at H
                                                                exact absurd H (by simp)
                                                        · rw [if_neg c76] at H
                                                          exact absurd H (by simp)
                                                      · rw [if_neg c75] at H
                                                        exact absurd H (by simp)
                                          · rw [if_neg c59] at H
                                            exact absurd H (by simp)
                                        · rw [if_neg c58] at H
                                          exact absurd H (by simp)
                    · rw [if_neg c44] at H
                      exact absurd H (by simp)
                  · rw [if_neg c43] at H
                    have c43b0 : decide (x15_2 < (t374.length : Int)) = false := decide_eq_false c43
                    clear c43
                    by_cases c93 : x11_2 = (t368.length : Int)
                    · rw [if_pos c93] at H
                      have c93b0 : (x11_2 == (t368.length : Int)) = true := beq_iff_eq.mpr c93
                      have c93b1 : (x11_2 != (t368.length : Int)) = false := bne_eq_false_iff_eq.mpr c93
                      clear c93
                      obtain rfl := Option.some.inj H
                      obtain ⟨Ao94, co94, eo94⟩ := Kd.R_slice HO_13.out
                      subst eo94
                      obtain ⟨Ao95, co95, eo95⟩ := Kd.R_slice HO_9.out
                      subst eo95
                      obtain ⟨Ao96, co96, eo96⟩ := Kd.R_slice HO_10.out
                      subst eo96
                      go_wp2
                      go_ret
                      exact ⟨by first | rfl | (simp [errW_none, errW_some] <;> rfl) | (simp [*, errW_none, errW_some] <;> rfl), by repeat (first | (with_reducible first | exact HB.out | apply below_alloc | apply pw_below_drewN | apply below_drew1 | refine below_set ?_ GE366.out) | exact HB.out)⟩
                    · rw [if_neg c93] at H
                      have c93b0 : (x11_2 == (t368.length : Int)) = false := beq_eq_false_iff_ne.mpr c93
                      have c93b1 : (x11_2 != (t368.length : Int)) = true := bne_iff_ne.mpr c93
                      obtain rfl := Option.some.inj H
                      obtain ⟨Ao97, co97, eo97⟩ := Kd.R_slice HO_13.out
                      subst eo97
                      obtain ⟨Ao98, co98, eo98⟩ := Kd.R_slice HO_9.out
                      subst eo98
                      go_wp2
                      go_ret
                      exact ⟨by first | rfl | (simp [errW_none, errW_some] <;> rfl) | (simp [*, errW_none, errW_some] <;> rfl), by repeat (first | (with_reducible first | exact HB.out | apply below_alloc | apply pw_below_drewN | apply below_drew1 | refine below_set ?_ GE366.out) | exact HB.out)⟩
  · replace c4 := Bool.eq_false_iff.mpr c4
    subst c4
    have H1 : (some false) = some r := by rw [if_neg (show ¬ (false = true) by decide)] at H; exact H
    clear H
    have H := H1
    clear H1
    obtain rfl := Option.some.inj H
    go_enter Tryd.func10, Tryd.ntmps10
    go_wp2_with (first | ((with_reducible refine gate_callee (f := 29) rfl ?_); refine goesL_ (some 17) rfl rfl Tryd.func29 (by kernel_rfl) rfl #[] rfl (by (try simp only [List.map_toArray, List.map_cons, List.map_nil]); first | done | rfl | (simp only [List.length_drop, List.length_take]; rfl)) ?_; (with_reducible refine (quarrylaw10_awake.calls k  false _ ?tabk A3.out).mono ?_); (case tabk => exact TK_.out.step (by repeat (first | (with_reducible first | exact HB.out | apply below_alloc | apply pw_below_drewN | apply below_drew1) | exact HB.out))); rintro e w99 ⟨rfl, hb⟩; refine ⟨_, rfl, ?_⟩; have n0_ := Aside0.mk (below_step (by repeat (first | (with_reducible first | exact HB.out | apply below_alloc | apply pw_below_drewN | apply below_drew1) | exact HB.out)) hb); clear HB; have HB := n0_; clear n0_; (try clear hb); (try clear hb2); (try clear hk); (try clear hi)))
    go_ret
    exact ⟨by first | rfl | (simp [errW_none, errW_some] <;> rfl) | (simp [*, errW_none, errW_some] <;> rfl), by repeat (first | (with_reducible first | exact HB.out | apply below_alloc | apply pw_below_drewN | apply below_drew1) | exact HB.out)⟩

/-- THE ONE PURE STATEMENT of quarrylaw10_LevelsOwn: yours. -/
def quarrylaw10_LevelsOwn.Pure : Prop := ∀ (a0 : ByteArray) (a1 : Int), a0.size ≤ 140737488351232 → (Lit.int .i64 a1).wf = true → ∃ k, quarrylaw10_LevelsOwn.f k a0 a1 = some true
theorem quarrylaw10_LevelsOwn.walk (P : quarrylaw10_LevelsOwn.Pure) (a0 : ByteArray) (a1 : Int) (w : World) (hT : TabOk w) (w0 : a0.size ≤ 140737488351232) (w1 : (Lit.int .i64 a1).wf = true) :
    Calls Tryd.prog 10 #[.string a0, .int .i64 a1] w fun e w' => e = .returned (.bool true) ∧ Below w.heap.size w w' := by
  obtain ⟨k, h⟩ := P a0 a1 w0 w1
  refine (quarrylaw10_LevelsOwn.calls k a0 a1 true w hT h).mono ?_
  rintro e w' ⟨rfl, hd⟩
  exact ⟨rfl, hd⟩

end Go.Proofs.YtgddljealeklkaaDoor.PL
end
-- PureLevelsOwn
section
namespace Go.Proofs.YtgddljealeklkaaDoor.Pure
open Go Go.RowKit Go.Proofs.YtgddljealeklkaaDoor.PL Go.Proofs.YtgddljealeklkaaDoorW.PrintWords Go.Proofs.YtgddljealeklkaaDoorW.PrintLast Go.Proofs.YtgddljealeklkaaDoorQ
set_option linter.unusedVariables false
set_option linter.unusedSimpArgs false
theorem size_eq (n : Nat) (h : n ≤ 281474976710656) : bitmap_size.f (n : Int) = some ((nwords n : Nat) : Int) := by
  unfold bitmap_size.f
  have e1 : Int.tmod (n : Int) 64 = ((n % 64 : Nat) : Int) := rfl
  have e2 : Int.tdiv (n : Int) 64 = ((n / 64 : Nat) : Int) := rfl
  have e3 : wrap64 ((n / 64 : Nat) : Int) = ((n / 64 : Nat) : Int) := by unfold wrap64; omega
  rw [e1, e2, e3]
  have e4 : wrap64 (((n / 64 : Nat) : Int) + 1) = ((n / 64 : Nat) : Int) + 1 := by unfold wrap64; omega
  rw [e4]
  unfold nwords
  by_cases h : n % 64 = 0
  · rw [if_pos (by omega)]; congr 1; omega
  · rw [if_neg (by omega)]; congr 1; omega
/-- The bits that the last word of a row may have. -/
def tailW (n : Nat) : BitVec 64 := if n % 64 = 0 then 18446744073709551615#64 else BitVec.ofNat 64 (2 ^ (n % 64) - 1)
theorem shl_one (m : Nat) (h : m < 64) : shl .u64 1 (m : Int) = ((2 ^ m : Nat) : Int) := by
  have : ∀ m : Fin 64, shl .u64 1 ((m.val : Nat) : Int) = ((2 ^ m.val : Nat) : Int) := by decide
  exact this ⟨m, h⟩
theorem tail_eq (n : Nat) : bitmap_tail.f (n : Int) = some (iv (tailW n)) := by
  unfold bitmap_tail.f tailW
  have e1 : Int.tmod (n : Int) 64 = ((n % 64 : Nat) : Int) := rfl
  rw [e1]
  by_cases h : n % 64 = 0
  · rw [if_pos (by omega), if_pos h]; rfl
  · rw [if_neg (by omega), if_neg h, if_pos (by omega), shl_one _ (by omega)]
    have hp : 0 < 2 ^ (n % 64) := Nat.pow_pos (by decide)
    have hq : 2 ^ (n % 64) < 2 ^ 64 := Nat.pow_lt_pow_right (by decide) (by omega)
    have : ((2 ^ (n % 64) : Nat) : Int) - 1 = ((2 ^ (n % 64) - 1 : Nat) : Int) := by omega
    rw [this, wrap_nat]
    unfold iv
    rw [BitVec.toNat_ofNat]
theorem rd_words (n : Nat) (p : Nat → Bool) (k : Nat) (h : k < nwords n) : rd (wordsOf n p) (k : Int) = iv (wordAt n p k) := by
  unfold rd
  rw [Int.toNat_natCast]
  exact wordsOf_get n p k h
/-- What is told of a row of bits is well formed. -/
theorem formed_eq (n : Nat) (p : Nat → Bool) (h : n ≤ 281474976710656) : bitmap_Formed.f (n : Int) (wordsOf n p) = some true := by
  unfold bitmap_Formed.f
  rw [if_neg (by omega), size_eq n h, Option.bind_some, wordsOf_length, if_pos rfl]
  by_cases h0 : n = 0
  · rw [if_pos (by omega)]
  · have hw : 0 < nwords n := by unfold nwords; omega
    have hb : nwords n ≤ 281474976710656 := by unfold nwords; omega
    have e : wrap64 (((nwords n : Nat) : Int) - 1) = ((nwords n - 1 : Nat) : Int) := by unfold wrap64; omega
    rw [if_neg (by omega), e, if_pos (by omega), if_pos (by omega), tail_eq, Option.bind_some, rd_words n p _ (by omega), bits_andNot]
    have hz : wordAt n p (nwords n - 1) &&& ~~~tailW n = 0#64 := by
      refine BitVec.eq_of_getLsbD_eq fun i hi => ?_
      rw [BitVec.getLsbD_and, BitVec.getLsbD_not]
      unfold wordAt
      rw [word_bit]
      unfold tailW
      have hn : nwords n = (n + 63) / 64 := rfl
      by_cases g : n % 64 = 0
      · rw [if_pos g]
        have : (18446744073709551615#64).getLsbD i = true := by
          have : ∀ i : Fin 64, (18446744073709551615#64).getLsbD i.val = true := by decide
          exact this ⟨i, hi⟩
        rw [this]; simp
      · rw [if_neg g, BitVec.getLsbD_ofNat, Nat.testBit_two_pow_sub_one]
        by_cases g2 : i < n % 64
        · simp [g2, hi]
        · have : ¬ (64 * (nwords n - 1) + i < n) := by omega
          simp [this]
    rw [hz]
    rfl
theorem shl_one' (m : Nat) (h : m < 64) : shl .u64 1 (m : Int) = iv (1#64 <<< m) := by
  rw [shl_one m h]
  unfold iv
  rw [BitVec.toNat_shiftLeft, Nat.shiftLeft_eq]
  have : 2 ^ m < 2 ^ 64 := Nat.pow_lt_pow_right (by decide) h
  rw [show (1#64).toNat = 1 from rfl, Nat.one_mul, Nat.mod_eq_of_lt this]
theorem and_bit (p : Nat → Bool) (m : Nat) (h : m < 64) : (bits .and .u64 (iv (word p)) (shl .u64 1 (m : Int)) = 0) ↔ p m = false := by
  rw [shl_one' m h, bits_and, show (0 : Int) = iv 0#64 from rfl, iv_inj]
  have hb : ∀ j, j < 64 → (word p &&& 1#64 <<< m).getLsbD j = (p j && decide (j = m)) := fun j hj => by
    rw [BitVec.getLsbD_and, word_bit, BitVec.getLsbD_shiftLeft, decide_eq_true hj]
    by_cases g : j < m
    · simp [g, show ¬ j = m by omega]
    · by_cases g2 : j = m
      · subst g2
        simp
      · have : (1#64).getLsbD (j - m) = false := by
          have h1 : ∀ i : Fin 64, i.val ≠ 0 → (1#64).getLsbD i.val = false := by decide
          exact h1 ⟨j - m, by omega⟩ (by show j - m ≠ 0; omega)
        simp [g, g2, this]
  constructor
  · intro e
    have := hb m h
    rw [e] at this
    simpa using this.symm
  · intro e
    apply BitVec.eq_of_getLsbD_eq
    intro j hj
    rw [hb j hj]
    by_cases g : j = m
    · subst g; rw [e]; simp
    · simp [g]
theorem wordAt_fun (n : Nat) (q : Nat → Bool) (k : Nat) : wordAt n q k = word fun i => decide (64 * k + i < n) && q (64 * k + i) := rfl
theorem ends_eq (n : Nat) (q : Nat → Bool) (k : Nat) (h : 64 * k + 63 < n) (a b c : Int) : marks_rows_ends.f a b c (iv (wordAt n q k)) = some (q (64 * k + 63)) := by
  unfold marks_rows_ends.f
  rw [wordAt_fun, top_word, decide_eq_true h, Bool.true_and]
  cases q (64 * k + 63) <;> rfl
/-- Where words begin in a block. -/
def startB (n : Nat) (q : Nat → Bool) (k : Nat) (c : Bool) (j : Nat) : Bool := (decide (64 * k + j < n) && q (64 * k + j)) && !(if j = 0 then c else decide (64 * k + (j - 1) < n) && q (64 * k + (j - 1)))
theorem starts_eq (n : Nat) (q : Nat → Bool) (k : Nat) (c : Bool) (x y z : Int) : marks_rows_starts.f x y z (iv (wordAt n q k)) c = some (iv (word (startB n q k c))) := by
  have e1 : IntKind.u64.wrap (iv (wordAt n q k) * 2) = iv (wordAt n q k <<< 1) := wrap_shl _ 1
  have e2 : (1 : Int) = iv 1#64 := rfl
  have h1 : ∀ i : Fin 64, (1#64).getLsbD i.val = decide (i.val = 0) := by decide
  unfold marks_rows_starts.f
  cases c with
  | true =>
    rw [if_pos rfl, e1, e2, bits_or, bits_andNot]
    apply congrArg (fun w => some (iv w))
    apply eq_word
    intro j hj
    rw [BitVec.getLsbD_and, BitVec.getLsbD_not, BitVec.getLsbD_or, BitVec.getLsbD_shiftLeft, wordAt_fun, word_bit, word_bit, h1 ⟨j, hj⟩, decide_eq_true hj]
    unfold startB
    by_cases g : j = 0
    · subst g; simp
    · rw [if_neg g, decide_eq_false (show ¬ j < 1 by omega), decide_eq_true (show j - 1 < 64 by omega), decide_eq_false (show ¬ (⟨j, hj⟩ : Fin 64).val = 0 from g)]
      simp
  | false =>
    rw [if_neg (by decide), e1, bits_andNot]
    apply congrArg (fun w => some (iv w))
    apply eq_word
    intro j hj
    rw [BitVec.getLsbD_and, BitVec.getLsbD_not, BitVec.getLsbD_shiftLeft, wordAt_fun, word_bit, word_bit, decide_eq_true hj]
    unfold startB
    by_cases g : j = 0
    · subst g; simp
    · rw [if_neg g, decide_eq_false (show ¬ j < 1 by omega), decide_eq_true (show j - 1 < 64 by omega)]
      simp
/-- What a byte is. -/
def kindB (s : ByteArray) (i : Nat) : Int := if mkq s i && insS s i then 3 else if mkq s i then 4 else if insS s i then 5 else if sgx (bt s (i : Int)).toNat then 1 else if blx (bt s (i : Int)).toNat then 2 else 6
theorem kb_sg (s : ByteArray) (i : Nat) : sgq s i = decide (kindB s i = 1) := by
  unfold kindB sgq outq
  cases hm : mkq s i <;> cases hn : insS s i <;> cases hs : sgx (bt s (i : Int)).toNat <;> cases hb : blx (bt s (i : Int)).toNat <;> simp
theorem kb_op (s : ByteArray) (i : Nat) : opq s i = decide (kindB s i = 3) := by
  unfold kindB opq
  cases hm : mkq s i <;> cases hn : insS s i <;> cases hs : sgx (bt s (i : Int)).toNat <;> cases hb : blx (bt s (i : Int)).toNat <;> simp
theorem kb_wd (s : ByteArray) (i : Nat) : wdq s i = decide (kindB s i = 6) := by
  unfold wdq sgq blq kindB outq
  cases hm : mkq s i <;> cases hn : insS s i <;> cases hs : sgx (bt s (i : Int)).toNat <;> cases hb : blx (bt s (i : Int)).toNat <;> simp
/-- What begins at a place. -/
def kindR (s : ByteArray) (i : Nat) : Int := if kindB s i = 1 ∨ kindB s i = 3 then bt s (i : Int) else if kindB s i = 6 ∧ (i = 0 ∨ kindB s (i - 1) ≠ 6) then 119 else 0
theorem rd_look (s : ByteArray) (k : Nat) (h : k < nwords s.size) : rd_T77 (lookL s) (k : Int) = rowS s k := by
  unfold rd_T77 lookL
  rw [Int.toNat_natCast, List.getD_eq_getElem?_getD, List.getElem?_map, List.getElem?_range h]
  rfl
theorem kind_last (s : ByteArray) (i k : Nat) (hi : i < s.size) (c : Bool) (hc : c = if 64 ≤ i then wdq s (64 * (i / 64) - 1) else false) :
    marks_Kind.j1 (k + 1) s (i : Int) (shl .u64 1 ((i % 64 : Nat) : Int)) c (rowS s (i / 64)).f0 (rowS s (i / 64)).f1 (rowS s (i / 64)).f2 (rowS s (i / 64)).f3 = some (kindR s i) := by
  have hm : i % 64 < 64 := Nat.mod_lt _ (by decide)
  have hd : 64 * (i / 64) + i % 64 = i := by omega
  have e0 : (rowS s (i / 64)).f0 = iv (wordAt s.size (sgq s) (i / 64)) := rfl
  have e2 : (rowS s (i / 64)).f2 = iv (wordAt s.size (opq s) (i / 64)) := rfl
  have e3 : (rowS s (i / 64)).f3 = iv (wordAt s.size (wdq s) (i / 64)) := rfl
  have hor : bits .or .u64 (iv (wordAt s.size (sgq s) (i / 64))) (iv (wordAt s.size (opq s) (i / 64))) = iv (word fun j => (decide (64 * (i / 64) + j < s.size) && sgq s (64 * (i / 64) + j)) || (decide (64 * (i / 64) + j < s.size) && opq s (64 * (i / 64) + j))) := mask_or _ _
  simp only [marks_Kind.j1]
  rw [e0, e2, hor]
  by_cases h : kindB s i = 1 ∨ kindB s i = 3
  · rw [if_neg (by
      rw [and_bit _ _ hm]
      simp only [hd, decide_eq_true hi, Bool.true_and, kb_sg, kb_op]
      rcases h with h | h <;> simp [h]), if_pos (by omega), if_pos (by omega)]
    unfold kindR
    rw [if_pos h]
  · have h1 : kindB s i ≠ 1 := fun e => h (.inl e)
    have h3 : kindB s i ≠ 3 := fun e => h (.inr e)
    rw [if_pos (by
      rw [and_bit _ _ hm]
      simp only [hd, decide_eq_true hi, Bool.true_and, kb_sg, kb_op]
      simp [h1, h3]), e3, starts_eq, Option.bind_some]
    unfold kindR
    rw [if_neg h]
    have hst : startB s.size (wdq s) (i / 64) c (i % 64) = decide (kindB s i = 6 ∧ (i = 0 ∨ kindB s (i - 1) ≠ 6)) := by
      unfold startB
      rw [hd, decide_eq_true hi, Bool.true_and, kb_wd, hc]
      by_cases g0 : i % 64 = 0
      · rw [if_pos g0]
        by_cases g1 : 64 ≤ i
        · rw [if_pos g1, show 64 * (i / 64) - 1 = i - 1 by omega, kb_wd]
          by_cases a : kindB s i = 6 <;> by_cases b : kindB s (i - 1) = 6 <;> simp [a, b, show ¬ i = 0 by omega]
        · rw [if_neg g1]
          have : i = 0 := by omega
          subst this
          simp
      · rw [if_neg g0, show 64 * (i / 64) + (i % 64 - 1) = i - 1 by omega, decide_eq_true (show i - 1 < s.size by omega), Bool.true_and, kb_wd]
        by_cases a : kindB s i = 6 <;> by_cases b : kindB s (i - 1) = 6 <;> simp [a, b, show ¬ i = 0 by omega]
    by_cases hb : kindB s i = 6 ∧ (i = 0 ∨ kindB s (i - 1) ≠ 6)
    · rw [if_neg (by rw [and_bit _ _ hm, hst, decide_eq_true hb]; decide), if_pos hb]
    · rw [if_pos (by rw [and_bit _ _ hm, hst, decide_eq_false hb]), if_neg hb]
theorem kind_eq (s : ByteArray) (hn : s.size ≤ 1048576) (i : Nat) (hi : i < s.size) (k : Nat) : marks_Kind.f (k + 2) s (i : Int) = some (kindR s i) := by
  have e1 : Int.tmod (i : Int) 64 = ((i % 64 : Nat) : Int) := rfl
  have e2 : Int.tdiv (i : Int) 64 = ((i / 64 : Nat) : Int) := rfl
  have e3 : wrap64 ((i / 64 : Nat) : Int) = ((i / 64 : Nat) : Int) := by unfold wrap64; omega
  have hl : (lookL s).length = nwords s.size := by simp [lookL]
  have hw : i / 64 < nwords s.size := by unfold nwords; omega
  unfold marks_Kind.f
  rw [if_neg (by omega), decide_eq_false (by omega)]
  simp only [marks_Kind.j0, marks_look.f]
  rw [if_neg (by decide), if_pos (by omega), Option.bind_some, e1, e2, e3, hl, if_pos (by omega), if_pos (by omega), if_pos (by omega), rd_look s _ hw]
  by_cases g : 64 ≤ i
  · have e4 : wrap64 (((i / 64 : Nat) : Int) - 1) = ((i / 64 - 1 : Nat) : Int) := by unfold wrap64; omega
    rw [if_pos (by omega), e4, if_pos (by omega), if_pos (by omega), rd_look s _ (by omega)]
    have e5 : (rowS s (i / 64 - 1)).f3 = iv (wordAt s.size (wdq s) (i / 64 - 1)) := rfl
    rw [e5, ends_eq _ _ _ (by omega), Option.bind_some]
    exact kind_last s i k hi _ (by rw [if_pos g, show 64 * (i / 64 - 1) + 63 = 64 * (i / 64) - 1 by omega])
  · rw [if_neg (by omega)]
    exact kind_last s i k hi _ (by rw [if_neg g])
theorem kind_out (s : ByteArray) (a : Int) (h : a < 0 ∨ (s.size : Int) ≤ a) (k : Nat) : marks_Kind.f (k + 1) s a = some 0 := by
  unfold marks_Kind.f
  by_cases g : a < 0
  · rw [if_pos g]
    simp only [marks_Kind.j0]
    rw [if_pos trivial]
  · rw [if_neg g, decide_eq_true (by omega)]
    simp only [marks_Kind.j0]
    rw [if_pos trivial]
theorem kindR_open (s : ByteArray) (i : Nat) : (kindR s i = 123 ∨ kindR s i = 91) ↔ opS s i = true := by
  unfold kindR opS
  rw [kb_sg]
  by_cases h1 : kindB s i = 1
  · rw [if_pos (.inl h1), h1, decide_eq_true rfl, Bool.true_and]
    unfold opensB
    rw [Bool.or_eq_true, beq_iff_eq, beq_iff_eq]
  · rw [decide_eq_false h1, Bool.false_and]
    by_cases h3 : kindB s i = 3
    · rw [if_pos (.inr h3)]
      have hop := kb_op s i
      rw [h3, decide_eq_true rfl] at hop
      have hm := (op_facts hop).1
      unfold mkq at hm
      simp only [Bool.and_eq_true, decide_eq_true_eq] at hm
      rw [hm.1]
      exact ⟨fun h => by omega, fun h => by cases h⟩
    · rw [if_neg (fun h => h.elim h1 h3)]
      split
      · exact ⟨fun h => by omega, fun h => by cases h⟩
      · exact ⟨fun h => by omega, fun h => by cases h⟩
/-- Is a bracket closed there that was opened at a? -/
def closq (s : ByteArray) (a j : Nat) : Bool := clS s j && decide (dep s j = dep s a + 1)
/-- Where what opens at a is closed; the length: nowhere. -/
def closAt (s : ByteArray) (a : Nat) : Nat := firstQ (closq s a) (s.size - (a + 1)) (a + 1)
def closI (s : ByteArray) (a : Nat) : Int := if closAt s a < s.size then ((closAt s a : Nat) : Int) else -1
theorem firstQ_skip (q : Nat → Bool) {n a b : Nat} (hab : a ≤ b) (hb : b ≤ n) (h : ∀ j, a ≤ j → j < b → q j = false) : firstQ q (n - a) a = firstQ q (n - b) b := by
  obtain ⟨d, rfl⟩ : ∃ d, b = a + d := ⟨b - a, by omega⟩
  clear hab
  induction d generalizing a with
  | zero => rfl
  | succ d ih =>
    rw [show n - a = (n - (a + 1)) + 1 by omega, firstQ, if_neg (by rw [h a (Nat.le_refl _) (by omega)]; decide)]
    have := ih (a := a + 1) (by omega) (fun j h1 h2 => h j (by omega) (by omega))
    rw [this, show a + 1 + d = a + (d + 1) by omega]
theorem closeR_after (s : ByteArray) (a : Nat) : ∀ (d i : Nat), i + d = (placesL s).length → a < nextP s i →
    closeR s (a : Int) ((placesL s).drop i) (((dep s a : Nat) : Int) + 1) = if firstQ (closq s a) (s.size - nextP s i) (nextP s i) < s.size then ((firstQ (closq s a) (s.size - nextP s i) (nextP s i) : Nat) : Int) else -1
  | 0, i, hi, ha => by
    rw [Nat.add_zero] at hi
    rw [hi, List.drop_length, closeR, ← hi, next_end (by omega), Nat.sub_self]
    unfold firstQ
    rw [if_neg (Nat.lt_irrefl _)]
  | d + 1, i, hi, ha => by
    have hlt : i < (placesL s).length := by omega
    obtain ⟨p, hp⟩ : ∃ p, (placesL s)[i]? = some p := ⟨_, List.getElem?_eq_getElem hlt⟩
    obtain ⟨a1, a2, a3, a4, a5, a6⟩ := place_at hp
    have hdrop : (placesL s).drop i = p :: (placesL s).drop (i + 1) := by
      rw [List.drop_eq_getElem_cons hlt]
      congr 1
      exact (List.getElem?_eq_some_iff.1 hp).2
    rw [hdrop, closeR, if_neg (by omega), ← a3, show s.size - p = (s.size - (p + 1)) + 1 by omega, firstQ]
    have hq : closq s a p = (closesB (bt s (p : Int)) && decide (dep s p = dep s a + 1)) := by unfold closq; rw [beg_close a2]
    by_cases c : closq s a p = true
    · rw [if_pos c]
      rw [hq] at c
      simp only [Bool.and_eq_true, decide_eq_true_eq] at c
      rw [if_pos ⟨by omega, by omega, c.1⟩, if_pos a1]
    · rw [if_neg c]
      have hn : ¬ ((a : Int) < (p : Int) ∧ ((dep s p : Nat) : Int) = ((dep s a : Nat) : Int) + 1 ∧ closesB (bt s (p : Int)) = true) := fun h => c (by
        rw [hq, h.2.2, Bool.true_and]
        exact decide_eq_true (by have := h.2.1; omega))
      rw [if_neg hn, closeR_after s a d (i + 1) (by omega) (by omega)]
      rw [firstQ_skip (closq s a) (n := s.size) (a := p + 1) (b := nextP s (i + 1)) (by omega) a5 (fun j h1 h2 => by
        have := not_beg (a6 j (by omega) h2)
        unfold closq clS
        rw [this]
        rfl)]
theorem closeR_before (s : ByteArray) (a : Nat) (ha : opS s a = true) (hn : a < s.size) : ∀ (d i : Nat), i + d = (placesL s).length → nextP s i ≤ a → ∀ w, closeR s (a : Int) ((placesL s).drop i) w = closI s a
  | 0, i, hi, h, w => by
    rw [next_end (by omega)] at h
    omega
  | d + 1, i, hi, h, w => by
    have hlt : i < (placesL s).length := by omega
    obtain ⟨p, hp⟩ : ∃ p, (placesL s)[i]? = some p := ⟨_, List.getElem?_eq_getElem hlt⟩
    obtain ⟨a1, a2, a3, a4, a5, a6⟩ := place_at hp
    have hdrop : (placesL s).drop i = p :: (placesL s).drop (i + 1) := by
      rw [List.drop_eq_getElem_cons hlt]
      congr 1
      exact (List.getElem?_eq_some_iff.1 hp).2
    rw [hdrop, closeR]
    by_cases c : p = a
    · subst c
      rw [if_pos rfl, closeR_after s p d (i + 1) (by omega) a4]
      unfold closI closAt
      rw [firstQ_skip (closq s p) (n := s.size) (a := p + 1) (b := nextP s (i + 1)) (by omega) a5 (fun j h1 h2 => by
        have := not_beg (a6 j (by omega) h2)
        unfold closq clS
        rw [this]
        rfl)]
    · have hba : begq s a = true := by
        unfold opS at ha
        simp only [Bool.and_eq_true] at ha
        exact sg_beg ha.1
      rw [if_neg (by omega), if_neg (by omega)]
      refine closeR_before s a ha hn d (i + 1) (by omega) ?_ w
      apply Classical.byContradiction
      intro g
      have := a6 a (by omega) (by omega)
      rw [hba] at this
      cases this
theorem close_eq (s : ByteArray) (hn : s.size ≤ 1048576) (a : Int) (k : Nat) : levels_Close.f (k + 2) s a = some (if 0 ≤ a ∧ a < (s.size : Int) ∧ opS s a.toNat = true then closI s a.toNat else -1) := by
  unfold levels_Close.f
  by_cases hr : a < 0 ∨ (s.size : Int) ≤ a
  · rw [kind_out s a hr (k + 1), Option.bind_some, if_neg (by omega)]
    unfold levels_Close.g
    rw [if_neg (by omega)]
  · obtain ⟨n, rfl⟩ : ∃ n : Nat, a = (n : Int) := ⟨a.toNat, by omega⟩
    rw [kind_eq s hn n (by omega) k, Option.bind_some, Int.toNat_natCast]
    unfold levels_Close.g
    by_cases ho : opS s n = true
    · rw [if_pos ((kindR_open s n).2 ho), if_pos hn, if_pos ⟨by omega, by omega, ho⟩]
      have h := closeR_before s n ho (by omega) (placesL s).length 0 (by omega) (by
        apply Classical.byContradiction
        intro g
        have := (next_zero s).2 n (by omega)
        unfold opS at ho
        simp only [Bool.and_eq_true] at ho
        rw [sg_beg ho.1] at this
        cases this) (-1)
      rw [List.drop_zero] at h
      rw [h]
    · rw [if_neg (fun h => ho ((kindR_open s n).1 h)), if_neg (fun h => ho h.2.2)]
theorem depth_eq (s : ByteArray) (hn : s.size ≤ 1048576) (a : Int) : levels_Depth.f s a = some ((depAt s a : Nat) : Int) := by
  unfold levels_Depth.f
  rw [if_pos hn]
theorem sameints_loop (l : List Int) (hl : l.length ≤ 140737488355328) : ∀ (d i k : Nat), i + d = l.length → d < k → quarryref00_SameInts.l0 k l l (i : Int) = some true := by
  intro d
  induction d with
  | zero =>
    intro i k hi hk
    obtain ⟨k, rfl⟩ : ∃ m, k = m + 1 := ⟨k - 1, by omega⟩
    unfold quarryref00_SameInts.l0
    rw [if_neg (by omega)]
  | succ d ih =>
    intro i k hi hk
    obtain ⟨k, rfl⟩ : ∃ m, k = m + 1 := ⟨k - 1, by omega⟩
    have e : wrap64 ((i : Int) + 1) = ((i + 1 : Nat) : Int) := by unfold wrap64; omega
    unfold quarryref00_SameInts.l0
    rw [if_pos (by omega), if_pos (by omega), if_pos (by omega), if_pos rfl, e, ih (i + 1) k (by omega) (by omega)]
/-- A list is the same as itself. -/
theorem sameints_refl (l : List Int) (hl : l.length ≤ 140737488355328) (k : Nat) (hk : l.length < k) : quarryref00_SameInts.f k l l = some true := by
  unfold quarryref00_SameInts.f
  rw [if_pos rfl]
  exact sameints_loop l hl l.length 0 k (by omega) hk
abbrev smallL : ByteArray := ⟨#[123, 34, 97, 34, 58, 91, 49, 44, 50, 93, 44, 34, 98, 58, 34, 58, 51, 125]⟩
theorem small_dep : depAt smallL 6 = 2 := by decide +kernel
theorem small_cl5 : (opS smallL 5 = true ∧ closI smallL 5 = 9) ∧ opS smallL 0 = true ∧ closI smallL 0 = 17 := by decide +kernel
theorem small_col : levels_Colons.f (rowsB smallL 58 2 18) (rowsB smallL 44 2 18) 1 0 99 = some [4, 15] := by decide +kernel
theorem small_com : levels_Commas.f (rowsB smallL 58 2 18) (rowsB smallL 44 2 18) 2 0 99 = some [7] := by decide +kernel
theorem rowsB_len (s : ByteArray) (b : Int) (m lim : Nat) : (((rowsB s b m lim).length : Nat) : Int) = (m : Int) := by
  unfold rowsB
  rw [List.length_map, List.length_range]
theorem awake10 (k : Nat) (hk : 100 < k) : quarrylaw10_awake.f k = some true := by
  obtain ⟨j, rfl⟩ : ∃ j, k = j + 2 := ⟨k - 2, by omega⟩
  have hb : levels_Build.f smallL 2 = some (rowsB smallL 58 2 18, rowsB smallL 44 2 18, 0) := by
    unfold levels_Build.f
    rw [if_neg (by decide), if_pos (by decide)]
    rfl
  have hd : levels_Depth.f smallL 6 = some 2 := by
    rw [depth_eq smallL (by decide), small_dep]
    rfl
  have h5 : levels_Close.f (j + 2) smallL 5 = some 9 := by
    rw [close_eq smallL (by decide), if_pos ⟨by decide, by decide, small_cl5.1.1⟩]
    exact congrArg some small_cl5.1.2
  have h0 : levels_Close.f (j + 2) smallL 0 = some 17 := by
    rw [close_eq smallL (by decide), if_pos ⟨by decide, by decide, small_cl5.2.1⟩]
    exact congrArg some small_cl5.2.2
  unfold quarrylaw10_awake.f
  rw [hb, Option.bind_some]
  dsimp only
  rw [if_pos rfl, if_pos (by rw [rowsB_len]; rfl), if_pos (by rw [rowsB_len]; rfl), hd, Option.bind_some, if_pos rfl, h5, Option.bind_some, if_pos rfl, h0, Option.bind_some]
  rw [show ((17 : Int) != 17) = false from rfl, quarrylaw10_awake.j0, if_neg (by decide), small_col, Option.bind_some, sameints_refl _ (by decide) _ (by simp; omega), Option.bind_some, if_pos rfl, small_com, Option.bind_some, sameints_refl _ (by decide) _ (by simp; omega), Option.bind_some]
theorem range_begs (s : ByteArray) : placesL s = (List.range s.size).filter (begq s) := by
  unfold placesL
  rw [idxD_range]
  congr 1
  rw [List.range_eq_range']
theorem setI_words (n : Nat) (q : Nat → Bool) : setI (wordsOf n q) = ((List.range n).filter q).map fun i => ((i : Nat) : Int) := by
  have h : setI (wordsOf n q) = ((setP (64 * (wordsOf n q).length) (bitL (wordsOf n q)) (64 * (wordsOf n q).length)).map (·.val)).map fun i => ((i : Nat) : Int) := by
    unfold setI valI
    rw [List.map_map]
    rfl
  rw [h, setP_val, wordsOf_length]
  have e : (List.range (64 * nwords n)).filter (fun k => decide (k < 64 * nwords n) && bitL (wordsOf n q) k) = (List.range (64 * nwords n)).filter (fun k => decide (k < n) && q k) := List.filter_congr fun j hj => by
    have hj' := List.mem_range.1 hj
    rw [decide_eq_true hj', Bool.true_and]
    exact wordsOf_bit n q j hj'
  rw [e]
  obtain ⟨d, hd⟩ : ∃ d, 64 * nwords n = n + d := ⟨64 * nwords n - n, by unfold nwords; omega⟩
  rw [hd, List.range_add, List.filter_append]
  have e2 : ((List.range d).map fun x => n + x).filter (fun k => decide (k < n) && q k) = [] := by
    rw [List.filter_eq_nil_iff]
    intro x hx
    obtain ⟨y, _, rfl⟩ := List.mem_map.1 hx
    rw [decide_eq_false (by omega), Bool.false_and]
    decide
  rw [e2, List.append_nil]
  congr 1
  exact List.filter_congr fun j hj => by rw [decide_eq_true (List.mem_range.1 hj), Bool.true_and]
theorem takeWhile_sorted (b : Int) : ∀ (l : List Nat), l.Pairwise (· < ·) → (l.map fun i => ((i : Nat) : Int)).takeWhile (fun p => decide (p < b)) = (l.filter fun (i : Nat) => decide ((i : Int) < b)).map fun i => ((i : Nat) : Int)
  | [], _ => rfl
  | x :: l, h => by
    have h2 := List.pairwise_cons.1 h
    rw [List.map_cons, List.takeWhile_cons, List.filter_cons]
    by_cases c : (x : Int) < b
    · rw [decide_eq_true c, if_pos rfl, if_pos rfl, List.map_cons, takeWhile_sorted b l h2.2]
    · rw [decide_eq_false c, if_neg (by decide), if_neg (by decide)]
      have : l.filter (fun (i : Nat) => decide ((i : Int) < b)) = [] := by
        rw [List.filter_eq_nil_iff]
        intro y hy
        have := h2.1 y hy
        simp
        omega
      rw [this]
      rfl
/-- The places of a level's sign between two others. -/
def ownQ (s : ByteArray) (b : Int) (d a e p : Nat) : Bool := colq s b d p && decide (a ≤ p) && decide (p < e)
theorem within_own (s : ByteArray) (b : Int) (d a e : Nat) : withinL (wordsOf s.size (colq s b d)) (a : Int) (e : Int) = ((placesL s).filter (ownQ s b d a e)).map fun i => ((i : Nat) : Int) := by
  unfold withinL
  rw [setI_words, takeWhile_sorted _ _ (List.Pairwise.filter _ List.pairwise_lt_range), List.filter_map, List.filter_filter, List.filter_filter, range_begs, List.filter_filter]
  congr 1
  refine List.filter_congr fun p _ => ?_
  have hq : colq s b d p = true → begq s p = true := fun h => by
    unfold colq at h
    simp only [Bool.and_eq_true] at h
    exact sg_beg h.1.1
  show ((decide ((a : Int) ≤ (p : Int)) && decide ((p : Int) < (e : Int))) && colq s b d p) = (ownQ s b d a e p && begq s p)
  unfold ownQ
  have e1 : decide ((a : Int) ≤ (p : Int)) = decide (a ≤ p) := by rw [Bool.eq_iff_iff, decide_eq_true_eq, decide_eq_true_eq]; omega
  have e2 : decide ((p : Int) < (e : Int)) = decide (p < e) := by rw [Bool.eq_iff_iff, decide_eq_true_eq, decide_eq_true_eq]; omega
  rw [e1, e2]
  cases hc : colq s b d p with
  | false => simp
  | true =>
    rw [hq hc]
    cases decide (a ≤ p) <;> cases decide (p < e) <;> rfl
theorem inner_dep (s : ByteArray) (a : Nat) (ho : opS s a = true) : ∀ j, a < j → j ≤ closAt s a → dep s a + 1 ≤ dep s j
  | 0, h, _ => absurd h (Nat.not_lt_zero _)
  | j + 1, h, hc => by
    have hs := dep_succ s j
    by_cases e : j = a
    · subst e
      rw [ho, if_pos rfl] at hs
      omega
    · have ih := inner_dep s a ho j (by omega) (by omega)
      have hq : closq s a j = false := by
        obtain ⟨_, _, f3, _⟩ := firstQ_spec (closq s a) (s.size - (a + 1)) (a + 1)
        exact f3 j (by omega) (by unfold closAt at hc; omega)
      unfold closq at hq
      cases h1 : opS s j with
      | true => rw [h1, if_pos rfl] at hs; omega
      | false =>
        rw [h1, if_neg (by decide)] at hs
        cases h2 : clS s j with
        | false => rw [h2, if_neg (by decide)] at hs; omega
        | true =>
          rw [h2, if_pos rfl] at hs
          rw [h2, Bool.true_and] at hq
          have := of_decide_eq_false hq
          omega
/-- The signs told so far. -/
def ownN (s : ByteArray) (b : Int) (d a e t : Nat) : Nat := (((placesL s).take t).filter (ownQ s b d a e)).length
theorem ownN_step (s : ByteArray) (b : Int) (d a e : Nat) {t p : Nat} (h : (placesL s)[t]? = some p) : ownN s b d a e (t + 1) = if ownQ s b d a e p then ownN s b d a e t + 1 else ownN s b d a e t := by
  unfold ownN
  have e1 : (placesL s).take (t + 1) = (placesL s).take t ++ [p] := by
    rw [List.take_add_one, h]
    rfl
  rw [e1, List.filter_append, List.length_append]
  cases hq : ownQ s b d a e p with
  | true => rw [if_pos rfl, List.filter_cons, hq, if_pos rfl]; rfl
  | false => rw [if_neg (by decide), List.filter_cons, hq, if_neg (by decide)]; rfl
theorem ownN_at (s : ByteArray) (b : Int) (d a e : Nat) {t p : Nat} (h : (placesL s)[t]? = some p) (hq : ownQ s b d a e p = true) : ((placesL s).filter (ownQ s b d a e))[ownN s b d a e t]? = some p := by
  have hlt := (List.getElem?_eq_some_iff.1 h).1
  have e1 : (placesL s).filter (ownQ s b d a e) = ((placesL s).take t).filter (ownQ s b d a e) ++ p :: ((placesL s).drop (t + 1)).filter (ownQ s b d a e) := by
    have e2 : placesL s = (placesL s).take t ++ p :: (placesL s).drop (t + 1) := by
      have h3 := List.drop_eq_getElem_cons hlt
      rw [(List.getElem?_eq_some_iff.1 h).2] at h3
      rw [← h3, List.take_append_drop]
    conv => lhs; rw [e2]
    rw [List.filter_append, List.filter_cons, hq, if_pos rfl]
  rw [e1]
  unfold ownN
  rw [List.getElem?_append_right (Nat.le_refl _), Nat.sub_self]
  rfl
theorem ownN_all (s : ByteArray) (b : Int) (d a e : Nat) {t : Nat} (h : (placesL s).length ≤ t) : ownN s b d a e t = ((placesL s).filter (ownQ s b d a e)).length := by
  unfold ownN
  rw [List.take_of_length_le h]
theorem ownN_le (s : ByteArray) (b : Int) (d a e t : Nat) : ownN s b d a e t ≤ s.size := by
  unfold ownN
  have h1 := List.length_filter_le (ownQ s b d a e) ((placesL s).take t)
  have h2 : ((placesL s).take t).length ≤ (placesL s).length := by rw [List.length_take]; omega
  have h3 := places_le s
  omega
/-- The lists that Colons and Commas tell. -/
def ownI (s : ByteArray) (b : Int) (d a e : Nat) : List Int := ((placesL s).filter (ownQ s b d a e)).map fun i => ((i : Nat) : Int)
theorem ownI_len (s : ByteArray) (b : Int) (d a e : Nat) : (((ownI s b d a e).length : Nat) : Int) = ((ownN s b d a e (placesL s).length : Nat) : Int) := by
  unfold ownI
  rw [List.length_map, ownN_all s b d a e (Nat.le_refl _)]
theorem ownI_at (s : ByteArray) (b : Int) (d a e : Nat) {t p : Nat} (h : (placesL s)[t]? = some p) (hq : ownQ s b d a e p = true) : rd (ownI s b d a e) ((ownN s b d a e t : Nat) : Int) = (p : Int) ∧ ownN s b d a e t < (ownI s b d a e).length := by
  have h1 := ownN_at s b d a e h hq
  constructor
  · unfold rd ownI
    rw [Int.toNat_natCast, List.getD_eq_getElem?_getD, List.getElem?_map, h1]
    rfl
  · unfold ownI
    rw [List.length_map]
    exact (List.getElem?_eq_some_iff.1 h1).1
theorem idx_rd (s : ByteArray) {t p : Nat} (h : (placesL s)[t]? = some p) : rd (idxL s s.size) (t : Int) = (p : Int) := by
  unfold rd
  rw [Int.toNat_natCast, places_idx, List.getD_eq_getElem?_getD, List.getElem?_map, h]
  rfl
theorem wo {z : Int} (h0 : -1 ≤ z) (h1 : z ≤ 1125899906842624) : wrap64 z = z := by unfold wrap64; omega
/-- What is known of the depth ahead of place t of the list. -/
def DeepOk (s : ByteArray) (a e t : Nat) (deep : Int) : Prop := (nextP s t ≤ a → deep = ((dep s a : Nat) : Int) + 1) ∧ (a < nextP s t → nextP s t < e → deep = ((dep s (nextP s t) : Nat) : Int))
theorem own_loop (s : ByteArray) (hn : s.size ≤ 1048576) (a : Nat) (ha : a < s.size) (ho : opS s a = true) (he : closAt s a < s.size) (C58 C44 IX : List Int) (hC58 : C58 = ownI s 58 (dep s a + 1) a (closAt s a)) (hC44 : C44 = ownI s 44 (dep s a + 1) a (closAt s a)) (hIX : IX = idxL s s.size) : ∀ (m t k : Nat) (deep : Int), t + m = (placesL s).length → 7 * m + 10 < k → DeepOk s a (closAt s a) t deep →
    quarrylaw10_LevelsOwn.l0 k s (a : Int) ((closAt s a : Nat) : Int) (((dep s a : Nat) : Int) + 1) C58 C44 ((ownN s 58 (dep s a + 1) a (closAt s a) t : Nat) : Int) ((ownN s 44 (dep s a + 1) a (closAt s a) t : Nat) : Int) IX deep (t : Int) = some true := by
  have hlx : ((IX.length : Nat) : Int) = (((placesL s).length : Nat) : Int) := by rw [hIX, places_idx, List.length_map]
  have hpl := places_le s
  have hda := dep_le s a
  intro m
  induction m with
  | zero =>
    intro t k deep ht hk _
    obtain ⟨k, rfl⟩ : ∃ j, k = j + 1 := ⟨k - 1, by omega⟩
    have l58 := ownI_len s 58 (dep s a + 1) a (closAt s a)
    have l44 := ownI_len s 44 (dep s a + 1) a (closAt s a)
    rw [← hC58] at l58
    rw [← hC44] at l44
    rw [quarrylaw10_LevelsOwn.l0, if_neg (by omega), l58, l44, show t = (placesL s).length by omega, if_pos rfl, beq_self_eq_true]
  | succ m ih =>
    intro t k deep ht hk hdeep
    obtain ⟨k, rfl⟩ : ∃ j, k = (((((j + 1) + 1) + 1) + 1) + 1) + 1 + 1 := ⟨k - 7, by omega⟩
    have hlt : t < (placesL s).length := by omega
    obtain ⟨p, hp⟩ : ∃ p, (placesL s)[t]? = some p := ⟨_, List.getElem?_eq_getElem hlt⟩
    obtain ⟨a1, a2, a3, a4, a5, a6⟩ := place_at hp
    have w1 : Unit → wrap64 ((t : Int) + 1) = ((t + 1 : Nat) : Int) := fun _ => wo (by omega) (by omega)
    have hs58f := fun (_ : Unit) => ownN_step s 58 (dep s a + 1) a (closAt s a) hp
    have hs44f := fun (_ : Unit) => ownN_step s 44 (dep s a + 1) a (closAt s a) hp
    have hdnf := fun (_ : Unit) => dep_next hp
    have hrd := idx_rd s hp
    rw [← hIX] at hrd
    have c1_ : (t : Int) < ((IX.length : Nat) : Int) := by rw [hlx]; exact Int.ofNat_lt.2 hlt
    have c2_ : (0 : Int) ≤ (t : Int) := Int.natCast_nonneg t
    have c3_ : ¬ ((p : Int) < 0) := Int.not_lt.2 (Int.natCast_nonneg p)
    have c4_ : decide ((p : Int) ≥ (s.size : Int)) = false := decide_eq_false (by omega)
    rw [quarrylaw10_LevelsOwn.l0, if_pos c1_, if_pos c2_, hrd, if_neg c3_, c4_, quarrylaw10_LevelsOwn.j2, if_neg (by decide)]
    by_cases hin : a < p ∧ p < closAt s a
    · -- between the brackets
      have hdp : deep = ((dep s p : Nat) : Int) := by
        rw [a3]
        exact hdeep.2 (by omega) (by omega)
      have hd1 := inner_dep s a ho p hin.1 (by omega)
      have hdle := dep_le s p
      have w2 : Unit → wrap64 (((dep s p : Nat) : Int) + 1) = ((dep s p : Nat) : Int) + 1 := fun _ => wo (by omega) (by omega)
      have w3 : Unit → wrap64 (((dep s p : Nat) : Int) - 1) = ((dep s p : Nat) : Int) - 1 := fun _ => wo (by omega) (by omega)
      have hdiv : Unit → wrap64 (((IX.length : Nat) : Int) / 64) = (((placesL s).length / 64 : Nat) : Int) := fun _ => by
        rw [hlx]
        exact (wo (by omega) (by omega)).trans (by omega)
      have hdiv2 : Unit → wrap64 ((((placesL s).length / 64 : Nat) : Int) + 1) = (((placesL s).length / 64 + 1 : Nat) : Int) := fun _ => wo (by omega) (by omega)
      have hdep : levels_Depth.f s (p : Int) = some ((dep s p : Nat) : Int) := by
        rw [depth_eq s hn]
        unfold depAt
        rw [Int.toNat_natCast, show min p s.size = p by omega]
      rw [if_neg (by omega), decide_eq_false (by omega), quarrylaw10_LevelsOwn.j3, if_neg (by decide), hdiv (), hdiv2 (), if_neg (by omega), hdep, Option.bind_some, hdp, show (((dep s p : Nat) : Int) != ((dep s p : Nat) : Int)) = false by simp, ite_self]
      have fin : ∀ dz : Int, dz = ((dep s (nextP s (t + 1)) : Nat) : Int) → DeepOk s a (closAt s a) (t + 1) dz := fun dz hz => ⟨fun h => by omega, fun _ _ => hz⟩
      rw [quarrylaw10_LevelsOwn.j4, if_neg (by decide), if_pos (by omega), if_pos (by omega)]
      have e4 : (if bt s (p : Int) = 123 then quarrylaw10_LevelsOwn.j5 (k + 1 + 1 + 1) s (a : Int) ((closAt s a : Nat) : Int) (((dep s a : Nat) : Int) + 1) C58 C44 ((ownN s 58 (dep s a + 1) a (closAt s a) t : Nat) : Int) ((ownN s 44 (dep s a + 1) a (closAt s a) t : Nat) : Int) IX ((dep s p : Nat) : Int) (t : Int) (p : Int) (bt s (p : Int)) (bt s (p : Int) == 123)
          else quarrylaw10_LevelsOwn.j5 (k + 1 + 1 + 1) s (a : Int) ((closAt s a : Nat) : Int) (((dep s a : Nat) : Int) + 1) C58 C44 ((ownN s 58 (dep s a + 1) a (closAt s a) t : Nat) : Int) ((ownN s 44 (dep s a + 1) a (closAt s a) t : Nat) : Int) IX ((dep s p : Nat) : Int) (t : Int) (p : Int) (bt s (p : Int)) (bt s (p : Int) == 91)) =
          quarrylaw10_LevelsOwn.j5 (k + 1 + 1 + 1) s (a : Int) ((closAt s a : Nat) : Int) (((dep s a : Nat) : Int) + 1) C58 C44 ((ownN s 58 (dep s a + 1) a (closAt s a) t : Nat) : Int) ((ownN s 44 (dep s a + 1) a (closAt s a) t : Nat) : Int) IX ((dep s p : Nat) : Int) (t : Int) (p : Int) (bt s (p : Int)) (opensB (bt s (p : Int))) := by
        unfold opensB
        by_cases h : bt s (p : Int) = 123
        · rw [if_pos h, h]; rfl
        · rw [if_neg h, show (bt s (p : Int) == 123) = false from beq_eq_false_iff_ne.mpr h, Bool.false_or]
      rw [e4]
      -- the byte is neither sign: nothing is told
      have skip : bt s (p : Int) ≠ 58 → bt s (p : Int) ≠ 44 → ∀ dz : Int, dz = ((dep s (nextP s (t + 1)) : Nat) : Int) →
          quarrylaw10_LevelsOwn.j6 (k + 1 + 1) s (a : Int) ((closAt s a : Nat) : Int) (((dep s a : Nat) : Int) + 1) C58 C44 ((ownN s 58 (dep s a + 1) a (closAt s a) t : Nat) : Int) ((ownN s 44 (dep s a + 1) a (closAt s a) t : Nat) : Int) IX dz (t : Int) (p : Int) = some true := fun n58 n44 dz hz => by
        have q58 : ownQ s 58 (dep s a + 1) a (closAt s a) p = false := by unfold ownQ; rw [colq_beg a2 58 (.inl rfl), decide_eq_false n58]; rfl
        have q44 : ownQ s 44 (dep s a + 1) a (closAt s a) p = false := by unfold ownQ; rw [colq_beg a2 44 (.inr rfl), decide_eq_false n44]; rfl
        have hs58 := hs58f ()
        rw [q58, if_neg (by decide)] at hs58
        have hs44 := hs44f ()
        rw [q44, if_neg (by decide)] at hs44
        rw [quarrylaw10_LevelsOwn.j6, if_pos (by omega), if_pos (by omega), if_neg n58, if_neg n44, quarrylaw10_LevelsOwn.j7, if_pos rfl, w1 ()]
        have := ih (t + 1) k dz (by omega) (by omega) (fin dz hz)
        rw [hs58, hs44] at this
        exact this
      cases hop : opensB (bt s (p : Int)) with
      | true =>
        have hdn := hdnf ()
        rw [hop, if_pos rfl] at hdn
        have hb : bt s (p : Int) = 123 ∨ bt s (p : Int) = 91 := by
          unfold opensB at hop
          simpa using hop
        rw [quarrylaw10_LevelsOwn.j5, if_pos rfl, w2 ()]
        exact skip (by omega) (by omega) _ (by omega)
      | false =>
        rw [quarrylaw10_LevelsOwn.j5, if_neg (by decide), w3 ()]
        by_cases h125 : bt s (p : Int) = 125
        · have hc : closesB (bt s (p : Int)) = true := by rw [h125]; rfl
          have hdn := hdnf ()
          rw [hop, if_neg (by decide), hc, if_pos rfl] at hdn
          rw [if_pos h125]
          exact skip (by omega) (by omega) _ (by omega)
        · rw [if_neg h125]
          by_cases h93 : bt s (p : Int) = 93
          · have hc : closesB (bt s (p : Int)) = true := by rw [h93]; rfl
            have hdn := hdnf ()
            rw [hop, if_neg (by decide), hc, if_pos rfl] at hdn
            rw [if_pos h93]
            exact skip (by omega) (by omega) _ (by omega)
          · have hc : closesB (bt s (p : Int)) = false := by
              unfold closesB
              rw [Bool.or_eq_false_iff, beq_eq_false_iff_ne, beq_eq_false_iff_ne]
              exact ⟨h125, h93⟩
            have hdn := hdnf ()
            rw [hop, if_neg (by decide), hc, if_neg (by decide)] at hdn
            rw [if_neg h93]
            have hz : ((dep s p : Nat) : Int) = ((dep s (nextP s (t + 1)) : Nat) : Int) := by omega
            by_cases h58 : bt s (p : Int) = 58
            · have q44 : ownQ s 44 (dep s a + 1) a (closAt s a) p = false := by unfold ownQ; rw [colq_beg a2 44 (.inr rfl), decide_eq_false (by omega)]; rfl
              have hs44 := hs44f ()
              rw [q44, if_neg (by decide)] at hs44
              rw [quarrylaw10_LevelsOwn.j6, if_pos (by omega), if_pos (by omega), if_pos h58]
              by_cases hd : dep s p = dep s a + 1
              · have q58 : ownQ s 58 (dep s a + 1) a (closAt s a) p = true := by unfold ownQ; rw [colq_beg a2 58 (.inl rfl), decide_eq_true h58, decide_eq_true hd, decide_eq_true (by omega), decide_eq_true hin.2]; rfl
                have hs58 := hs58f ()
                rw [q58, if_pos rfl] at hs58
                obtain ⟨r1, r2⟩ := ownI_at s 58 (dep s a + 1) a (closAt s a) hp q58
                rw [← hC58] at r1 r2
                have hle := ownN_le s 58 (dep s a + 1) a (closAt s a) t
                have w4 : Unit → wrap64 (((ownN s 58 (dep s a + 1) a (closAt s a) t : Nat) : Int) + 1) = ((ownN s 58 (dep s a + 1) a (closAt s a) t + 1 : Nat) : Int) := fun _ => wo (by omega) (by omega)
                rw [show (((dep s p : Nat) : Int) != ((dep s a : Nat) : Int) + 1) = false by rw [bne_eq_false_iff_eq]; omega, quarrylaw10_LevelsOwn.j7, if_neg (by decide), if_pos (by omega), if_pos (by omega), if_pos h58, if_neg (by omega), if_pos (by omega), if_pos (by omega), r1, if_pos rfl, w4 (), w1 ()]
                have := ih (t + 1) k _ (by omega) (by omega) (fin _ hz)
                rw [hs58, hs44] at this
                exact this
              · have q58 : ownQ s 58 (dep s a + 1) a (closAt s a) p = false := by unfold ownQ; rw [colq_beg a2 58 (.inl rfl), decide_eq_false hd, Bool.and_false]; rfl
                have hs58 := hs58f ()
                rw [q58, if_neg (by decide)] at hs58
                rw [show (((dep s p : Nat) : Int) != ((dep s a : Nat) : Int) + 1) = true by rw [bne_iff_ne]; omega, quarrylaw10_LevelsOwn.j7, if_pos rfl, w1 ()]
                have := ih (t + 1) k _ (by omega) (by omega) (fin _ hz)
                rw [hs58, hs44] at this
                exact this
            · by_cases h44 : bt s (p : Int) = 44
              · have q58 : ownQ s 58 (dep s a + 1) a (closAt s a) p = false := by unfold ownQ; rw [colq_beg a2 58 (.inl rfl), decide_eq_false h58]; rfl
                have hs58 := hs58f ()
                rw [q58, if_neg (by decide)] at hs58
                rw [quarrylaw10_LevelsOwn.j6, if_pos (by omega), if_pos (by omega), if_neg h58, if_pos h44]
                by_cases hd : dep s p = dep s a + 1
                · have q44 : ownQ s 44 (dep s a + 1) a (closAt s a) p = true := by unfold ownQ; rw [colq_beg a2 44 (.inr rfl), decide_eq_true h44, decide_eq_true hd, decide_eq_true (by omega), decide_eq_true hin.2]; rfl
                  have hs44 := hs44f ()
                  rw [q44, if_pos rfl] at hs44
                  obtain ⟨r1, r2⟩ := ownI_at s 44 (dep s a + 1) a (closAt s a) hp q44
                  rw [← hC44] at r1 r2
                  have hle := ownN_le s 44 (dep s a + 1) a (closAt s a) t
                  have w4 : Unit → wrap64 (((ownN s 44 (dep s a + 1) a (closAt s a) t : Nat) : Int) + 1) = ((ownN s 44 (dep s a + 1) a (closAt s a) t + 1 : Nat) : Int) := fun _ => wo (by omega) (by omega)
                  rw [show (((dep s p : Nat) : Int) != ((dep s a : Nat) : Int) + 1) = false by rw [bne_eq_false_iff_eq]; omega, quarrylaw10_LevelsOwn.j7, if_neg (by decide), if_pos (by omega), if_pos (by omega), if_neg h58, if_neg (by omega), if_pos (by omega), if_pos (by omega), r1, if_pos rfl, w4 (), w1 ()]
                  have := ih (t + 1) k _ (by omega) (by omega) (fin _ hz)
                  rw [hs58, hs44] at this
                  exact this
                · have q44 : ownQ s 44 (dep s a + 1) a (closAt s a) p = false := by unfold ownQ; rw [colq_beg a2 44 (.inr rfl), decide_eq_false hd, Bool.and_false]; rfl
                  have hs44 := hs44f ()
                  rw [q44, if_neg (by decide)] at hs44
                  rw [show (((dep s p : Nat) : Int) != ((dep s a : Nat) : Int) + 1) = true by rw [bne_iff_ne]; omega, quarrylaw10_LevelsOwn.j7, if_pos rfl, w1 ()]
                  have := ih (t + 1) k _ (by omega) (by omega) (fin _ hz)
                  rw [hs58, hs44] at this
                  exact this
              · exact skip h58 h44 _ hz
    · -- outside of them
      have q : ∀ b : Int, (b = 58 ∨ b = 44) → ownQ s b (dep s a + 1) a (closAt s a) p = false := fun b hb => by
        unfold ownQ
        by_cases c1 : a ≤ p
        · by_cases c2 : p < closAt s a
          · have e : p = a := by omega
            have hbr : opensB (bt s (p : Int)) = true := by
              rw [e]
              unfold opS at ho
              simp only [Bool.and_eq_true] at ho
              exact ho.2
            have hne : bt s (p : Int) ≠ b := fun c => by
              rw [c] at hbr
              rcases hb with rfl | rfl <;> exact absurd hbr (by decide)
            rw [colq_beg a2 b hb, decide_eq_false hne]
            rfl
          · rw [decide_eq_false c2, Bool.and_false]
        · rw [decide_eq_false c1, Bool.and_false, Bool.false_and]
      have hs58 := hs58f ()
      rw [q 58 (.inl rfl), if_neg (by decide)] at hs58
      have hs44 := hs44f ()
      rw [q 44 (.inr rfl), if_neg (by decide)] at hs44
      have hgo : DeepOk s a (closAt s a) (t + 1) deep := by
        by_cases hpa : p ≤ a
        · have hd0 : deep = ((dep s a : Nat) : Int) + 1 := hdeep.1 (by omega)
          refine ⟨fun _ => hd0, fun h1 h2 => ?_⟩
          have hba : begq s a = true := by
            unfold opS at ho
            simp only [Bool.and_eq_true] at ho
            exact sg_beg ho.1
          have e : p = a := by
            apply Classical.byContradiction
            intro g
            have := a6 a (by omega) h1
            rw [hba] at this
            cases this
          subst e
          have hbr : opensB (bt s (p : Int)) = true := by
            unfold opS at ho
            simp only [Bool.and_eq_true] at ho
            exact ho.2
          have hdn := hdnf ()
          rw [hbr, if_pos rfl] at hdn
          omega
        · exact ⟨fun h => by omega, fun _ h => by omega⟩
      have h := ih (t + 1) (k + 1 + 1 + 1 + 1) deep (by omega) (by omega) hgo
      rw [hs58, hs44] at h
      have hj3 : quarrylaw10_LevelsOwn.j3 (k + 1 + 1 + 1 + 1 + 1) s (a : Int) ((closAt s a : Nat) : Int) (((dep s a : Nat) : Int) + 1) C58 C44 ((ownN s 58 (dep s a + 1) a (closAt s a) t : Nat) : Int) ((ownN s 44 (dep s a + 1) a (closAt s a) t : Nat) : Int) IX deep (t : Int) (p : Int) true = some true := by
        rw [quarrylaw10_LevelsOwn.j3, if_pos rfl, w1 ()]
        exact h
      by_cases hpa : (p : Int) ≤ (a : Int)
      · rw [if_pos hpa]
        exact hj3
      · rw [if_neg hpa, decide_eq_true (by omega)]
        exact hj3
theorem row_ok (n : Nat) (hn : n ≤ 1048576) (q : Nat → Bool) : rowOk (wordsOf n q) = true := by
  unfold rowOk
  simp only [Bool.and_eq_true, decide_eq_true_eq, List.all_eq_true]
  refine ⟨by rw [wordsOf_length]; unfold nwords; omega, fun x hx => ?_⟩
  unfold wordsOf at hx
  obtain ⟨k, _, rfl⟩ := List.mem_map.1 hx
  exact ⟨iv_nonneg _, iv_lt _⟩
theorem within_rows (s : ByteArray) (hn : s.size ≤ 1048576) (b : Int) (d a e : Nat) (h1 : 1 ≤ d) (h2 : d ≤ 64) : levels_within.f (rowsB s b 64 s.size) (d : Int) (a : Int) (e : Int) = some (ownI s b d a e) := by
  have hlen : (rowsB s b 64 s.size).length = 64 := by unfold rowsB; rw [List.length_map, List.length_range]
  have hrd : rd_T34 (rowsB s b 64 s.size) ((d : Int) - 1) = ⟨(s.size : Int), wordsOf s.size (colq s b d)⟩ := by
    obtain ⟨k, rfl⟩ : ∃ k, d = k + 1 := ⟨d - 1, by omega⟩
    unfold rd_T34
    rw [show (((k + 1 : Nat) : Int) - 1).toNat = k by omega, List.getD_eq_getElem?_getD]
    unfold rowsB
    rw [List.getElem?_map, List.getElem?_range (by omega), Option.map_some, Option.getD_some, colW_all]
  unfold levels_within.f
  rw [if_neg (by omega), if_pos (by omega), hrd, formed_eq s.size _ (by omega), Option.bind_some, row_ok s.size hn, if_pos rfl, if_pos rfl, within_own]
  rfl
theorem LevelsOwn (s : ByteArray) (a : Int) (hn : s.size ≤ 1048576) (_ : (Lit.int .i64 a).wf = true) : ∃ k, quarrylaw10_LevelsOwn.f k s a = some true := by
  obtain ⟨K, hK⟩ : ∃ K, K = 7 * s.size + 300 := ⟨_, rfl⟩
  refine ⟨K + 2, ?_⟩
  have hb : levels_Build.f s 64 = some (rowsB s 58 64 s.size, rowsB s 44 64 s.size, 0) := by
    unfold levels_Build.f
    rw [if_neg (by decide), if_pos hn]
    rfl
  unfold quarrylaw10_LevelsOwn.f
  rw [awake10 (K + 2) (by omega), Option.bind_some, if_pos rfl, close_eq s hn a K, Option.bind_some, hb, Option.bind_some]
  dsimp only
  rw [if_pos rfl, if_pos (by rw [rowsB_len]; rfl), rowsB_len, show (((64 : Nat) : Int) != 64) = false from rfl, quarrylaw10_LevelsOwn.j0, if_neg (by decide)]
  by_cases hr : 0 ≤ a ∧ a < (s.size : Int) ∧ opS s a.toNat = true
  · obtain ⟨n, rfl⟩ : ∃ n : Nat, a = (n : Int) := ⟨a.toNat, by omega⟩
    rw [Int.toNat_natCast] at hr ⊢
    obtain ⟨_, hr2, ho⟩ := hr
    have hlt : n < s.size := by omega
    have hif : (if 0 ≤ (n : Int) ∧ (n : Int) < (s.size : Int) ∧ opS s n = true then closI s n else -1) = closI s n := if_pos ⟨by omega, hr2, ho⟩
    rw [hif]
    by_cases he : closAt s n < s.size
    · have hc : closI s n = ((closAt s n : Nat) : Int) := by unfold closI; rw [if_pos he]
      have hda : depAt s (n : Int) = dep s n := by
        unfold depAt
        rw [Int.toNat_natCast, show min n s.size = n by omega]
      have hdl := dep_le s n
      have w1 : wrap64 (((dep s n : Nat) : Int) + 1) = ((dep s n : Nat) : Int) + 1 := wo (by omega) (by omega)
      have hfull : ∀ b : Int, (((rowsB s b 64 s.size).length : Nat) : Int) = 64 := fun b => by rw [rowsB_len]; rfl
      rw [hc, if_neg (by omega), depth_eq s hn, Option.bind_some, hda, w1]
      unfold levels_Colons.f levels_Commas.f
      by_cases hd : dep s n + 1 ≤ 64
      · have e1 : ((dep s n : Nat) : Int) + 1 = ((dep s n + 1 : Nat) : Int) := by omega
        have ew : ∀ b : Int, levels_within.f (rowsB s b 64 s.size) (((dep s n : Nat) : Int) + 1) (n : Int) ((closAt s n : Nat) : Int) = some (ownI s b (dep s n + 1) n (closAt s n)) := fun b => by
          rw [e1]
          exact within_rows s hn b (dep s n + 1) n (closAt s n) (by omega) hd
        have hix : marks_Index.f s = some (idxL s s.size) := by
          unfold marks_Index.f
          rw [if_pos (by omega)]
        rw [ew 58, Option.bind_some, Option.bind_some, ew 44, Option.bind_some, Option.bind_some, if_neg (by omega), hix, Option.bind_some]
        have h0 : ∀ b : Int, ownN s b (dep s n + 1) n (closAt s n) 0 = 0 := fun b => by unfold ownN; rfl
        have h := own_loop s hn n hlt ho he _ _ _ rfl rfl rfl (placesL s).length 0 (K + 1) (((dep s n : Nat) : Int) + 1) (by omega) (by have := places_le s; omega) ⟨fun _ => rfl, fun h1 _ => by
          have hba : begq s n = true := by
            unfold opS at ho
            simp only [Bool.and_eq_true] at ho
            exact sg_beg ho.1
          have := (next_zero s).2 n h1
          rw [hba] at this
          cases this⟩
        rw [h0, h0] at h
        exact h
      · have ew : ∀ b : Int, levels_within.f (rowsB s b 64 s.size) (((dep s n : Nat) : Int) + 1) (n : Int) ((closAt s n : Nat) : Int) = some [] := fun b => by
          unfold levels_within.f
          rw [if_pos (.inr (by rw [hfull]; omega))]
        rw [ew 58, Option.bind_some, Option.bind_some, ew 44, Option.bind_some, Option.bind_some, if_pos (by omega)]
        rfl
    · have hc : closI s n = -1 := by unfold closI; rw [if_neg he]
      rw [hc, if_pos (by decide)]
  · have hif : (if 0 ≤ a ∧ a < (s.size : Int) ∧ opS s a.toNat = true then closI s a.toNat else -1) = -1 := if_neg hr
    rw [hif, if_pos (by decide)]

end Go.Proofs.YtgddljealeklkaaDoor.Pure
end
namespace Go.Proofs.YtgddljealeklkaaDoor.levelsOwn
open Go.ChangeShapes Go.WideShapes Go.ChangeAt Go.RowKit
open Go.ChangeMaps (open_string shut_string)
set_option linter.unusedVariables false
set_option linter.unusedSimpArgs false
theorem own : ownKnob Tryd.prog.godebug = none := by kernel_rfl
theorem gTab : Tryd.prog.globalNamed "math/bits.deBruijn64tab" = some 0 := by kernel_rfl
theorem gTabType : (Tryd.prog.globals[0]?).map (·.type) = some 85 := by kernel_rfl
theorem cellsTab : Tryd.prog.cellsOf 85 = 64 := by kernel_rfl
theorem cellsByte : Tryd.prog.cellsOf 5 = 1 := by kernel_rfl
def tabZ : List Int := [0, 1, 56, 2, 57, 49, 28, 3, 61, 58, 42, 50, 38, 29, 17, 4, 62, 47, 59, 36, 45, 43, 51, 22, 53, 39, 33, 30, 24, 18, 12, 5, 63, 55, 48, 27, 60, 41, 37, 16, 46, 35, 44, 21, 52, 32, 23, 11, 54, 26, 40, 15, 34, 20, 31, 10, 25, 14, 19, 9, 13, 8, 7, 6]
theorem table {W : World} (h : laidMetH Tryd.prog Rows.levelsOwnUptoRow.laid W) : Lib.TabIs Tryd.prog W "math/bits.deBruijn64tab" .u8 tabZ :=
  Lib.tabIs_of_head (rest := []) gTab gTabType Tryd.underlying85 Tryd.underlying5 cellsByte cellsTab h
theorem tab_eq : ∀ j, j < 64 → tabZ.getD j 0 = ((Lib.deBruijn64tab.getD j 0 : Nat) : Int) := by decide
theorem tabOk {W : World} (h : laidMetH Tryd.prog Rows.levelsOwnUptoRow.laid W) : Go.Proofs.YtgddljealeklkaaDoorM.TabOk W := ⟨fun j hj => by
  have h64 : j < 64 := hj
  rw [(table h).cell gTab j h64, tab_eq j h64]⟩
noncomputable def laidWorld (os : Os) : World :=
  { World.holding Tryd.prog os ⟨#[], #[], []⟩ with heap := (World.holding Tryd.prog os ⟨#[], #[], []⟩).heap.modify 0 fun
      | .cells _ t frozen => .cells #[.int .u8 0, .int .u8 1, .int .u8 56, .int .u8 2, .int .u8 57, .int .u8 49, .int .u8 28, .int .u8 3, .int .u8 61, .int .u8 58, .int .u8 42, .int .u8 50, .int .u8 38, .int .u8 29, .int .u8 17, .int .u8 4, .int .u8 62, .int .u8 47, .int .u8 59, .int .u8 36, .int .u8 45, .int .u8 43, .int .u8 51, .int .u8 22, .int .u8 53, .int .u8 39, .int .u8 33, .int .u8 30, .int .u8 24, .int .u8 18, .int .u8 12, .int .u8 5, .int .u8 63, .int .u8 55, .int .u8 48, .int .u8 27, .int .u8 60, .int .u8 41, .int .u8 37, .int .u8 16, .int .u8 46, .int .u8 35, .int .u8 44, .int .u8 21, .int .u8 52, .int .u8 32, .int .u8 23, .int .u8 11, .int .u8 54, .int .u8 26, .int .u8 40, .int .u8 15, .int .u8 34, .int .u8 20, .int .u8 31, .int .u8 10, .int .u8 25, .int .u8 14, .int .u8 19, .int .u8 9, .int .u8 13, .int .u8 8, .int .u8 7, .int .u8 6] t frozen
      | o => o }
theorem laid_met (os : Os) : laidMet Tryd.prog Rows.levelsOwnUptoRow.laid ((laidWorld os).forCall (fun _ _ => 0) ⟨#[], #[.string ByteArray.empty, .int .i64 0], []⟩).memory :=
  laidMet_of_run' 8 (by kernel_rfl) (by kernel_rfl)
theorem reads (os : Os) {H : Type} (enc : TypeId × Value → H) : ∃ places, DataW.whole enc Tryd.prog ((laidWorld os).forCall (fun _ _ => 0) ⟨#[], #[.string ByteArray.empty, .int .i64 0], []⟩).memory Tryd.f10.params.toList Rows.levelsOwnSpec.vars false (#[.string ByteArray.empty, .int .i64 0] : Array Value).toList 8 = some ([.lit (.string []), .lit (.int .i64 0)], [], places) :=
  ⟨[], by kernel_rfl⟩
set_option maxRecDepth 100000 in
theorem lifted (os : Os) (started : os.Started) (H : Type) (enc : TypeId × Value → H) (F : Stop.Interp) :
    ReturnsInHanded {} Tryd.checked os 10 .any ((Rows.OpenSpec.upto Rows.levelsOwnSpec).preRow enc Tryd.prog Tryd.f10 Rows.levelsOwnUptoRow.domain false Rows.levelsOwnUptoRow.laid) (((Rows.OpenSpec.upto Rows.levelsOwnSpec).at F).post enc Tryd.prog Tryd.f10 false true false false) := by
  obtain ⟨places, hx⟩ := reads os enc
  refine returnsInHanded_of_row (C := Tryd.checked) (s := Rows.OpenSpec.upto Rows.levelsOwnSpec) own started (by kernel_rfl) Tryd.func10
    (witness_row_at (enc := enc) (C := Tryd.checked) false (laidWorld os) #[.string ByteArray.empty, .int .i64 0] rfl (by kernel_rfl) (by kernel_rfl) (by kernel_rfl)
      (OpenSpec.preRow_of_cond 8 hx (by kernel_rfl) (fun k hk => by cases hk; kernel_rfl) (by kernel_rfl) (laid_met os))) ?_
  intro W base args ds gs before hval0 hW hcnd hk0 hsz0 hL _ _
  have hsz : (DataW.weightsEach Tryd.prog (Tryd.f10.params.toList ++ Rows.levelsOwnSpec.plain.varTypes Tryd.prog) (ds ++ gs)).all (· ≤ reachBytes) = true := hsz0
  have hval : ∀ (j : Nat) t v, Tryd.f10.params[j]? = some t → args[j]? = some v → Value.okWide Tryd.prog W .any base t v := hval0
  have hW' := hW
  obtain ⟨p, q, hA0, hV, rfl, hfz, hnd⟩ := hW
  have hA : DataW.TrodAll enc Tryd.prog W 0 (fun _ => true) true Tryd.f10.params.toList args.toList ds p := hA0
  rw [Tryd.params10] at hA hval hsz
  obtain ⟨v0, vs0, d0, ds0, p0, q0, hargs, rfl, rfl, h0, r0⟩ := trodAll_cons hA
  obtain ⟨v1, vs1, d1, ds1, p1, q1, rfl, rfl, rfl, h1, r1⟩ := trodAll_cons r0
  obtain ⟨rfl, rfl, rfl⟩ := trodAll_nil r1
  obtain rfl : args = #[v0, v1] := by cases args; simp_all
  obtain ⟨rfl, rfl⟩ := trodVars_none hV
  obtain ⟨a0, rfl, rfl, rfl, y0⟩ := open_string Tryd.underlying9 (hval 0 9 v0 rfl rfl) h0
  have w0 : a0.size ≤ 140737488351232 := by
    have z := sized_string hsz (j := 0) (t := 9) rfl rfl
    rw [Array.length_toList] at z
    exact z
  obtain ⟨a1, rfl, rfl, rfl, w1⟩ := open_int Tryd.underlying3 (hval 1 3 v1 rfl rfl) h1
  clear hA0 hval0 hsz0 hsz
  have hk1 : Rows.uptoBulkAll _ ≤ 1048576 := of_decide_eq_true (hk0 _ rfl)
  simp only [Rows.uptoBulkAll, Rows.uptoBulk, List.append_nil, List.nil_append, List.cons_append] at hk1
  have e0_ : a0.data.toList.length = a0.size := by rw [Array.length_toList]; rfl
  have s0_ : a0.size ≤ 1048576 := by omega
  obtain ⟨k, hk⟩ := Pure.LevelsOwn a0 a1 s0_ w1
  refine (PL.quarrylaw10_LevelsOwn.calls k a0 a1 true W (tabOk hL) hk).mono fun e W' ⟨he, bel⟩ => ?_
  subst he
  exact ⟨_, rfl, _, _, _, [], _, [], hW', trodAll_mk1 (shut_bool Tryd.underlying4 _), (trodAll_cons_mk (shut_string Tryd.underlying9 y0) (trodAll_cons_mk (shut_int Tryd.underlying3 w1) trodAll_mk0)), rfl, bel.frame _, fun h => by cases h⟩
theorem over : Rows.levelsOwnUptoRow.holds Tryd.pinned (Rows.OpenSpec.upto Rows.levelsOwnSpec) :=
  OpenClaim.holds_of_cond 10 Tryd.f10 rfl rfl rfl rfl rfl rfl rfl ⟨rfl, rfl, rfl, rfl, rfl⟩ rfl rfl rfl rfl rfl (by kernel_rfl) Tryd.func10 (by kernel_rfl)
    (of_decide_eq_true (by kernel_rfl)) (by unfold Func.isWrapper; first | (rw [if_pos (by decide +kernel)]; kernel_rfl) | (rw [if_neg (by decide +kernel)]; exact ⟨rfl, rfl⟩))
    (fun os started H enc _ F => by rw [OpenClaim.pre_eq_preRow]; exact lifted os started H enc F)
theorem said : Rows.LevelsOwnUptoSaid := over
theorem plain (f : FuncId) (fn : Func) (hf : Tryd.pinned.checked.prog.funcNamed "quarry/quarrylaw10.LevelsOwn" = some f) (hfn : Tryd.pinned.checked.prog.funcs[f]? = some fn) :
    false = Tryd.pinned.checked.prog.looks [] ∧ ∀ (j : Nat) t, fn.params[j]? = some t → Tryd.pinned.checked.prog.wantsStandIn t = false := by
  obtain rfl : f = 10 := Option.some.inj ((show Tryd.prog.funcNamed "quarry/quarrylaw10.LevelsOwn" = some 10 by kernel_rfl).symm.trans hf) |>.symm
  obtain rfl : fn = Tryd.f10 := (Option.some.inj (Tryd.func10.symm.trans hfn)).symm
  refine ⟨by kernel_rfl, fun j t ht => ?_⟩
  rw [Tryd.params10] at ht
  have hm := Array.mem_of_getElem? ht
  simp only [List.mem_toArray, List.mem_cons, List.not_mem_nil, or_false] at hm
  rcases hm with rfl | rfl
  · exact (show Tryd.prog.wantsStandIn 9 = false by kernel_rfl)
  · exact (show Tryd.prog.wantsStandIn 3 = false by kernel_rfl)
theorem card : Rows.LevelsOwnUptoCardSaid :=
  Claim7.holds_tied_plain_at .later [] _ _ _ _ said (fun _ h => by cases h) (by kernel_rfl) (fun _ h => by cases h) levelsOwnUpto_row_tie rfl ⟨rfl, rfl⟩ (by kernel_rfl) rfl plain (by kernel_rfl)
#print axioms card
end Go.Proofs.YtgddljealeklkaaDoor.levelsOwn
namespace Go.Proofs.YtgddljealeklkaaDoor
/-- The card, under a short name, for the claim. -/
theorem levelsOwn_holds : Rows.LevelsOwnUptoCardSaid := levelsOwn.card
end Go.Proofs.YtgddljealeklkaaDoor
