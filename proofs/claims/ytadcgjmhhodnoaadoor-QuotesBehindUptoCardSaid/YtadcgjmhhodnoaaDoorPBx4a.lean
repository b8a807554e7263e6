-- Written by a program (myprint.py, over the kit's print) for this claim. Not trusted: Lean checks it.
import Derived.Test.YtadcgjmhhodnoaaDoorMh
import Derived.Test.YtadcgjmhhodnoaaDoorPBx0
import Derived.Test.YtadcgjmhhodnoaaDoorPBx1
import Derived.Test.YtadcgjmhhodnoaaDoorPBx2
import Derived.Test.YtadcgjmhhodnoaaDoorPBx3
namespace Go.Proofs.YtadcgjmhhodnoaaDoor.PB
attribute [local go_sem] Go.Proofs.YtadcgjmhhodnoaaDoorM.fieldBits0 Go.Proofs.YtadcgjmhhodnoaaDoorM.fieldBits1
open Go.Proofs.YtadcgjmhhodnoaaDoorM (TabOk)
open Go.RowKit Go.Proofs.YtadcgjmhhodnoaaDoorW.PrintWords Go.Proofs.YtadcgjmhhodnoaaDoorW.PrintLast Go.Proofs.YtadcgjmhhodnoaaDoorW.PrintMore
attribute [local go_sem] max2_int min2_int max_two min_two max_three min_three max_four min_four   -- for this text's walks alone
set_option linter.unusedVariables false
set_option linter.unusedSimpArgs false

/-! ### quarrylaw07_QuotesBehind: function 10 -/
mutual
def quarrylaw07_QuotesBehind.j0 : Nat → ByteArray → ByteArray → Bool → Int → List Int → Int → List Int → Int → List Int → Int → List Int → Int → List Int → Int → List Int → Option (Bool)
  | 0, _, _, _, _, _, _, _, _, _, _, _, _, _, _, _ => none
  | k + 1, x0, x1, x46, x141000, x141001, x142000, x142001, x143000, x143001, x156000, x156001, x157000, x157001, x158000, x158001 => if x46 = true then (some false) else (quarrylaw07_QuotesBehind.l0 k x0 x1 0 x141000 x141001 x142000 x142001 x143000 x143001 x156000 x156001 x157000 x157001 x158000 x158001)
def quarrylaw07_QuotesBehind.l0 : Nat → ByteArray → ByteArray → Int → Int → List Int → Int → List Int → Int → List Int → Int → List Int → Int → List Int → Int → List Int → Option (Bool)
  | 0, _, _, _, _, _, _, _, _, _, _, _, _, _, _, _ => none
  | k + 1, x0, x1, x11, x141000, x141001, x142000, x142001, x143000, x143001, x156000, x156001, x157000, x157001, x158000, x158001 => if x11 < (x0.size : Int) then ((bitmap_Get.f x143000 x143001 x11).bind fun t158 => ((bitmap_Get.f x141000 x141001 x11).bind fun t159 => (if (t158 != t159) = true then (some false) else ((bitmap_Get.f x158000 x158001 x11).bind fun t160 => ((bitmap_Get.f x156000 x156001 x11).bind fun t161 => (if (t160 != t161) = true then (some false) else (quarrylaw07_QuotesBehind.l0 k x0 x1 (wrap64 (x11 + 1)) x141000 x141001 x142000 x142001 x143000 x143001 x156000 x156001 x157000 x157001 x158000 x158001))))))) else ((escape_Behind.f k x0 false).bind fun t162 => (if t162 = true then (if (x1.size : Int) = 0 then (some true) else ((bitmap_Get.f x143000 x143001 (x0.size : Int)).bind fun t163 => (some (!t163)))) else ((quotes_Open.f k x0).bind fun t164 => (quarrylaw07_QuotesBehind.l1 k x0 x1 t164 0 x142000 x142001 x143000 x143001 x157000 x157001 x158000 x158001))))
def quarrylaw07_QuotesBehind.l1 : Nat → ByteArray → ByteArray → Bool → Int → Int → List Int → Int → List Int → Int → List Int → Int → List Int → Option (Bool)
  | 0, _, _, _, _, _, _, _, _, _, _, _, _ => none
  | k + 1, x0, x1, x12, x13, x142000, x142001, x143000, x143001, x157000, x157001, x158000, x158001 => if x13 < (x1.size : Int) then ((bitmap_Get.f x143000 x143001 (wrap64 ((x0.size : Int) + x13))).bind fun t167 => ((bitmap_Get.f x142000 x142001 x13).bind fun t168 => (if (t167 != t168) = true then (some false) else ((bitmap_Get.f x158000 x158001 (wrap64 ((x0.size : Int) + x13))).bind fun t169 => ((bitmap_Get.f x157000 x157001 x13).bind fun t170 => (if (t169 != (t170 != x12)) = true then (some false) else (quarrylaw07_QuotesBehind.l1 k x0 x1 x12 (wrap64 (x13 + 1)) x142000 x142001 x143000 x143001 x157000 x157001 x158000 x158001))))))) else (if x0.size + x1.size ≤ 9223372036854775807 then ((quotes_Open.f k (x0 ++ x1)).bind fun t165 => ((quotes_Open.f k x1).bind fun t166 => (some (t165 == (x12 != t166))))) else (none))
end
def quarrylaw07_QuotesBehind.f (k : Nat) (a0 : ByteArray) (a1 : ByteArray) : Option (Bool) := (quarrylaw07_awake.f).bind fun t127 => (if t127 = true then ((quotes_Marks.f a0).bind fun bt128 => ((quotes_Marks.f a1).bind fun bt132 => (if a0.size + a1.size ≤ 9223372036854775807 then ((quotes_Marks.f (a0 ++ a1)).bind fun bt136 => ((quotes_Inside.f a0).bind fun bt143 => ((quotes_Inside.f a1).bind fun bt147 => ((quotes_Inside.f (a0 ++ a1)).bind fun bt151 => (if bt136.1 = (wrap64 ((a0.size : Int) + (a1.size : Int))) then (quarrylaw07_QuotesBehind.j0 k a0 a1 (bt151.1 != bt136.1) bt128.1 bt128.2 bt132.1 bt132.2 bt136.1 bt136.2 bt143.1 bt143.2 bt147.1 bt147.2 bt151.1 bt151.2) else (quarrylaw07_QuotesBehind.j0 k a0 a1 true bt128.1 bt128.2 bt132.1 bt132.2 bt136.1 bt136.2 bt143.1 bt143.2 bt147.1 bt147.2 bt151.1 bt151.2)))))) else (none)))) else (some false))
theorem quarrylaw07_QuotesBehind.mono_l : ∀ k, (∀ y0 y1 y2 y3 y4 y5 y6 y7 y8 y9 y10 y11 y12 y13 y14, LeO (quarrylaw07_QuotesBehind.j0 k y0 y1 y2 y3 y4 y5 y6 y7 y8 y9 y10 y11 y12 y13 y14) (quarrylaw07_QuotesBehind.j0 (k + 1) y0 y1 y2 y3 y4 y5 y6 y7 y8 y9 y10 y11 y12 y13 y14)) ∧ (∀ y0 y1 y2 y3 y4 y5 y6 y7 y8 y9 y10 y11 y12 y13 y14, LeO (quarrylaw07_QuotesBehind.l0 k y0 y1 y2 y3 y4 y5 y6 y7 y8 y9 y10 y11 y12 y13 y14) (quarrylaw07_QuotesBehind.l0 (k + 1) y0 y1 y2 y3 y4 y5 y6 y7 y8 y9 y10 y11 y12 y13 y14)) ∧ (∀ y0 y1 y2 y3 y4 y5 y6 y7 y8 y9 y10 y11, LeO (quarrylaw07_QuotesBehind.l1 k y0 y1 y2 y3 y4 y5 y6 y7 y8 y9 y10 y11) (quarrylaw07_QuotesBehind.l1 (k + 1) y0 y1 y2 y3 y4 y5 y6 y7 y8 y9 y10 y11))
  | 0 => ⟨fun _ _ _ _ _ _ _ _ _ _ _ _ _ _ _ r h => by simp [quarrylaw07_QuotesBehind.j0] at h, fun _ _ _ _ _ _ _ _ _ _ _ _ _ _ _ r h => by simp [quarrylaw07_QuotesBehind.l0] at h, fun _ _ _ _ _ _ _ _ _ _ _ _ r h => by simp [quarrylaw07_QuotesBehind.l1] at h⟩
  | k + 1 => by
    obtain ⟨ih0, ih1, ih2⟩ := quarrylaw07_QuotesBehind.mono_l k
    refine ⟨?_, ?_, ?_⟩
    · intro y0 y1 y2 y3 y4 y5 y6 y7 y8 y9 y10 y11 y12 y13 y14
      unfold quarrylaw07_QuotesBehind.j0
      repeat' first
      | (with_reducible exact ih0 _ _ _ _ _ _ _ _ _ _ _ _ _ _ _)
      | (with_reducible exact ih1 _ _ _ _ _ _ _ _ _ _ _ _ _ _ _)
      | (with_reducible exact ih2 _ _ _ _ _ _ _ _ _ _ _ _)
      | (with_reducible exact escape_Behind.mono _ _ _)
      | (with_reducible exact quotes_Open.mono _ _)
      | (with_reducible exact LeO.refl _)
      | (with_reducible exact LeO.none _)
      | (with_reducible refine LeO.ite ?_ ?_)
      | (with_reducible refine LeO.bind ?_ (fun _ => ?_))
      | exact ih0 _ _ _ _ _ _ _ _ _ _ _ _ _ _ _
      | exact ih1 _ _ _ _ _ _ _ _ _ _ _ _ _ _ _
      | exact ih2 _ _ _ _ _ _ _ _ _ _ _ _
      | exact escape_Behind.mono _ _ _
      | exact quotes_Open.mono _ _
      | exact LeO.none _
      | refine LeO.ite ?_ ?_
      | refine LeO.bind ?_ (fun _ => ?_)
    · intro y0 y1 y2 y3 y4 y5 y6 y7 y8 y9 y10 y11 y12 y13 y14
      unfold quarrylaw07_QuotesBehind.l0
      repeat' first
      | (with_reducible exact ih0 _ _ _ _ _ _ _ _ _ _ _ _ _ _ _)
      | (with_reducible exact ih1 _ _ _ _ _ _ _ _ _ _ _ _ _ _ _)
      | (with_reducible exact ih2 _ _ _ _ _ _ _ _ _ _ _ _)
      | (with_reducible exact escape_Behind.mono _ _ _)
      | (with_reducible exact quotes_Open.mono _ _)
      | (with_reducible exact LeO.refl _)
      | (with_reducible exact LeO.none _)
      | (with_reducible refine LeO.ite ?_ ?_)
      | (with_reducible refine LeO.bind ?_ (fun _ => ?_))
      | exact ih0 _ _ _ _ _ _ _ _ _ _ _ _ _ _ _
      | exact ih1 _ _ _ _ _ _ _ _ _ _ _ _ _ _ _
      | exact ih2 _ _ _ _ _ _ _ _ _ _ _ _
      | exact escape_Behind.mono _ _ _
      | exact quotes_Open.mono _ _
      | exact LeO.none _
      | refine LeO.ite ?_ ?_
      | refine LeO.bind ?_ (fun _ => ?_)
    · intro y0 y1 y2 y3 y4 y5 y6 y7 y8 y9 y10 y11
      unfold quarrylaw07_QuotesBehind.l1
      repeat' first
      | (with_reducible exact ih0 _ _ _ _ _ _ _ _ _ _ _ _ _ _ _)
      | (with_reducible exact ih1 _ _ _ _ _ _ _ _ _ _ _ _ _ _ _)
      | (with_reducible exact ih2 _ _ _ _ _ _ _ _ _ _ _ _)
      | (with_reducible exact escape_Behind.mono _ _ _)
      | (with_reducible exact quotes_Open.mono _ _)
      | (with_reducible exact LeO.refl _)
      | (with_reducible exact LeO.none _)
      | (with_reducible refine LeO.ite ?_ ?_)
      | (with_reducible refine LeO.bind ?_ (fun _ => ?_))
      | exact ih0 _ _ _ _ _ _ _ _ _ _ _ _ _ _ _
      | exact ih1 _ _ _ _ _ _ _ _ _ _ _ _ _ _ _
      | exact ih2 _ _ _ _ _ _ _ _ _ _ _ _
      | exact escape_Behind.mono _ _ _
      | exact quotes_Open.mono _ _
      | exact LeO.none _
      | refine LeO.ite ?_ ?_
      | refine LeO.bind ?_ (fun _ => ?_)
theorem quarrylaw07_QuotesBehind.mono : ∀ a0 a1 k, LeO (quarrylaw07_QuotesBehind.f k a0 a1) (quarrylaw07_QuotesBehind.f (k + 1) a0 a1) := by
  intro a0 a1 k
  obtain ⟨ih0, ih1, ih2⟩ := quarrylaw07_QuotesBehind.mono_l k
  unfold quarrylaw07_QuotesBehind.f
  repeat' first
      | (with_reducible exact ih0 _ _ _ _ _ _ _ _ _ _ _ _ _ _ _)
      | (with_reducible exact ih1 _ _ _ _ _ _ _ _ _ _ _ _ _ _ _)
      | (with_reducible exact ih2 _ _ _ _ _ _ _ _ _ _ _ _)
      | (with_reducible exact escape_Behind.mono _ _ _)
      | (with_reducible exact quotes_Open.mono _ _)
      | (with_reducible exact LeO.refl _)
      | (with_reducible exact LeO.none _)
      | (with_reducible refine LeO.ite ?_ ?_)
      | (with_reducible refine LeO.bind ?_ (fun _ => ?_))
      | exact ih0 _ _ _ _ _ _ _ _ _ _ _ _ _ _ _
      | exact ih1 _ _ _ _ _ _ _ _ _ _ _ _ _ _ _
      | exact ih2 _ _ _ _ _ _ _ _ _ _ _ _
      | exact escape_Behind.mono _ _ _
      | exact quotes_Open.mono _ _
      | exact LeO.none _
      | refine LeO.ite ?_ ?_
      | refine LeO.bind ?_ (fun _ => ?_)
def quarrylaw07_QuotesBehind.T10 : Bool × List (List Nat × List Nat) := (true, [([], []), ([], []), ([0, 1], [0, 1]), ([], []), ([], []), ([3, 4, 2], [3, 4]), ([2, 5], [2, 5]), ([6, 5], [6]), ([7], [7]), ([7], [7]), ([8, 9, 7, 7], [7, 8, 9]), ([7], [7]), ([7], [7]), ([11, 12, 10, 7], [7, 11, 12]), ([10, 13, 7], [7, 10, 13]), ([7, 14], [7, 14])])
def quarrylaw07_QuotesBehind.B10 : List Nat := [0, 0, 3, 0, 0, 31, 63, 127, 255, 255, 1023, 255, 255, 8191, 16383, 32767]
theorem quarrylaw07_QuotesBehind.tab10 : rtab .any (opsOf Tryd.f10 10) = quarrylaw07_QuotesBehind.T10 := by kernel_rfl
theorem quarrylaw07_QuotesBehind.bits10 : waitsOk quarrylaw07_QuotesBehind.T10.2 quarrylaw07_QuotesBehind.B10 = true := by kernel_rfl
def quarrylaw07_QuotesBehind.T18 : Bool × List (List Nat × List Nat) := (true, [([], []), ([], []), ([1], [1]), ([], []), ([2, 3], [2, 3]), ([0, 4], [0, 4]), ([], []), ([], []), ([6, 7, 5], [6, 7]), ([5, 8], [5, 8]), ([9, 8], [9]), ([10], [10]), ([10], [10]), ([12, 10], [10, 12]), ([10], [10]), ([13, 14, 10], [10, 13, 14]), ([11, 15, 10, 10], [10, 11, 15]), ([10], [10]), ([10], [10]), ([17, 18, 16, 10], [10, 17, 18]), ([10], [10]), ([19, 20, 10], [10, 19, 20]), ([16, 21, 10], [10, 16, 21]), ([10, 22], [10, 22])])
def quarrylaw07_QuotesBehind.B18 : List Nat := [0, 0, 2, 0, 14, 31, 0, 0, 255, 511, 1023, 2047, 2047, 6143, 2047, 30719, 65535, 2047, 2047, 524287, 2047, 2097151, 4194303, 8388607]
theorem quarrylaw07_QuotesBehind.tab18 : rtab .any (opsOf Tryd.f10 18) = quarrylaw07_QuotesBehind.T18 := by kernel_rfl
theorem quarrylaw07_QuotesBehind.bits18 : waitsOk quarrylaw07_QuotesBehind.T18.2 quarrylaw07_QuotesBehind.B18 = true := by kernel_rfl

/-! Short names: the walk's text is long. -/
theorem zA : type_of% @List.setIfInBounds_toArray := @List.setIfInBounds_toArray
theorem zB : type_of% @List.set_cons_zero := @List.set_cons_zero
theorem zC : type_of% @List.set_cons_succ := @List.set_cons_succ
theorem zD : type_of% @blk_drewN := @blk_drewN
theorem zE : type_of% @blk_drew := @blk_drew
theorem zF : type_of% @blk_alloc := @blk_alloc
theorem zG : type_of% @Kd.R_alloc := @Kd.R_alloc
theorem zH : type_of% @Kd.R_drewN := @Kd.R_drewN
theorem zI : type_of% @Kd.R_drew := @Kd.R_drew
theorem zJ : type_of% @below_set := @below_set
theorem zK : type_of% @Kd.R_below := @Kd.R_below
theorem zL : type_of% @blk_cell := @blk_cell
theorem zM : type_of% @blk_below := @blk_below
theorem zN : type_of% @pw_below_drewN := @pw_below_drewN
theorem zO : type_of% @below_drew1 := @below_drew1
theorem zP : type_of% @Kd.R_far := @Kd.R_far
theorem zQ : type_of% @below_alloc := @below_alloc
theorem zS : type_of% @Aside0.mk := @Aside0.mk

end Go.Proofs.YtadcgjmhhodnoaaDoor.PB
