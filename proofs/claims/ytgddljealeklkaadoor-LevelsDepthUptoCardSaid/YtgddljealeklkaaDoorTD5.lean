/- Parts of a claim (TD), packed by a program (pack.py) out of the texts that it names. -/
import Derived.Test.YtgddljealeklkaaDoorCards
import Derived.Test.YtgddljealeklkaaDoorTie
import Derived.WalkKit
import Derived.ProofKit
import Derived.OpenShut
import Derived.ShutString
import Derived.ChangeOld
import Derived.Below
import Derived.SizedLaws
import Derived.Deep.DeepHandedRow
import Derived.Lib.LaidTab
import Derived.Test.YtgddljealeklkaaDoorTD4
-- PLx11
section
namespace Go.Proofs.YtgddljealeklkaaDoor.PL
attribute [local go_sem] Go.Proofs.YtgddljealeklkaaDoorM.fieldBits0 Go.Proofs.YtgddljealeklkaaDoorM.fieldBits1
open Go.Proofs.YtgddljealeklkaaDoorM (TabOk)
open Go.RowKit Go.Proofs.YtgddljealeklkaaDoorW.PrintWords Go.Proofs.YtgddljealeklkaaDoorW.PrintLast Go.Proofs.YtgddljealeklkaaDoorW.PrintMore
attribute [local go_sem] max2_int min2_int max_two min_two max_three min_three max_four min_four   -- for this text's walks alone
set_option linter.unusedVariables false
set_option linter.unusedSimpArgs false

def quarryref10_Depth.f (k : Nat) (a0 : ByteArray) (a1 : Int) : Option (Int) := if a1 ≤ 0 then (some 0) else ((quarryref10_Depths.f k a0).bind fun t329 => (if a1 > (a0.size : Int) then (if 0 ≤ (a0.size : Int) then (if (a0.size : Int) < (t329.length : Int) then (some (rd t329 (a0.size : Int))) else (none)) else (none)) else (if 0 ≤ a1 then (if a1 < (t329.length : Int) then (some (rd t329 a1)) else (none)) else (none))))
theorem quarryref10_Depth.mono : ∀ a0 a1 k, LeO (quarryref10_Depth.f k a0 a1) (quarryref10_Depth.f (k + 1) a0 a1) := by
  intro a0 a1 k
  unfold quarryref10_Depth.f
  repeat' first
      | (with_reducible exact quarryref10_Depths.mono _ _)
      | (with_reducible exact LeO.refl _)
      | (with_reducible exact LeO.none _)
      | (with_reducible refine LeO.ite ?_ ?_)
      | (with_reducible refine LeO.bind ?_ (fun _ => ?_))
      | exact quarryref10_Depths.mono _ _
      | exact LeO.none _
      | refine LeO.ite ?_ ?_
      | refine LeO.bind ?_ (fun _ => ?_)
set_option maxHeartbeats 8000000 in
set_option maxRecDepth 100000 in
theorem quarryref10_Depth.calls (k : Nat) (a0 : ByteArray) (a1 : Int) (r : Int) (w : World) (h : quarryref10_Depth.f k a0 a1 = some r) :
    Calls Tryd.prog 38 #[.string a0, .int .i64 a1] w fun e w' => e = .returned (.int .i64 r) ∧ Below w.heap.size w w' := by
  have HB := Aside0.mk (Below.refl w.heap.size w)
  have H : (if a1 ≤ 0 then (some 0) else ((quarryref10_Depths.f k a0).bind fun t329 => (if a1 > (a0.size : Int) then (if 0 ≤ (a0.size : Int) then (if (a0.size : Int) < (t329.length : Int) then (some (rd t329 (a0.size : Int))) else (none)) else (none)) else (if 0 ≤ a1 then (if a1 < (t329.length : Int) then (some (rd t329 a1)) else (none)) else (none))))) = some r := h
  clear h
  by_cases c3 : a1 ≤ 0
  · rw [if_pos c3] at H
    have c3b0 : decide (a1 ≤ 0) = true := decide_eq_true c3
    clear c3
    obtain rfl := Option.some.inj H
    go_enter Tryd.func38, Tryd.ntmps38
    go_wp2
    go_ret
    exact ⟨by first | rfl | (simp [errW_none, errW_some] <;> rfl) | (simp [*, errW_none, errW_some] <;> rfl), by repeat (first | (with_reducible first | exact HB.out | apply below_alloc | apply pw_below_drewN | apply below_drew1) | exact HB.out)⟩
  · rw [if_neg c3] at H
    have c3b0 : decide (a1 ≤ 0) = false := decide_eq_false c3
    clear c3
    replace H := Option.bind_eq_some_iff.mp H
    obtain ⟨t329, A40, H⟩ := H
    replace H : (if a1 > (a0.size : Int) then (if 0 ≤ (a0.size : Int) then (if (a0.size : Int) < (t329.length : Int) then (some (rd t329 (a0.size : Int))) else (none)) else (none)) else (if 0 ≤ a1 then (if a1 < (t329.length : Int) then (some (rd t329 a1)) else (none)) else (none))) = some r := H
    have A4 := Aside0.mk A40
    clear A40
    by_cases c5 : a1 > (a0.size : Int)
    · rw [if_pos c5] at H
      have c5b0 : decide ((a0.size : Int) < a1) = true := decide_eq_true c5
      clear c5
      by_cases c6 : 0 ≤ (a0.size : Int)
      · rw [if_pos c6] at H
        have c6b0 : decide (0 ≤ (a0.size : Int)) = true := decide_eq_true c6
        have c6b1 : decide (0 ≤ a0.size) = true := decide_eq_true (by omega)
        clear c6
        by_cases c7 : (a0.size : Int) < (t329.length : Int)
        · rw [if_pos c7] at H
          have c7b0 : decide ((a0.size : Int) < (t329.length : Int)) = true := decide_eq_true c7
          have c7b1 : decide (a0.size < t329.length) = true := decide_eq_true (Int.ofNat_lt.mp c7)
          clear c7
          obtain rfl := Option.some.inj H
          go_enter Tryd.func38, Tryd.ntmps38
          go_wp2_with (first | ((with_reducible refine gate_callee (f := 67) rfl ?_); refine goesL_ (some 9) rfl rfl Tryd.func67 (by kernel_rfl) rfl #[.string a0] rfl (by (try simp only [List.map_toArray, List.map_cons, List.map_nil]); first | done | rfl | (simp only [List.length_drop, List.length_take]; rfl)) ?_; (with_reducible refine (quarryref10_Depths.calls k a0 t329 _ A4.out).mono ?_); rintro e w8 ⟨v330, rfl, ho0, hb⟩; refine ⟨_, rfl, ?_⟩; have n0_ := Aside0.mk (Kd.R_lower ho0 (below_size (by repeat (first | (with_reducible first | exact HB.out | apply below_alloc | apply pw_below_drewN | apply below_drew1) | exact HB.out)))); have n1_ := Aside0.mk (below_step (by repeat (first | (with_reducible first | exact HB.out | apply below_alloc | apply pw_below_drewN | apply below_drew1) | exact HB.out)) hb); clear HB; have HO331 := n0_; have HB := n1_; clear n0_ n1_; (try clear hb); (try clear hb2); (try clear hk); (try clear hi); (try clear ho0); obtain ⟨Ao9, co9, eo9⟩ := Kd.R_slice HO331.out; subst eo9; have p332 : 0 ≤ ((a0.size : Int) : Int) := of_decide_eq_true (by first | (with_reducible assumption) | assumption); have q332 : (a0.size : Int) < (t329.length : Int) := of_decide_eq_true (by first | (with_reducible assumption) | assumption); obtain ⟨ad332, e332, hx332_0⟩ := Kd.at_int (Kd.R_reads' HO331.out).2.2 (a0.size : Int) p332 q332; cases e332; (try rw [Int.toNat_natCast] at hx332_0); replace p332 := eq_true p332; replace q332 := eq_true q332))
          go_ret
          exact ⟨by first | rfl | (simp [errW_none, errW_some] <;> rfl) | (simp [*, errW_none, errW_some] <;> rfl), by repeat (first | (with_reducible first | exact HB.out | apply below_alloc | apply pw_below_drewN | apply below_drew1) | exact HB.out)⟩
        · rw [if_neg c7] at H
          exact absurd H (by simp)
      · rw [if_neg c6] at H
        exact absurd H (by simp)
    · rw [if_neg c5] at H
      have c5b0 : decide ((a0.size : Int) < a1) = false := decide_eq_false c5
      clear c5
      by_cases c10 : 0 ≤ a1
      · rw [if_pos c10] at H
        have c10b0 : decide (0 ≤ a1) = true := decide_eq_true c10
        clear c10
        by_cases c11 : a1 < (t329.length : Int)
        · rw [if_pos c11] at H
          have c11b0 : decide (a1 < (t329.length : Int)) = true := decide_eq_true c11
          clear c11
          obtain rfl := Option.some.inj H
          go_enter Tryd.func38, Tryd.ntmps38
          go_wp2_with (first | ((with_reducible refine gate_callee (f := 67) rfl ?_); refine goesL_ (some 9) rfl rfl Tryd.func67 (by kernel_rfl) rfl #[.string a0] rfl (by (try simp only [List.map_toArray, List.map_cons, List.map_nil]); first | done | rfl | (simp only [List.length_drop, List.length_take]; rfl)) ?_; (with_reducible refine (quarryref10_Depths.calls k a0 t329 _ A4.out).mono ?_); rintro e w12 ⟨v330, rfl, ho0, hb⟩; refine ⟨_, rfl, ?_⟩; have n0_ := Aside0.mk (Kd.R_lower ho0 (below_size (by repeat (first | (with_reducible first | exact HB.out | apply below_alloc | apply pw_below_drewN | apply below_drew1) | exact HB.out)))); have n1_ := Aside0.mk (below_step (by repeat (first | (with_reducible first | exact HB.out | apply below_alloc | apply pw_below_drewN | apply below_drew1) | exact HB.out)) hb); clear HB; have HO331 := n0_; have HB := n1_; clear n0_ n1_; (try clear hb); (try clear hb2); (try clear hk); (try clear hi); (try clear ho0); obtain ⟨Ao13, co13, eo13⟩ := Kd.R_slice HO331.out; subst eo13; have p333 : 0 ≤ (a1 : Int) := of_decide_eq_true (by first | (with_reducible assumption) | assumption); have q333 : a1 < (t329.length : Int) := of_decide_eq_true (by first | (with_reducible assumption) | assumption); obtain ⟨ad333, e333, hx333_0⟩ := Kd.at_int (Kd.R_reads' HO331.out).2.2 a1 p333 q333; cases e333; replace p333 := eq_true p333; replace q333 := eq_true q333))
          go_ret
          exact ⟨by first | rfl | (simp [errW_none, errW_some] <;> rfl) | (simp [*, errW_none, errW_some] <;> rfl), by repeat (first | (with_reducible first | exact HB.out | apply below_alloc | apply pw_below_drewN | apply below_drew1) | exact HB.out)⟩
        · rw [if_neg c11] at H
          exact absurd H (by simp)
      · rw [if_neg c10] at H
        exact absurd H (by simp)

mutual
def quarryref10_Close.j0 : Nat → ByteArray → Int → List Bool → List Int → Bool → Option (Int)
  | 0, _, _, _, _, _ => none
  | k + 1, x0, x1, x5, x6, x33 => if x33 = true then (some (-1)) else (quarryref10_Close.l0 k x0 x1 x5 x6 (wrap64 (x1 + 1)))
def quarryref10_Close.l0 : Nat → ByteArray → Int → List Bool → List Int → Int → Option (Int)
  | 0, _, _, _, _, _ => none
  | k + 1, x0, x1, x5, x6, x7 => if x7 < (x0.size : Int) then (if 0 ≤ x7 then (if x7 < (x5.length : Int) then (if rdOf false x5 x7 = true then ((quarryref10_Closes.f (bt x0 x7)).bind fun t343 => (if t343 = true then (if x7 < (x6.length : Int) then (if 0 ≤ x1 then (if x1 < (x6.length : Int) then (if (rd x6 x7) = (wrap64 ((rd x6 x1) + 1)) then (some x7) else (quarryref10_Close.l0 k x0 x1 x5 x6 (wrap64 (x7 + 1)))) else (none)) else (none)) else (none)) else (quarryref10_Close.l0 k x0 x1 x5 x6 (wrap64 (x7 + 1))))) else (quarryref10_Close.l0 k x0 x1 x5 x6 (wrap64 (x7 + 1)))) else (none)) else (none)) else (some (-1))
end
def quarryref10_Close.f (k : Nat) (a0 : ByteArray) (a1 : Int) : Option (Int) := (quarryref10_Outside.f k a0).bind fun t334 => ((quarryref10_Depths.f k a0).bind fun t337 => (if a1 < 0 then (quarryref10_Close.j0 k a0 a1 t334 t337 true) else (if a1 ≥ (a0.size : Int) then (quarryref10_Close.j0 k a0 a1 t334 t337 true) else (if 0 ≤ a1 then (if a1 < (t334.length : Int) then (if rdOf false t334 a1 = true then (if a1 < (a0.size : Int) then ((quarryref10_Opens.f (bt a0 a1)).bind fun t341 => (quarryref10_Close.j0 k a0 a1 t334 t337 (!t341))) else (none)) else (quarryref10_Close.j0 k a0 a1 t334 t337 true)) else (none)) else (none)))))
theorem quarryref10_Close.mono_l : ∀ k, (∀ y0 y1 y2 y3 y4, LeO (quarryref10_Close.j0 k y0 y1 y2 y3 y4) (quarryref10_Close.j0 (k + 1) y0 y1 y2 y3 y4)) ∧ (∀ y0 y1 y2 y3 y4, LeO (quarryref10_Close.l0 k y0 y1 y2 y3 y4) (quarryref10_Close.l0 (k + 1) y0 y1 y2 y3 y4))
  | 0 => ⟨fun _ _ _ _ _ r h => by simp [quarryref10_Close.j0] at h, fun _ _ _ _ _ r h => by simp [quarryref10_Close.l0] at h⟩
  | k + 1 => by
    obtain ⟨ih0, ih1⟩ := quarryref10_Close.mono_l k
    refine ⟨?_, ?_⟩
    · intro y0 y1 y2 y3 y4
      unfold quarryref10_Close.j0
      repeat' first
      | (with_reducible exact ih0 _ _ _ _ _)
      | (with_reducible exact ih1 _ _ _ _ _)
      | (with_reducible exact quarryref10_Depths.mono _ _)
      | (with_reducible exact quarryref10_Outside.mono _ _)
      | (with_reducible exact LeO.refl _)
      | (with_reducible exact LeO.none _)
      | (with_reducible refine LeO.ite ?_ ?_)
      | (with_reducible refine LeO.bind ?_ (fun _ => ?_))
      | exact ih0 _ _ _ _ _
      | exact ih1 _ _ _ _ _
      | exact quarryref10_Depths.mono _ _
      | exact quarryref10_Outside.mono _ _
      | exact LeO.none _
      | refine LeO.ite ?_ ?_
      | refine LeO.bind ?_ (fun _ => ?_)
    · intro y0 y1 y2 y3 y4
      unfold quarryref10_Close.l0
      repeat' first
      | (with_reducible exact ih0 _ _ _ _ _)
      | (with_reducible exact ih1 _ _ _ _ _)
      | (with_reducible exact quarryref10_Depths.mono _ _)
      | (with_reducible exact quarryref10_Outside.mono _ _)
      | (with_reducible exact LeO.refl _)
      | (with_reducible exact LeO.none _)
      | (with_reducible refine LeO.ite ?_ ?_)
      | (with_reducible refine LeO.bind ?_ (fun _ => ?_))
      | exact ih0 _ _ _ _ _
      | exact ih1 _ _ _ _ _
      | exact quarryref10_Depths.mono _ _
      | exact quarryref10_Outside.mono _ _
      | exact LeO.none _
      | refine LeO.ite ?_ ?_
      | refine LeO.bind ?_ (fun _ => ?_)
theorem quarryref10_Close.mono : ∀ a0 a1 k, LeO (quarryref10_Close.f k a0 a1) (quarryref10_Close.f (k + 1) a0 a1) := by
  intro a0 a1 k
  obtain ⟨ih0, ih1⟩ := quarryref10_Close.mono_l k
  unfold quarryref10_Close.f
  repeat' first
      | (with_reducible exact ih0 _ _ _ _ _)
      | (with_reducible exact ih1 _ _ _ _ _)
      | (with_reducible exact quarryref10_Depths.mono _ _)
      | (with_reducible exact quarryref10_Outside.mono _ _)
      | (with_reducible exact LeO.refl _)
      | (with_reducible exact LeO.none _)
      | (with_reducible refine LeO.ite ?_ ?_)
      | (with_reducible refine LeO.bind ?_ (fun _ => ?_))
      | exact ih0 _ _ _ _ _
      | exact ih1 _ _ _ _ _
      | exact quarryref10_Depths.mono _ _
      | exact quarryref10_Outside.mono _ _
      | exact LeO.none _
      | refine LeO.ite ?_ ?_
      | refine LeO.bind ?_ (fun _ => ?_)
set_option maxHeartbeats 8000000 in
set_option maxRecDepth 100000 in
theorem quarryref10_Close.calls (k : Nat) (a0 : ByteArray) (a1 : Int) (r : Int) (w : World) (h : quarryref10_Close.f k a0 a1 = some r) :
    Calls Tryd.prog 40 #[.string a0, .int .i64 a1] w fun e w' => e = .returned (.int .i64 r) ∧ Below w.heap.size w w' := by
  have HB := Aside0.mk (Below.refl w.heap.size w)
  have H : ((quarryref10_Outside.f k a0).bind fun t334 => ((quarryref10_Depths.f k a0).bind fun t337 => (if a1 < 0 then (quarryref10_Close.j0 k a0 a1 t334 t337 true) else (if a1 ≥ (a0.size : Int) then (quarryref10_Close.j0 k a0 a1 t334 t337 true) else (if 0 ≤ a1 then (if a1 < (t334.length : Int) then (if rdOf false t334 a1 = true then (if a1 < (a0.size : Int) then ((quarryref10_Opens.f (bt a0 a1)).bind fun t341 => (quarryref10_Close.j0 k a0 a1 t334 t337 (!t341))) else (none)) else (quarryref10_Close.j0 k a0 a1 t334 t337 true)) else (none)) else (none)))))) = some r := h
  clear h
  replace H := Option.bind_eq_some_iff.mp H
  obtain ⟨t334, A30, H⟩ := H
  replace H : ((quarryref10_Depths.f k a0).bind fun t337 => (if a1 < 0 then (quarryref10_Close.j0 k a0 a1 t334 t337 true) else (if a1 ≥ (a0.size : Int) then (quarryref10_Close.j0 k a0 a1 t334 t337 true) else (if 0 ≤ a1 then (if a1 < (t334.length : Int) then (if rdOf false t334 a1 = true then (if a1 < (a0.size : Int) then ((quarryref10_Opens.f (bt a0 a1)).bind fun t341 => (quarryref10_Close.j0 k a0 a1 t334 t337 (!t341))) else (none)) else (quarryref10_Close.j0 k a0 a1 t334 t337 true)) else (none)) else (none))))) = some r := H
  have A3 := Aside0.mk A30
  clear A30
  replace H := Option.bind_eq_some_iff.mp H
  obtain ⟨t337, A40, H⟩ := H
  replace H : (if a1 < 0 then (quarryref10_Close.j0 k a0 a1 t334 t337 true) else (if a1 ≥ (a0.size : Int) then (quarryref10_Close.j0 k a0 a1 t334 t337 true) else (if 0 ≤ a1 then (if a1 < (t334.length : Int) then (if rdOf false t334 a1 = true then (if a1 < (a0.size : Int) then ((quarryref10_Opens.f (bt a0 a1)).bind fun t341 => (quarryref10_Close.j0 k a0 a1 t334 t337 (!t341))) else (none)) else (quarryref10_Close.j0 k a0 a1 t334 t337 true)) else (none)) else (none)))) = some r := H
  have A4 := Aside0.mk A40
  clear A40
  have HC5 := Aside0.mk H
  clear H
  go_enter Tryd.func40, Tryd.ntmps40
  go_upto_region 2 with (first | (go_at_call 66; (with_reducible refine (quarryref10_Outside.calls k a0 t334 _ A3.out).mono ?_); rintro e w6 ⟨v335, rfl, ho0, hb⟩; have n0_ := Aside0.mk (Kd.R_lower ho0 (below_size (by repeat (first | (with_reducible first | exact HB.out | apply below_alloc | apply pw_below_drewN | apply below_drew1) | exact HB.out)))); have n1_ := Aside0.mk (below_step (by repeat (first | (with_reducible first | exact HB.out | apply below_alloc | apply pw_below_drewN | apply below_drew1) | exact HB.out)) hb); clear HB; have HO336 := n0_; have HB := n1_; clear n0_ n1_; (try clear hb); (try clear hb2); (try clear hk); (try clear hi); (try clear ho0)) | (go_at_call 67; (with_reducible refine (quarryref10_Depths.calls k a0 t337 _ A4.out).mono ?_); rintro e w7 ⟨v338, rfl, ho0, hb⟩; have n0_ := Aside0.mk (Kd.R_below (by (with_reducible repeat (first | apply Kd.R_alloc | apply Kd.R_drewN | apply Kd.R_drew)); exact HO336.out) hb); have n1_ := Aside0.mk (Kd.R_lower ho0 (below_size (by repeat (first | (with_reducible first | exact HB.out | apply below_alloc | apply pw_below_drewN | apply below_drew1) | exact HB.out)))); have n2_ := Aside0.mk (below_step (by repeat (first | (with_reducible first | exact HB.out | apply below_alloc | apply pw_below_drewN | apply below_drew1) | exact HB.out)) hb); clear HO336; clear HB; have HO336 := n0_; have HO339 := n1_; have HB := n2_; clear n0_ n1_ n2_; (try clear hb); (try clear hb2); (try clear hk); (try clear hi); (try clear ho0)))
  repeat (go_quiet (first | (go_at_call 66; (with_reducible refine (quarryref10_Outside.calls k a0 t334 _ A3.out).mono ?_); rintro e w6 ⟨v335, rfl, ho0, hb⟩; have n0_ := Aside0.mk (Kd.R_lower ho0 (below_size (by repeat (first | (with_reducible first | exact HB.out | apply below_alloc | apply pw_below_drewN | apply below_drew1) | exact HB.out)))); have n1_ := Aside0.mk (below_step (by repeat (first | (with_reducible first | exact HB.out | apply below_alloc | apply pw_below_drewN | apply below_drew1) | exact HB.out)) hb); clear HB; have HO336 := n0_; have HB := n1_; clear n0_ n1_; (try clear hb); (try clear hb2); (try clear hk); (try clear hi); (try clear ho0)) | (go_at_call 67; (with_reducible refine (quarryref10_Depths.calls k a0 t337 _ A4.out).mono ?_); rintro e w7 ⟨v338, rfl, ho0, hb⟩; have n0_ := Aside0.mk (Kd.R_below (by (with_reducible repeat (first | apply Kd.R_alloc | apply Kd.R_drewN | apply Kd.R_drew)); exact HO336.out) hb); have n1_ := Aside0.mk (Kd.R_lower ho0 (below_size (by repeat (first | (with_reducible first | exact HB.out | apply below_alloc | apply pw_below_drewN | apply below_drew1) | exact HB.out)))); have n2_ := Aside0.mk (below_step (by repeat (first | (with_reducible first | exact HB.out | apply below_alloc | apply pw_below_drewN | apply below_drew1) | exact HB.out)) hb); clear HO336; clear HB; have HO336 := n0_; have HO339 := n1_; have HB := n2_; clear n0_ n1_ n2_; (try clear hb); (try clear hb2); (try clear hk); (try clear hi); (try clear ho0))); go_upto_region 2 with (first | (go_at_call 66; (with_reducible refine (quarryref10_Outside.calls k a0 t334 _ A3.out).mono ?_); rintro e w6 ⟨v335, rfl, ho0, hb⟩; have n0_ := Aside0.mk (Kd.R_lower ho0 (below_size (by repeat (first | (with_reducible first | exact HB.out | apply below_alloc | apply pw_below_drewN | apply below_drew1) | exact HB.out)))); have n1_ := Aside0.mk (below_step (by repeat (first | (with_reducible first | exact HB.out | apply below_alloc | apply pw_below_drewN | apply below_drew1) | exact HB.out)) hb); clear HB; have HO336 := n0_; have HB := n1_; clear n0_ n1_; (try clear hb); (try clear hb2); (try clear hk); (try clear hi); (try clear ho0)) | (go_at_call 67; (with_reducible refine (quarryref10_Depths.calls k a0 t337 _ A4.out).mono ?_); rintro e w7 ⟨v338, rfl, ho0, hb⟩; have n0_ := Aside0.mk (Kd.R_below (by (with_reducible repeat (first | apply Kd.R_alloc | apply Kd.R_drewN | apply Kd.R_drew)); exact HO336.out) hb); have n1_ := Aside0.mk (Kd.R_lower ho0 (below_size (by repeat (first | (with_reducible first | exact HB.out | apply below_alloc | apply pw_below_drewN | apply below_drew1) | exact HB.out)))); have n2_ := Aside0.mk (below_step (by repeat (first | (with_reducible first | exact HB.out | apply below_alloc | apply pw_below_drewN | apply below_drew1) | exact HB.out)) hb); clear HO336; clear HB; have HO336 := n0_; have HO339 := n1_; have HB := n2_; clear n0_ n1_ n2_; (try clear hb); (try clear hb2); (try clear hk); (try clear hi); (try clear ho0))))
  (try simp only [Act.put, List.setIfInBounds_toArray, List.set_cons_zero, List.set_cons_succ])
  go_cut [33] (fun v33 wc => ∃ (kq : Nat) (x33_4 : Bool), v33 = .bool x33_4 ∧ Aside0 (quarryref10_Close.j0 kq a0 a1 t334 t337 x33_4 = some r) ∧ Aside0 (kq ≤ k) ∧ Aside0 (Kd.R Kd.bool 4 wc w.heap.size (fun _ => True) v335 t334) ∧ Aside0 (Kd.R (Kd.int .i64) 3 wc w.heap.size (fun _ => True) v338 t337) ∧ Aside0 (Below w.heap.size w wc))
  case first =>
    have H := HC5.out
    clear HC5
    by_cases c8 : a1 < 0
    · rw [if_pos c8] at H
      have c8b0 : decide (a1 < 0) = true := decide_eq_true c8
      clear c8
      (first | rw [c8b0] | (simp only [i64_w, i32_w]; rw [c8b0]) | skip)
      have H' := Aside0.mk H
      clear H
      go_wp2
      repeat (go_quiet (fail); try go_wp2)
      go_meet
      case rel => exact ⟨_, (true), (by first | rfl | (simp; done) | (simp [*]; done)), H', ⟨by first | omega | exact Nat.le_refl _⟩, ⟨by (with_reducible repeat (first | apply Kd.R_alloc | apply Kd.R_drewN | apply Kd.R_drew)); exact HO336.out⟩, ⟨by (with_reducible repeat (first | apply Kd.R_alloc | apply Kd.R_drewN | apply Kd.R_drew)); exact HO339.out⟩, ⟨by repeat (first | (with_reducible first | exact HB.out | apply below_alloc | apply pw_below_drewN | apply below_drew1) | exact HB.out)⟩⟩
    · rw [if_neg c8] at H
      have c8b0 : decide (a1 < 0) = false := decide_eq_false c8
      clear c8
      (first | rw [c8b0] | (simp only [i64_w, i32_w]; rw [c8b0]) | skip)
      by_cases c9 : a1 ≥ (a0.size : Int)
      · rw [if_pos c9] at H
        have c9b0 : decide ((a0.size : Int) ≤ a1) = true := decide_eq_true c9
        clear c9
        have H' := Aside0.mk H
        clear H
        go_wp2
        repeat (go_quiet (fail); try go_wp2)
        go_meet
        case rel => exact ⟨_, (true), (by first | rfl | (simp; done) | (simp [*]; done)), H', ⟨by first | omega | exact Nat.le_refl _⟩, ⟨by (with_reducible repeat (first | apply Kd.R_alloc | apply Kd.R_drewN | apply Kd.R_drew)); exact HO336.out⟩, ⟨by (with_reducible repeat (first | apply Kd.R_alloc | apply Kd.R_drewN | apply Kd.R_drew)); exact HO339.out⟩, ⟨by repeat (first | (with_reducible first | exact HB.out | apply below_alloc | apply pw_below_drewN | apply below_drew1) | exact HB.out)⟩⟩
      · rw [if_neg c9] at H
        have c9b0 : decide ((a0.size : Int) ≤ a1) = false := decide_eq_false c9
        clear c9
        by_cases c10 : 0 ≤ a1
        · rw [if_pos c10] at H
          have c10b0 : decide (0 ≤ a1) = true := decide_eq_true c10
          clear c10
          by_cases c11 : a1 < (t334.length : Int)
          · rw [if_pos c11] at H
            have c11b0 : decide (a1 < (t334.length : Int)) = true := decide_eq_true c11
            clear c11
            obtain ⟨bq12, hbq12⟩ : ∃ b_ : Bool, b_ = (rdOf false t334 a1) := ⟨_, rfl⟩
            replace H : (if bq12 = true then (if a1 < (a0.size : Int) then ((quarryref10_Opens.f (bt a0 a1)).bind fun t341 => (quarryref10_Close.j0 k a0 a1 t334 t337 (!t341))) else (none)) else (quarryref10_Close.j0 k a0 a1 t334 t337 true)) = some r := by rw [← hbq12] at H; exact H
            have Nbq12 := Aside0.mk hbq12
            clear hbq12
            by_cases c13 : bq12 = true
            · subst c13
              have H1 : (if a1 < (a0.size : Int) then ((quarryref10_Opens.f (bt a0 a1)).bind fun t341 => (quarryref10_Close.j0 k a0 a1 t334 t337 (!t341))) else (none)) = some r := by rw [if_pos rfl] at H; exact H
              clear H
              have H := H1
              clear H1
              by_cases c14 : a1 < (a0.size : Int)
              · rw [if_pos c14] at H
                have c14b0 : decide (a1 < (a0.size : Int)) = true := decide_eq_true c14
                clear c14
                replace H := Option.bind_eq_some_iff.mp H
                obtain ⟨t341, A160, H⟩ := H
                replace H : (quarryref10_Close.j0 k a0 a1 t334 t337 (!t341)) = some r := H
                have A16 := Aside0.mk A160
                clear A160
                have H' := Aside0.mk H
                clear H
                obtain ⟨Ao17, co17, eo17⟩ := Kd.R_slice HO336.out
                subst eo17
                have p340 : 0 ≤ (a1 : Int) := of_decide_eq_true (by first | (with_reducible assumption) | assumption)
                have q340 : a1 < (t334.length : Int) := of_decide_eq_true (by first | (with_reducible assumption) | assumption)
                obtain ⟨ad340, e340, hx340_0⟩ := Kd.at_bool (Kd.R_reads' HO336.out).2.2 a1 p340 q340
                (try rw [← Nbq12.out] at hx340_0)
                cases e340
                replace p340 := eq_true p340
                replace q340 := eq_true q340
                have p15 : 0 ≤ (a1 : Int) := of_decide_eq_true (by first | (with_reducible assumption) | assumption)
                have q15 : a1 < (a0.size : Int) := of_decide_eq_true (by first | (with_reducible assumption) | assumption)
                have hx15 := bt_at a0 a1
                replace p15 := eq_true p15
                replace q15 := eq_true q15
                go_wp2_with (first | (go_at_call 76; (with_reducible refine (quarryref10_Opens.calls (bt a0 a1) t341 _ A16.out).mono ?_); rintro e w' ⟨rfl, ⟨nd, rfl⟩⟩; (try first | exact ⟨rfl, _, World.drewN_drewN _ _ _⟩ | exact ⟨rfl, _, Eq.trans (World.drewN_drewN _ _ _) (congrArg (World.drewN _) (Nat.add_assoc _ _ _))⟩)))
                repeat (go_quiet (first | (go_at_call 76; (with_reducible refine (quarryref10_Opens.calls (bt a0 a1) t341 _ A16.out).mono ?_); rintro e w' ⟨rfl, ⟨nd, rfl⟩⟩; (try first | exact ⟨rfl, _, World.drewN_drewN _ _ _⟩ | exact ⟨rfl, _, Eq.trans (World.drewN_drewN _ _ _) (congrArg (World.drewN _) (Nat.add_assoc _ _ _))⟩))); try go_wp2_with (first | (go_at_call 76; (with_reducible refine (quarryref10_Opens.calls (bt a0 a1) t341 _ A16.out).mono ?_); rintro e w' ⟨rfl, ⟨nd, rfl⟩⟩; (try first | exact ⟨rfl, _, World.drewN_drewN _ _ _⟩ | exact ⟨rfl, _, Eq.trans (World.drewN_drewN _ _ _) (congrArg (World.drewN _) (Nat.add_assoc _ _ _))⟩))))
                go_meet
                case rel => exact ⟨_, (!t341), (by first | rfl | (simp; done) | (simp [*]; done)), H', ⟨by first | omega | exact Nat.le_refl _⟩, ⟨by (with_reducible repeat (first | apply Kd.R_alloc | apply Kd.R_drewN | apply Kd.R_drew)); exact HO336.out⟩, ⟨by (with_reducible repeat (first | apply Kd.R_alloc | apply Kd.R_drewN | apply Kd.R_drew)); exact HO339.out⟩, ⟨by repeat (first | (with_reducible first | exact HB.out | apply below_alloc | apply pw_below_drewN | apply below_drew1) | exact HB.out)⟩⟩
              · rw [if_neg c14] at H
                exact absurd H (by simp)
            · replace c13 := Bool.eq_false_iff.mpr c13
              subst c13
              have H1 : (quarryref10_Close.j0 k a0 a1 t334 t337 true) = some r := by rw [if_neg (show ¬ (false = true) by decide)] at H; exact H
              clear H
              have H := H1
              clear H1
              have H' := Aside0.mk H
              clear H
              obtain ⟨Ao18, co18, eo18⟩ := Kd.R_slice HO336.out
              subst eo18
              have p340 : 0 ≤ (a1 : Int) := of_decide_eq_true (by first | (with_reducible assumption) | assumption)
              have q340 : a1 < (t334.length : Int) := of_decide_eq_true (by first | (with_reducible assumption) | assumption)
              obtain ⟨ad340, e340, hx340_0⟩ := Kd.at_bool (Kd.R_reads' HO336.out).2.2 a1 p340 q340
              (try rw [← Nbq12.out] at hx340_0)
              cases e340
              replace p340 := eq_true p340
              replace q340 := eq_true q340
              go_wp2
              repeat (go_quiet (fail); try go_wp2)
              go_meet
              case rel => exact ⟨_, (true), (by first | rfl | (simp; done) | (simp [*]; done)), H', ⟨by first | omega | exact Nat.le_refl _⟩, ⟨by (with_reducible repeat (first | apply Kd.R_alloc | apply Kd.R_drewN | apply Kd.R_drew)); exact HO336.out⟩, ⟨by (with_reducible repeat (first | apply Kd.R_alloc | apply Kd.R_drewN | apply Kd.R_drew)); exact HO339.out⟩, ⟨by repeat (first | (with_reducible first | exact HB.out | apply below_alloc | apply pw_below_drewN | apply below_drew1) | exact HB.out)⟩⟩
          · rw [if_neg c11] at H
            exact absurd H (by simp)
        · rw [if_neg c10] at H
          exact absurd H (by simp)
  case rest =>
    clear HC5
    try clear c1
    try clear p1
    try clear q1
    try clear hx1
    try clear p2
    try clear p3
    try clear q3
    try clear hx3
    try clear c4
    try clear c8
    try clear c8b0
    try clear c9
    try clear c9b0
    try clear c10
    try clear c10b0
    try clear c11
    try clear c11b0
    try clear q12
    try clear c13
    try clear c14
    try clear c14b0
    try clear p15
    try clear q15
    try clear hx15
    try clear hx340_0
    try clear p15
    try clear p340
    try clear q15
    try clear q340
    obtain ⟨kq, x33_4, rfl, HA, HJ4, HO_5, HO_6, HB⟩ := hcut
    cases kq with
    | zero => exact absurd HA.out (by simp [quarryref10_Close.j0])
    | succ kj4 =>
      have H := HA.out
      clear HA
      simp only [quarryref10_Close.j0] at H
      by_cases c19 : x33_4 = true
      · subst c19
        have H1 : (some (-1)) = some r := by rw [if_pos rfl] at H; exact H
        clear H
        have H := H1
        clear H1
        obtain rfl := Option.some.inj H
        go_wp2
        repeat (go_quiet (fail); try go_wp2)
        go_ret
        exact ⟨by first | rfl | (simp [errW_none, errW_some] <;> rfl) | (simp [*, errW_none, errW_some] <;> rfl), by repeat (first | (with_reducible first | exact HB.out | apply below_alloc | apply pw_below_drewN | apply below_drew1) | exact HB.out)⟩
      · replace c19 := Bool.eq_false_iff.mpr c19
        subst c19
        have H1 : (quarryref10_Close.l0 kj4 a0 a1 t334 t337 (wrap64 (a1 + 1))) = some r := by rw [if_neg (show ¬ (false = true) by decide)] at H; exact H
        clear H
        have H := H1
        clear H1
        have H' := Aside0.mk H
        clear H
        go_wp2
        repeat (go_quiet (fail); try go_wp2)
        go_loopg [7] kj4 (fun kq v7 w' => ∃ (x7_2 : Int), v7 = .int .i64 x7_2 ∧ Aside0 (quarryref10_Close.l0 kq a0 a1 t334 t337 x7_2 = some r) ∧ Aside0 (kq ≤ kj4) ∧ Aside0 (Kd.R Kd.bool 4 w' w.heap.size (fun _ => True) v335 t334) ∧ Aside0 (Kd.R (Kd.int .i64) 3 w' w.heap.size (fun _ => True) v338 t337) ∧ Aside0 (Below w.heap.size w w'))
        case atStart => exact ⟨(wrap64 (a1 + 1)), (by first | rfl | (simp; done) | (simp [*]; done)), H', ⟨Nat.le_refl _⟩, ⟨by (with_reducible repeat (first | apply Kd.R_alloc | apply Kd.R_drewN | apply Kd.R_drew)); exact HO_5.out⟩, ⟨by (with_reducible repeat (first | apply Kd.R_alloc | apply Kd.R_drewN | apply Kd.R_drew)); exact HO_6.out⟩, ⟨by repeat (first | (with_reducible first | exact HB.out | apply below_alloc | apply pw_below_drewN | apply below_drew1) | exact HB.out)⟩⟩
        case round =>
          clear H'
          try clear c1
          try clear p1
          try clear q1
          try clear hx1
          try clear p2
          try clear p3
          try clear q3
          try clear hx3
          try clear c4
          try clear p6
          try clear c8
          try clear c8b0
          try clear c9
          try clear c9b0
          try clear c10
          try clear c10b0
          try clear c11
          try clear c11b0
          try clear q12
          try clear c13
          try clear c14
          try clear c14b0
          try clear p15
          try clear q15
          try clear hx15
          try clear c19
          try clear hx340_0
          try clear p1
          try clear p15
          try clear p2
          try clear p3
          try clear p340
          try clear q1
          try clear q12
          try clear q15
          try clear q3
          try clear q340
          obtain ⟨x7_2, rfl, HA, HK2, HO_5, HO_6, HB⟩ := hrel
          cases gk with
          | zero => exact absurd HA.out (by simp [quarryref10_Close.l0])
          | succ k2 =>
            have H := HA.out
            clear HA
            simp only [quarryref10_Close.l0] at H
            by_cases c20 : x7_2 < (a0.size : Int)
            · rw [if_pos c20] at H
              have c20b0 : decide (x7_2 < (a0.size : Int)) = true := decide_eq_true c20
              clear c20
              by_cases c21 : 0 ≤ x7_2
              · rw [if_pos c21] at H
                have c21b0 : decide (0 ≤ x7_2) = true := decide_eq_true c21
                clear c21
                by_cases c22 : x7_2 < (t334.length : Int)
                · rw [if_pos c22] at H
                  have c22b0 : decide (x7_2 < (t334.length : Int)) = true := decide_eq_true c22
                  clear c22
                  obtain ⟨bq23, hbq23⟩ : ∃ b_ : Bool, b_ = (rdOf false t334 x7_2) := ⟨_, rfl⟩
                  replace H : (if bq23 = true then ((quarryref10_Closes.f (bt a0 x7_2)).bind fun t343 => (if t343 = true then (if x7_2 < (t337.length : Int) then (if 0 ≤ a1 then (if a1 < (t337.length : Int) then (if (rd t337 x7_2) = (wrap64 ((rd t337 a1) + 1)) then (some x7_2) else (quarryref10_Close.l0 k2 a0 a1 t334 t337 (wrap64 (x7_2 + 1)))) else (none)) else (none)) else (none)) else (quarryref10_Close.l0 k2 a0 a1 t334 t337 (wrap64 (x7_2 + 1))))) else (quarryref10_Close.l0 k2 a0 a1 t334 t337 (wrap64 (x7_2 + 1)))) = some r := by rw [← hbq23] at H; exact H
                  have Nbq23 := Aside0.mk hbq23
                  clear hbq23
                  by_cases c24 : bq23 = true
                  · subst c24
                    have H1 : ((quarryref10_Closes.f (bt a0 x7_2)).bind fun t343 => (if t343 = true then (if x7_2 < (t337.length : Int) then (if 0 ≤ a1 then (if a1 < (t337.length : Int) then (if (rd t337 x7_2) = (wrap64 ((rd t337 a1) + 1)) then (some x7_2) else (quarryref10_Close.l0 k2 a0 a1 t334 t337 (wrap64 (x7_2 + 1)))) else (none)) else (none)) else (none)) else (quarryref10_Close.l0 k2 a0 a1 t334 t337 (wrap64 (x7_2 + 1))))) = some r := by rw [if_pos rfl] at H; exact H
                    clear H
                    have H := H1
                    clear H1
                    replace H := Option.bind_eq_some_iff.mp H
                    obtain ⟨t343, A260, H⟩ := H
                    replace H : (if t343 = true then (if x7_2 < (t337.length : Int) then (if 0 ≤ a1 then (if a1 < (t337.length : Int) then (if (rd t337 x7_2) = (wrap64 ((rd t337 a1) + 1)) then (some x7_2) else (quarryref10_Close.l0 k2 a0 a1 t334 t337 (wrap64 (x7_2 + 1)))) else (none)) else (none)) else (none)) else (quarryref10_Close.l0 k2 a0 a1 t334 t337 (wrap64 (x7_2 + 1)))) = some r := H
                    have A26 := Aside0.mk A260
                    clear A260
                    by_cases c27 : t343 = true
                    · subst c27
                      have H1 : (if x7_2 < (t337.length : Int) then (if 0 ≤ a1 then (if a1 < (t337.length : Int) then (if (rd t337 x7_2) = (wrap64 ((rd t337 a1) + 1)) then (some x7_2) else (quarryref10_Close.l0 k2 a0 a1 t334 t337 (wrap64 (x7_2 + 1)))) else (none)) else (none)) else (none)) = some r := by rw [if_pos rfl] at H; exact H
                      clear H
                      have H := H1
                      clear H1
                      by_cases c28 : x7_2 < (t337.length : Int)
                      · rw [if_pos c28] at H
                        have c28b0 : decide (x7_2 < (t337.length : Int)) = true := decide_eq_true c28
                        clear c28
                        by_cases c29 : 0 ≤ a1
                        · rw [if_pos c29] at H
                          have c29b0 : decide (0 ≤ a1) = true := decide_eq_true c29
                          clear c29
                          by_cases c30 : a1 < (t337.length : Int)
                          · rw [if_pos c30] at H
                            have c30b0 : decide (a1 < (t337.length : Int)) = true := decide_eq_true c30
                            clear c30
                            by_cases c31 : (rd t337 x7_2) = (wrap64 ((rd t337 a1) + 1))
                            · rw [if_pos c31] at H
                              have c31b0 : ((rd t337 x7_2) == (wrap64 ((rd t337 a1) + 1))) = true := beq_iff_eq.mpr c31
                              have c31z0 : ((rd t337 x7_2) == (IntKind.i64.wrap ((rd t337 a1) + 1))) = true := by rw [i64_w]; exact c31b0
                              have c31b1 : ((rd t337 x7_2) != (wrap64 ((rd t337 a1) + 1))) = false := bne_eq_false_iff_eq.mpr c31
                              have c31z1 : ((rd t337 x7_2) != (IntKind.i64.wrap ((rd t337 a1) + 1))) = false := by rw [i64_w]; exact c31b1
                              clear c31
                              obtain rfl := Option.some.inj H
                              obtain ⟨Ao32, co32, eo32⟩ := Kd.R_slice HO_5.out
                              subst eo32
                              have p342 : 0 ≤ (x7_2 : Int) := of_decide_eq_true (by first | (with_reducible assumption) | assumption)
                              have q342 : x7_2 < (t334.length : Int) := of_decide_eq_true (by first | (with_reducible assumption) | assumption)
                              obtain ⟨ad342, e342, hx342_0⟩ := Kd.at_bool (Kd.R_reads' HO_5.out).2.2 x7_2 p342 q342
                              (try rw [← Nbq23.out] at hx342_0)
                              cases e342
                              replace p342 := eq_true p342
                              replace q342 := eq_true q342
                              have p25 : 0 ≤ (x7_2 : Int) := of_decide_eq_true (by first | (with_reducible assumption) | assumption)
                              have q25 : x7_2 < (a0.size : Int) := of_decide_eq_true (by first | (with_reducible assumption) | assumption)
                              have hx25 := bt_at a0 x7_2
                              replace p25 := eq_true p25
                              replace q25 := eq_true q25
                              go_wp2_with (first | (go_at_call 77; (with_reducible refine (quarryref10_Closes.calls (bt a0 x7_2) true _ A26.out).mono ?_); rintro e w' ⟨rfl, ⟨nd, rfl⟩⟩; (try first | exact ⟨rfl, _, World.drewN_drewN _ _ _⟩ | exact ⟨rfl, _, Eq.trans (World.drewN_drewN _ _ _) (congrArg (World.drewN _) (Nat.add_assoc _ _ _))⟩); obtain ⟨Ao33, co33, eo33⟩ := Kd.R_slice HO_6.out; subst eo33; have p344 : 0 ≤ (x7_2 : Int) := of_decide_eq_true (by first | (with_reducible assumption) | assumption); have q344 : x7_2 < (t337.length : Int) := of_decide_eq_true (by first | (with_reducible assumption) | assumption); obtain ⟨ad344, e344, hx344_0⟩ := Kd.at_int (Kd.R_reads' HO_6.out).2.2 x7_2 p344 q344; cases e344; replace p344 := eq_true p344; replace q344 := eq_true q344; have p345 : 0 ≤ (a1 : Int) := of_decide_eq_true (by first | (with_reducible assumption) | assumption); have q345 : a1 < (t337.length : Int) := of_decide_eq_true (by first | (with_reducible assumption) | assumption); obtain ⟨ad345, e345, hx345_0⟩ := Kd.at_int (Kd.R_reads' HO_6.out).2.2 a1 p345 q345; obtain rfl : ad344 = ad345 := (by injection e345); replace p345 := eq_true p345; replace q345 := eq_true q345))
                              repeat (go_quiet (first | (go_at_call 77; (with_reducible refine (quarryref10_Closes.calls (bt a0 x7_2) true _ A26.out).mono ?_); rintro e w' ⟨rfl, ⟨nd, rfl⟩⟩; (try first | exact ⟨rfl, _, World.drewN_drewN _ _ _⟩ | exact ⟨rfl, _, Eq.trans (World.drewN_drewN _ _ _) (congrArg (World.drewN _) (Nat.add_assoc _ _ _))⟩); obtain ⟨Ao33, co33, eo33⟩ := Kd.R_slice HO_6.out; subst eo33; have p344 : 0 ≤ (x7_2 : Int) := of_decide_eq_true (by first | (with_reducible assumption) | assumption); have q344 : x7_2 < (t337.length : Int) := of_decide_eq_true (by first | (with_reducible assumption) | assumption); obtain ⟨ad344, e344, hx344_0⟩ := Kd.at_int (Kd.R_reads' HO_6.out).2.2 x7_2 p344 q344; cases e344; replace p344 := eq_true p344; replace q344 := eq_true q344; have p345 : 0 ≤ (a1 : Int) := of_decide_eq_true (by first | (with_reducible assumption) | assumption); have q345 : a1 < (t337.length : Int) := of_decide_eq_true (by first | (with_reducible assumption) | assumption); obtain ⟨ad345, e345, hx345_0⟩ := Kd.at_int (Kd.R_reads' HO_6.out).2.2 a1 p345 q345; obtain rfl : ad344 = ad345 := (by injection e345); replace p345 := eq_true p345; replace q345 := eq_true q345)); try go_wp2_with (first | (go_at_call 77; (with_reducible refine (quarryref10_Closes.calls (bt a0 x7_2) true _ A26.out).mono ?_); rintro e w' ⟨rfl, ⟨nd, rfl⟩⟩; (try first | exact ⟨rfl, _, World.drewN_drewN _ _ _⟩ | exact ⟨rfl, _, Eq.trans (World.drewN_drewN _ _ _) (congrArg (World.drewN _) (Nat.add_assoc _ _ _))⟩); obtain ⟨Ao33, co33, eo33⟩ := Kd.R_slice HO_6.out; subst eo33; have p344 : 0 ≤ (x7_2 : Int) := of_decide_eq_true (by first | (with_reducible assumption) | assumption); have q344 : x7_2 < (t337.length : Int) := of_decide_eq_true (by first | (with_reducible assumption) | assumption); obtain ⟨ad344, e344, hx344_0⟩ := Kd.at_int (Kd.R_reads' HO_6.out).2.2 x7_2 p344 q344; cases e344; replace p344 := eq_true p344; replace q344 := eq_true q344; have p345 : 0 ≤ (a1 : Int) := of_decide_eq_true (by first | (with_reducible assumption) | assumption); have q345 : a1 < (t337.length : Int) := of_decide_eq_true (by first | (with_reducible assumption) | assumption); obtain ⟨ad345, e345, hx345_0⟩ := Kd.at_int (Kd.R_reads' HO_6.out).2.2 a1 p345 q345; obtain rfl : ad344 = ad345 := (by injection e345); replace p345 := eq_true p345; replace q345 := eq_true q345)))
                              go_ret
                              exact ⟨by first | rfl | (simp [errW_none, errW_some] <;> rfl) | (simp [*, errW_none, errW_some] <;> rfl), by repeat (first | (with_reducible first | exact HB.out | apply below_alloc | apply pw_below_drewN | apply below_drew1) | exact HB.out)⟩
                            · rw [if_neg c31] at H
                              have c31b0 : ((rd t337 x7_2) == (wrap64 ((rd t337 a1) + 1))) = false := beq_eq_false_iff_ne.mpr c31
                              have c31z0 : ((rd t337 x7_2) == (IntKind.i64.wrap ((rd t337 a1) + 1))) = false := by rw [i64_w]; exact c31b0
                              have c31b1 : ((rd t337 x7_2) != (wrap64 ((rd t337 a1) + 1))) = true := bne_iff_ne.mpr c31
                              have c31z1 : ((rd t337 x7_2) != (IntKind.i64.wrap ((rd t337 a1) + 1))) = true := by rw [i64_w]; exact c31b1
                              have H' := Aside0.mk H
                              clear H
                              obtain ⟨Ao34, co34, eo34⟩ := Kd.R_slice HO_5.out
                              subst eo34
                              have p342 : 0 ≤ (x7_2 : Int) := of_decide_eq_true (by first | (with_reducible assumption) | assumption)
                              have q342 : x7_2 < (t334.length : Int) := of_decide_eq_true (by first | (with_reducible assumption) | assumption)
                              obtain ⟨ad342, e342, hx342_0⟩ := Kd.at_bool (Kd.R_reads' HO_5.out).2.2 x7_2 p342 q342
                              (try rw [← Nbq23.out] at hx342_0)
                              cases e342
                              replace p342 := eq_true p342
                              replace q342 := eq_true q342
                              have p25 : 0 ≤ (x7_2 : Int) := of_decide_eq_true (by first | (with_reducible assumption) | assumption)
                              have q25 : x7_2 < (a0.size : Int) := of_decide_eq_true (by first | (with_reducible assumption) | assumption)
                              have hx25 := bt_at a0 x7_2
                              replace p25 := eq_true p25
                              replace q25 := eq_true q25
                              go_wp2_with (first | (go_at_call 77; (with_reducible refine (quarryref10_Closes.calls (bt a0 x7_2) true _ A26.out).mono ?_); rintro e w' ⟨rfl, ⟨nd, rfl⟩⟩; (try first | exact ⟨rfl, _, World.drewN_drewN _ _ _⟩ | exact ⟨rfl, _, Eq.trans (World.drewN_drewN _ _ _) (congrArg (World.drewN _) (Nat.add_assoc _ _ _))⟩); obtain ⟨Ao35, co35, eo35⟩ := Kd.R_slice HO_6.out; subst eo35; have p344 : 0 ≤ (x7_2 : Int) := of_decide_eq_true (by first | (with_reducible assumption) | assumption); have q344 : x7_2 < (t337.length : Int) := of_decide_eq_true (by first | (with_reducible assumption) | assumption); obtain ⟨ad344, e344, hx344_0⟩ := Kd.at_int (Kd.R_reads' HO_6.out).2.2 x7_2 p344 q344; cases e344; replace p344 := eq_true p344; replace q344 := eq_true q344; have p345 : 0 ≤ (a1 : Int) := of_decide_eq_true (by first | (with_reducible assumption) | assumption); have q345 : a1 < (t337.length : Int) := of_decide_eq_true (by first | (with_reducible assumption) | assumption); obtain ⟨ad345, e345, hx345_0⟩ := Kd.at_int (Kd.R_reads' HO_6.out).2.2 a1 p345 q345; obtain rfl : ad344 = ad345 := (by injection e345); replace p345 := eq_true p345; replace q345 := eq_true q345))
                              repeat (go_quiet (first | (go_at_call 77; (with_reducible refine (quarryref10_Closes.calls (bt a0 x7_2) true _ A26.out).mono ?_); rintro e w' ⟨rfl, ⟨nd, rfl⟩⟩; (try first | exact ⟨rfl, _, World.drewN_drewN _ _ _⟩ | exact ⟨rfl, _, Eq.trans (World.drewN_drewN _ _ _) (congrArg (World.drewN _) (Nat.add_assoc _ _ _))⟩); obtain ⟨Ao35, co35, eo35⟩ := Kd.R_slice HO_6.out; subst eo35; have p344 : 0 ≤ (x7_2 : Int) := of_decide_eq_true (by first | (with_reducible assumption) | assumption); have q344 : x7_2 < (t337.length : Int) := of_decide_eq_true (by first | (with_reducible assumption) | assumption); obtain ⟨ad344, e344, hx344_0⟩ := Kd.at_int (Kd.R_reads' HO_6.out).2.2 x7_2 p344 q344; cases e344; replace p344 := eq_true p344; replace q344 := eq_true q344; have p345 : 0 ≤ (a1 : Int) := of_decide_eq_true (by first | (with_reducible assumption) | assumption); have q345 : a1 < (t337.length : Int) := of_decide_eq_true (by first | (with_reducible assumption) | assumption); obtain ⟨ad345, e345, hx345_0⟩ := Kd.at_int (Kd.R_reads' HO_6.out).2.2 a1 p345 q345; obtain rfl : ad344 = ad345 := (by injection e345); replace p345 := eq_true p345; replace q345 := eq_true q345)); try go_wp2_with (first | (go_at_call 77; (with_reducible refine (quarryref10_Closes.calls (bt a0 x7_2) true _ A26.out).mono ?_); rintro e w' ⟨rfl, ⟨nd, rfl⟩⟩; (try first | exact ⟨rfl, _, World.drewN_drewN _ _ _⟩ | exact ⟨rfl, _, Eq.trans (World.drewN_drewN _ _ _) (congrArg (World.drewN _) (Nat.add_assoc _ _ _))⟩); obtain ⟨Ao35, co35, eo35⟩ := Kd.R_slice HO_6.out; subst eo35; have p344 : 0 ≤ (x7_2 : Int) := of_decide_eq_true (by first | (with_reducible assumption) | assumption); have q344 : x7_2 < (t337.length : Int) := of_decide_eq_true (by first | (with_reducible assumption) | assumption); obtain ⟨ad344, e344, hx344_0⟩ := Kd.at_int (Kd.R_reads' HO_6.out).2.2 x7_2 p344 q344; cases e344; replace p344 := eq_true p344; replace q344 := eq_true q344; have p345 : 0 ≤ (a1 : Int) := of_decide_eq_true (by first | (with_reducible assumption) | assumption); have q345 : a1 < (t337.length : Int) := of_decide_eq_true (by first | (with_reducible assumption) | assumption); obtain ⟨ad345, e345, hx345_0⟩ := Kd.at_int (Kd.R_reads' HO_6.out).2.2 a1 p345 q345; obtain rfl : ad344 = ad345 := (by injection e345); replace p345 := eq_true p345; replace q345 := eq_true q345)))
                              go_roundg k2
                              case measure => have := HJ4.out; have := HK2.out; omega
                              case rel => exact ⟨(wrap64 (x7_2 + 1)), (by first | rfl | (simp; done) | (simp [*]; done)), H', ⟨by have := HJ4.out; have := HK2.out; omega⟩, ⟨by (with_reducible repeat (first | apply Kd.R_alloc | apply Kd.R_drewN | apply Kd.R_drew)); exact HO_5.out⟩, ⟨by (with_reducible repeat (first | apply Kd.R_alloc | apply Kd.R_drewN | apply Kd.R_drew)); exact HO_6.out⟩, ⟨by repeat (first | (with_reducible first | exact HB.out | apply below_alloc | apply pw_below_drewN | apply below_drew1) | exact HB.out)⟩⟩
                          · rw [if_neg c30] at H
                            exact absurd H (by simp)
                        · rw [if_neg c29] at H
                          exact absurd H (by simp)
                      · rw [if_neg c28] at H
                        exact absurd H (by simp)
                    · replace c27 := Bool.eq_false_iff.mpr c27
                      subst c27
                      have H1 : (quarryref10_Close.l0 k2 a0 a1 t334 t337 (wrap64 (x7_2 + 1))) = some r := by rw [if_neg (show ¬ (false = true) by decide)] at H; exact H
                      clear H
                      have H := H1
                      clear H1
                      have H' := Aside0.mk H
                      clear H
                      obtain ⟨Ao36, co36, eo36⟩ := Kd.R_slice HO_5.out
                      subst eo36
                      have p342 : 0 ≤ (x7_2 : Int) := of_decide_eq_true (by first | (with_reducible assumption) | assumption)
                      have q342 : x7_2 < (t334.length : Int) := of_decide_eq_true (by first | (with_reducible assumption) | assumption)
                      obtain ⟨ad342, e342, hx342_0⟩ := Kd.at_bool (Kd.R_reads' HO_5.out).2.2 x7_2 p342 q342
                      (try rw [← Nbq23.out] at hx342_0)
                      cases e342
                      replace p342 := eq_true p342
                      replace q342 := eq_true q342
                      have p25 : 0 ≤ (x7_2 : Int) := of_decide_eq_true (by first | (with_reducible assumption) | assumption)
                      have q25 : x7_2 < (a0.size : Int) := of_decide_eq_true (by first | (with_reducible assumption) | assumption)
                      have hx25 := bt_at a0 x7_2
                      replace p25 := eq_true p25
                      replace q25 := eq_true q25
                      go_wp2_with (first | (go_at_call 77; (with_reducible refine (quarryref10_Closes.calls (bt a0 x7_2) false _ A26.out).mono ?_); rintro e w' ⟨rfl, ⟨nd, rfl⟩⟩; (try first | exact ⟨rfl, _, World.drewN_drewN _ _ _⟩ | exact ⟨rfl, _, Eq.trans (World.drewN_drewN _ _ _) (congrArg (World.drewN _) (Nat.add_assoc _ _ _))⟩)))
                      repeat (go_quiet (first | (go_at_call 77; (with_reducible refine (quarryref10_Closes.calls (bt a0 x7_2) false _ A26.out).mono ?_); rintro e w' ⟨rfl, ⟨nd, rfl⟩⟩; (try first | exact ⟨rfl, _, World.drewN_drewN _ _ _⟩ | exact ⟨rfl, _, Eq.trans (World.drewN_drewN _ _ _) (congrArg (World.drewN _) (Nat.add_assoc _ _ _))⟩))); try go_wp2_with (first | (go_at_call 77; (with_reducible refine (quarryref10_Closes.calls (bt a0 x7_2) false _ A26.out).mono ?_); rintro e w' ⟨rfl, ⟨nd, rfl⟩⟩; (try first | exact ⟨rfl, _, World.drewN_drewN _ _ _⟩ | exact ⟨rfl, _, Eq.trans (World.drewN_drewN _ _ _) (congrArg (World.drewN _) (Nat.add_assoc _ _ _))⟩))))
                      go_roundg k2
                      case measure => have := HJ4.out; have := HK2.out; omega
                      case rel => exact ⟨(wrap64 (x7_2 + 1)), (by first | rfl | (simp; done) | (simp [*]; done)), H', ⟨by have := HJ4.out; have := HK2.out; omega⟩, ⟨by (with_reducible repeat (first | apply Kd.R_alloc | apply Kd.R_drewN | apply Kd.R_drew)); exact HO_5.out⟩, ⟨by (with_reducible repeat (first | apply Kd.R_alloc | apply Kd.R_drewN | apply Kd.R_drew)); exact HO_6.out⟩, ⟨by repeat (first | (with_reducible first | exact HB.out | apply below_alloc | apply pw_below_drewN | apply below_drew1) | exact HB.out)⟩⟩
                  · replace c24 := Bool.eq_false_iff.mpr c24
                    subst c24
                    have H1 : (quarryref10_Close.l0 k2 a0 a1 t334 t337 (wrap64 (x7_2 + 1))) = some r := by rw [if_neg (show ¬ (false = true) by decide)] at H; exact H
                    clear H
                    have H := H1
                    clear H1
                    have H' := Aside0.mk H
                    clear H
                    obtain ⟨Ao37, co37, eo37⟩ := Kd.R_slice HO_5.out
                    subst eo37
                    have p342 : 0 ≤ (x7_2 : Int) := of_decide_eq_true (by first | (with_reducible assumption) | assumption)
                    have q342 : x7_2 < (t334.length : Int) := of_decide_eq_true (by first | (with_reducible assumption) | assumption)
                    obtain ⟨ad342, e342, hx342_0⟩ := Kd.at_bool (Kd.R_reads' HO_5.out).2.2 x7_2 p342 q342
                    (try rw [← Nbq23.out] at hx342_0)
                    cases e342
                    replace p342 := eq_true p342
                    replace q342 := eq_true q342
                    go_wp2
                    repeat (go_quiet (fail); try go_wp2)
                    go_roundg k2
                    case measure => have := HJ4.out; have := HK2.out; omega
                    case rel => exact ⟨(wrap64 (x7_2 + 1)), (by first | rfl | (simp; done) | (simp [*]; done)), H', ⟨by have := HJ4.out; have := HK2.out; omega⟩, ⟨by (with_reducible repeat (first | apply Kd.R_alloc | apply Kd.R_drewN | apply Kd.R_drew)); exact HO_5.out⟩, ⟨by (with_reducible repeat (first | apply Kd.R_alloc | apply Kd.R_drewN | apply Kd.R_drew)); exact HO_6.out⟩, ⟨by repeat (first | (with_reducible first | exact HB.out | apply below_alloc | apply pw_below_drewN | apply below_drew1) | exact HB.out)⟩⟩
                · rw [if_neg c22] at H
                  exact absurd H (by simp)
              · rw [if_neg c21] at H
                exact absurd H (by simp)
            · rw [if_neg c20] at H
              have c20b0 : decide (x7_2 < (a0.size : Int)) = false := decide_eq_false c20
              clear c20
              obtain rfl := Option.some.inj H
              go_wp2
              repeat (go_quiet (fail); try go_wp2)
              go_ret
              exact ⟨by first | rfl | (simp [errW_none, errW_some] <;> rfl) | (simp [*, errW_none, errW_some] <;> rfl), by repeat (first | (with_reducible first | exact HB.out | apply below_alloc | apply pw_below_drewN | apply below_drew1) | exact HB.out)⟩

def quarrylaw10_LevelsDepth.f (k : Nat) (a0 : ByteArray) (a1 : Int) : Option (Bool) := (levels_Depth.f a0 a1).bind fun t346 => ((quarryref10_Depth.f k a0 a1).bind fun t347 => (if t346 = t347 then ((levels_Close.f k a0 a1).bind fun t348 => ((quarryref10_Close.f k a0 a1).bind fun t349 => (if t348 = t349 then ((quarrylaw10_awake.f k).bind fun t350 => (some t350)) else (some false)))) else (some false)))
theorem quarrylaw10_LevelsDepth.mono : ∀ a0 a1 k, LeO (quarrylaw10_LevelsDepth.f k a0 a1) (quarrylaw10_LevelsDepth.f (k + 1) a0 a1) := by
  intro a0 a1 k
  unfold quarrylaw10_LevelsDepth.f
  repeat' first
      | (with_reducible exact levels_Close.mono _ _ _)
      | (with_reducible exact quarrylaw10_awake.mono _)
      | (with_reducible exact quarryref10_Close.mono _ _ _)
      | (with_reducible exact quarryref10_Depth.mono _ _ _)
      | (with_reducible exact LeO.refl _)
      | (with_reducible exact LeO.none _)
      | (with_reducible refine LeO.ite ?_ ?_)
      | (with_reducible refine LeO.bind ?_ (fun _ => ?_))
      | exact levels_Close.mono _ _ _
      | exact quarrylaw10_awake.mono _
      | exact quarryref10_Close.mono _ _ _
      | exact quarryref10_Depth.mono _ _ _
      | exact LeO.none _
      | refine LeO.ite ?_ ?_
      | refine LeO.bind ?_ (fun _ => ?_)
set_option maxHeartbeats 8000000 in
set_option maxRecDepth 100000 in
theorem quarrylaw10_LevelsDepth.calls (k : Nat) (a0 : ByteArray) (a1 : Int) (r : Bool) (w : World) (hT : TabOk w) (h : quarrylaw10_LevelsDepth.f k a0 a1 = some r) :
    Calls Tryd.prog 8 #[.string a0, .int .i64 a1] w fun e w' => e = .returned (.bool r) ∧ Below w.heap.size w w' := by
  have TK_ := Aside0.mk hT
  clear hT
  have HB := Aside0.mk (Below.refl w.heap.size w)
  have H : ((levels_Depth.f a0 a1).bind fun t346 => ((quarryref10_Depth.f k a0 a1).bind fun t347 => (if t346 = t347 then ((levels_Close.f k a0 a1).bind fun t348 => ((quarryref10_Close.f k a0 a1).bind fun t349 => (if t348 = t349 then ((quarrylaw10_awake.f k).bind fun t350 => (some t350)) else (some false)))) else (some false)))) = some r := h
  clear h
  replace H := Option.bind_eq_some_iff.mp H
  obtain ⟨t346, A30, H⟩ := H
  replace H : ((quarryref10_Depth.f k a0 a1).bind fun t347 => (if t346 = t347 then ((levels_Close.f k a0 a1).bind fun t348 => ((quarryref10_Close.f k a0 a1).bind fun t349 => (if t348 = t349 then ((quarrylaw10_awake.f k).bind fun t350 => (some t350)) else (some false)))) else (some false))) = some r := H
  have A3 := Aside0.mk A30
  clear A30
  replace H := Option.bind_eq_some_iff.mp H
  obtain ⟨t347, A40, H⟩ := H
  replace H : (if t346 = t347 then ((levels_Close.f k a0 a1).bind fun t348 => ((quarryref10_Close.f k a0 a1).bind fun t349 => (if t348 = t349 then ((quarrylaw10_awake.f k).bind fun t350 => (some t350)) else (some false)))) else (some false)) = some r := H
  have A4 := Aside0.mk A40
  clear A40
  by_cases c5 : t346 = t347
  · rw [if_pos c5] at H
    have c5b0 : (t346 == t347) = true := beq_iff_eq.mpr c5
    have c5b1 : (t346 != t347) = false := bne_eq_false_iff_eq.mpr c5
    clear c5
    replace H := Option.bind_eq_some_iff.mp H
    obtain ⟨t348, A60, H⟩ := H
    replace H : ((quarryref10_Close.f k a0 a1).bind fun t349 => (if t348 = t349 then ((quarrylaw10_awake.f k).bind fun t350 => (some t350)) else (some false))) = some r := H
    have A6 := Aside0.mk A60
    clear A60
    replace H := Option.bind_eq_some_iff.mp H
    obtain ⟨t349, A70, H⟩ := H
    replace H : (if t348 = t349 then ((quarrylaw10_awake.f k).bind fun t350 => (some t350)) else (some false)) = some r := H
    have A7 := Aside0.mk A70
    clear A70
    by_cases c8 : t348 = t349
    · rw [if_pos c8] at H
      have c8b0 : (t348 == t349) = true := beq_iff_eq.mpr c8
      have c8b1 : (t348 != t349) = false := bne_eq_false_iff_eq.mpr c8
      clear c8
      replace H := Option.bind_eq_some_iff.mp H
      obtain ⟨t350, A90, H⟩ := H
      replace H : (some t350) = some r := H
      have A9 := Aside0.mk A90
      clear A90
      obtain rfl := Option.some.inj H
      go_enter Tryd.func8, Tryd.ntmps8
      go_wp2_with (first | ((with_reducible refine gate_callee (f := 37) rfl ?_); refine goesL_ (some 7) rfl rfl Tryd.func37 (by kernel_rfl) rfl #[.string a0, .int .i64 a1] rfl (by (try simp only [List.map_toArray, List.map_cons, List.map_nil]); first | done | rfl | (simp only [List.length_drop, List.length_take]; rfl)) ?_; (with_reducible refine (levels_Depth.calls a0 a1 t346 _ ?tabk A3.out).mono ?_); (case tabk => exact TK_.out.step (by repeat (first | (with_reducible first | exact HB.out | apply below_alloc | apply pw_below_drewN | apply below_drew1) | exact HB.out))); rintro e w10 ⟨rfl, hb⟩; refine ⟨_, rfl, ?_⟩; have n0_ := Aside0.mk (below_step (by repeat (first | (with_reducible first | exact HB.out | apply below_alloc | apply pw_below_drewN | apply below_drew1) | exact HB.out)) hb); clear HB; have HB := n0_; clear n0_; (try clear hb); (try clear hb2); (try clear hk); (try clear hi)) | ((with_reducible refine gate_callee (f := 38) rfl ?_); refine goesL_ (some 10) rfl rfl Tryd.func38 (by kernel_rfl) rfl #[.string a0, .int .i64 a1] rfl (by (try simp only [List.map_toArray, List.map_cons, List.map_nil]); first | done | rfl | (simp only [List.length_drop, List.length_take]; rfl)) ?_; (with_reducible refine (quarryref10_Depth.calls k a0 a1 t347 _ A4.out).mono ?_); rintro e w11 ⟨rfl, hb⟩; refine ⟨_, rfl, ?_⟩; have n0_ := Aside0.mk (below_step (by repeat (first | (with_reducible first | exact HB.out | apply below_alloc | apply pw_below_drewN | apply below_drew1) | exact HB.out)) hb); clear HB; have HB := n0_; clear n0_; (try clear hb); (try clear hb2); (try clear hk); (try clear hi)) | (go_at_call 39; (with_reducible refine (levels_Close.calls k a0 a1 t348 _ ?tabk A6.out).mono ?_); (case tabk => exact TK_.out.step (by repeat (first | (with_reducible first | exact HB.out | apply below_alloc | apply pw_below_drewN | apply below_drew1) | exact HB.out))); rintro e w12 ⟨rfl, hb⟩; have n0_ := Aside0.mk (below_step (by repeat (first | (with_reducible first | exact HB.out | apply below_alloc | apply pw_below_drewN | apply below_drew1) | exact HB.out)) hb); clear HB; have HB := n0_; clear n0_; (try clear hb); (try clear hb2); (try clear hk); (try clear hi)) | (go_at_call 40; (with_reducible refine (quarryref10_Close.calls k a0 a1 t349 _ A7.out).mono ?_); rintro e w13 ⟨rfl, hb⟩; have n0_ := Aside0.mk (below_step (by repeat (first | (with_reducible first | exact HB.out | apply below_alloc | apply pw_below_drewN | apply below_drew1) | exact HB.out)) hb); clear HB; have HB := n0_; clear n0_; (try clear hb); (try clear hb2); (try clear hk); (try clear hi)) | (go_at_call 29; (with_reducible refine (quarrylaw10_awake.calls k  t350 _ ?tabk A9.out).mono ?_); (case tabk => exact TK_.out.step (by repeat (first | (with_reducible first | exact HB.out | apply below_alloc | apply pw_below_drewN | apply below_drew1) | exact HB.out))); rintro e w14 ⟨rfl, hb⟩; have n0_ := Aside0.mk (below_step (by repeat (first | (with_reducible first | exact HB.out | apply below_alloc | apply pw_below_drewN | apply below_drew1) | exact HB.out)) hb); clear HB; have HB := n0_; clear n0_; (try clear hb); (try clear hb2); (try clear hk); (try clear hi)))
      go_ret
      exact ⟨by first | rfl | (simp [errW_none, errW_some] <;> rfl) | (simp [*, errW_none, errW_some] <;> rfl), by repeat (first | (with_reducible first | exact HB.out | apply below_alloc | apply pw_below_drewN | apply below_drew1) | exact HB.out)⟩
    · rw [if_neg c8] at H
      have c8b0 : (t348 == t349) = false := beq_eq_false_iff_ne.mpr c8
      have c8b1 : (t348 != t349) = true := bne_iff_ne.mpr c8
      obtain rfl := Option.some.inj H
      go_enter Tryd.func8, Tryd.ntmps8
      go_wp2_with (first | ((with_reducible refine gate_callee (f := 37) rfl ?_); refine goesL_ (some 7) rfl rfl Tryd.func37 (by kernel_rfl) rfl #[.string a0, .int .i64 a1] rfl (by (try simp only [List.map_toArray, List.map_cons, List.map_nil]); first | done | rfl | (simp only [List.length_drop, List.length_take]; rfl)) ?_; (with_reducible refine (levels_Depth.calls a0 a1 t346 _ ?tabk A3.out).mono ?_); (case tabk => exact TK_.out.step (by repeat (first | (with_reducible first | exact HB.out | apply below_alloc | apply pw_below_drewN | apply below_drew1) | exact HB.out))); rintro e w15 ⟨rfl, hb⟩; refine ⟨_, rfl, ?_⟩; have n0_ := Aside0.mk (below_step (by repeat (first | (with_reducible first | exact HB.out | apply below_alloc | apply pw_below_drewN | apply below_drew1) | exact HB.out)) hb); clear HB; have HB := n0_; clear n0_; (try clear hb); (try clear hb2); (try clear hk); (try clear hi)) | ((with_reducible refine gate_callee (f := 38) rfl ?_); refine goesL_ (some 10) rfl rfl Tryd.func38 (by kernel_rfl) rfl #[.string a0, .int .i64 a1] rfl (by (try simp only [List.map_toArray, List.map_cons, List.map_nil]); first | done | rfl | (simp only [List.length_drop, List.length_take]; rfl)) ?_; (with_reducible refine (quarryref10_Depth.calls k a0 a1 t347 _ A4.out).mono ?_); rintro e w16 ⟨rfl, hb⟩; refine ⟨_, rfl, ?_⟩; have n0_ := Aside0.mk (below_step (by repeat (first | (with_reducible first | exact HB.out | apply below_alloc | apply pw_below_drewN | apply below_drew1) | exact HB.out)) hb); clear HB; have HB := n0_; clear n0_; (try clear hb); (try clear hb2); (try clear hk); (try clear hi)) | (go_at_call 39; (with_reducible refine (levels_Close.calls k a0 a1 t348 _ ?tabk A6.out).mono ?_); (case tabk => exact TK_.out.step (by repeat (first | (with_reducible first | exact HB.out | apply below_alloc | apply pw_below_drewN | apply below_drew1) | exact HB.out))); rintro e w17 ⟨rfl, hb⟩; have n0_ := Aside0.mk (below_step (by repeat (first | (with_reducible first | exact HB.out | apply below_alloc | apply pw_below_drewN | apply below_drew1) | exact HB.out)) hb); clear HB; have HB := n0_; clear n0_; (try clear hb); (try clear hb2); (try clear hk); (try clear hi)) | (go_at_call 40; (with_reducible refine (quarryref10_Close.calls k a0 a1 t349 _ A7.out).mono ?_); rintro e w18 ⟨rfl, hb⟩; have n0_ := Aside0.mk (below_step (by repeat (first | (with_reducible first | exact HB.out | apply below_alloc | apply pw_below_drewN | apply below_drew1) | exact HB.out)) hb); clear HB; have HB := n0_; clear n0_; (try clear hb); (try clear hb2); (try clear hk); (try clear hi)))
      go_ret
      exact ⟨by first | rfl | (simp [errW_none, errW_some] <;> rfl) | (simp [*, errW_none, errW_some] <;> rfl), by repeat (first | (with_reducible first | exact HB.out | apply below_alloc | apply pw_below_drewN | apply below_drew1) | exact HB.out)⟩
  · rw [if_neg c5] at H
    have c5b0 : (t346 == t347) = false := beq_eq_false_iff_ne.mpr c5
    have c5b1 : (t346 != t347) = true := bne_iff_ne.mpr c5
    obtain rfl := Option.some.inj H
    go_enter Tryd.func8, Tryd.ntmps8
    go_wp2_with (first | ((with_reducible refine gate_callee (f := 37) rfl ?_); refine goesL_ (some 7) rfl rfl Tryd.func37 (by kernel_rfl) rfl #[.string a0, .int .i64 a1] rfl (by (try simp only [List.map_toArray, List.map_cons, List.map_nil]); first | done | rfl | (simp only [List.length_drop, List.length_take]; rfl)) ?_; (with_reducible refine (levels_Depth.calls a0 a1 t346 _ ?tabk A3.out).mono ?_); (case tabk => exact TK_.out.step (by repeat (first | (with_reducible first | exact HB.out | apply below_alloc | apply pw_below_drewN | apply below_drew1) | exact HB.out))); rintro e w19 ⟨rfl, hb⟩; refine ⟨_, rfl, ?_⟩; have n0_ := Aside0.mk (below_step (by repeat (first | (with_reducible first | exact HB.out | apply below_alloc | apply pw_below_drewN | apply below_drew1) | exact HB.out)) hb); clear HB; have HB := n0_; clear n0_; (try clear hb); (try clear hb2); (try clear hk); (try clear hi)) | ((with_reducible refine gate_callee (f := 38) rfl ?_); refine goesL_ (some 10) rfl rfl Tryd.func38 (by kernel_rfl) rfl #[.string a0, .int .i64 a1] rfl (by (try simp only [List.map_toArray, List.map_cons, List.map_nil]); first | done | rfl | (simp only [List.length_drop, List.length_take]; rfl)) ?_; (with_reducible refine (quarryref10_Depth.calls k a0 a1 t347 _ A4.out).mono ?_); rintro e w20 ⟨rfl, hb⟩; refine ⟨_, rfl, ?_⟩; have n0_ := Aside0.mk (below_step (by repeat (first | (with_reducible first | exact HB.out | apply below_alloc | apply pw_below_drewN | apply below_drew1) | exact HB.out)) hb); clear HB; have HB := n0_; clear n0_; (try clear hb); (try clear hb2); (try clear hk); (try clear hi)))
    go_ret
    exact ⟨by first | rfl | (simp [errW_none, errW_some] <;> rfl) | (simp [*, errW_none, errW_some] <;> rfl), by repeat (first | (with_reducible first | exact HB.out | apply below_alloc | apply pw_below_drewN | apply below_drew1) | exact HB.out)⟩

/-- THE ONE PURE STATEMENT of quarrylaw10_LevelsDepth: yours. -/
def quarrylaw10_LevelsDepth.Pure : Prop := ∀ (a0 : ByteArray) (a1 : Int), a0.size ≤ 140737488351232 → (Lit.int .i64 a1).wf = true → ∃ k, quarrylaw10_LevelsDepth.f k a0 a1 = some true
theorem quarrylaw10_LevelsDepth.walk (P : quarrylaw10_LevelsDepth.Pure) (a0 : ByteArray) (a1 : Int) (w : World) (hT : TabOk w) (w0 : a0.size ≤ 140737488351232) (w1 : (Lit.int .i64 a1).wf = true) :
    Calls Tryd.prog 8 #[.string a0, .int .i64 a1] w fun e w' => e = .returned (.bool true) ∧ Below w.heap.size w w' := by
  obtain ⟨k, h⟩ := P a0 a1 w0 w1
  refine (quarrylaw10_LevelsDepth.calls k a0 a1 true w hT h).mono ?_
  rintro e w' ⟨rfl, hd⟩
  exact ⟨rfl, hd⟩

end Go.Proofs.YtgddljealeklkaaDoor.PL
end
-- PureLevelsDepth
section
namespace Go.Proofs.YtgddljealeklkaaDoor.Pure
open Go Go.RowKit Go.Proofs.YtgddljealeklkaaDoor.PL Go.Proofs.YtgddljealeklkaaDoorW.PrintWords Go.Proofs.YtgddljealeklkaaDoorW.PrintLast Go.Proofs.YtgddljealeklkaaDoorQ
set_option linter.unusedVariables false
set_option linter.unusedSimpArgs false
theorem set_step {α : Type} (n : Nat) (f d : Nat → α) {i : Nat} (h : i < n) : ((List.range n).map fun j => if j < i then f j else d j).set i (f i) = (List.range n).map fun j => if j < i + 1 then f j else d j := by
  apply List.ext_getElem?
  intro j
  rw [List.getElem?_set, List.getElem?_map, List.getElem?_map, List.length_map, List.length_range]
  by_cases hj : j < n
  · rw [List.getElem?_range hj]
    by_cases e : i = j
    · subst e
      rw [if_pos rfl, if_pos hj]
      simp
    · rw [if_neg e]
      by_cases g : j < i
      · simp [g, show j < i + 1 by omega]
      · simp [g, show ¬ j < i + 1 by omega]
  · rw [List.getElem?_eq_none (by rw [List.length_range]; omega), if_neg (by omega)]
    simp
theorem set_done {α : Type} (n : Nat) (f d : Nat → α) : ((List.range n).map fun j => if j < n then f j else d j) = (List.range n).map f := List.map_congr_left fun j hj => if_pos (List.mem_range.1 hj)
theorem w64s (i n : Nat) (h : i < n) (hn : n ≤ 281474976702464) : wrap64 ((i : Int) + 1) = ((i + 1 : Nat) : Int) := by unfold wrap64; omega
theorem marks7_loop (s : ByteArray) (hn : s.size ≤ 140737488351232) :
    ∀ (d i k : Nat), i + d = s.size → d < k → quarryref07_marks.l0 k s ((List.range s.size).map fun j => if j < i then mkq s j else false) (esc s false i) (i : Int) = some ((List.range s.size).map (mkq s)) := by
  intro d
  induction d with
  | zero =>
    intro i k hi hk
    obtain ⟨k, rfl⟩ : ∃ m, k = m + 1 := ⟨k - 1, by omega⟩
    unfold quarryref07_marks.l0
    rw [if_neg (by omega), show i = s.size by omega, set_done]
  | succ d ih =>
    intro i k hi hk
    obtain ⟨k, rfl⟩ : ∃ m, k = m + 1 := ⟨k - 1, by omega⟩
    have h2 := ih (i + 1) k (by omega) (by omega)
    rw [← set_step s.size (mkq s) (fun _ => false) (show i < s.size by omega)] at h2
    have hl : ((List.range s.size).map fun j => if j < i then mkq s j else false).length = s.size := by simp
    unfold quarryref07_marks.l0
    rw [if_pos (by omega), if_pos (by omega), w64s i s.size (by omega) (by omega)]
    have he : ∀ b : Bool, decide (bt s (i : Int) = 34) = b → mkq s i = (b && !esc s false i) := fun b hb => by unfold mkq; rw [hb]
    have hx : esc s false (i + 1) = (decide (bt s (i : Int) = 92) && !esc s false i) := rfl
    by_cases h34 : bt s (i : Int) = 34
    · rw [he true (decide_eq_true h34), Bool.true_and, hx, decide_eq_false (by omega), Bool.false_and] at h2
      rw [if_pos h34, if_pos (by rw [hl]; omega), Option.bind_some, Int.toNat_natCast, if_neg (by omega)]
      exact h2
    · rw [he false (decide_eq_false h34), Bool.false_and, hx] at h2
      rw [if_neg h34, if_pos (by rw [hl]; omega), Option.bind_some, Int.toNat_natCast]
      by_cases h92 : bt s (i : Int) = 92
      · rw [decide_eq_true h92, Bool.true_and] at h2
        rw [if_pos h92]
        exact h2
      · rw [decide_eq_false h92, Bool.false_and] at h2
        rw [if_neg h92]
        exact h2
theorem marks7_eq (s : ByteArray) (hn : s.size ≤ 140737488351232) (k : Nat) (hk : s.size < k) : quarryref07_marks.f k s = some ((List.range s.size).map (mkq s)) := by
  have h := marks7_loop s hn s.size 0 k (by omega) hk
  unfold quarryref07_marks.f
  rw [if_pos (by omega), Int.toNat_natCast, if_pos (by omega)]
  have e : ((List.range s.size).map fun j => if j < 0 then mkq s j else false) = List.replicate s.size false := by
    apply List.ext_getElem? 
    intro j
    rw [List.getElem?_map, List.getElem?_replicate]
    by_cases hj : j < s.size
    · rw [List.getElem?_range hj, if_pos hj]
      simp
    · rw [List.getElem?_eq_none (by rw [List.length_range]; omega), if_neg hj]
      rfl
  rw [e] at h
  exact h
theorem inside7_loop (s : ByteArray) (hn : s.size ≤ 140737488351232) :
    ∀ (d i k : Nat), i + d = s.size → d < k → quarryref07_inside.l0 k ((List.range s.size).map fun j => if j < i then insS s j else mkq s j) (par (mkq s) i) (i : Int) = some ((List.range s.size).map (insS s)) := by
  intro d
  induction d with
  | zero =>
    intro i k hi hk
    obtain ⟨k, rfl⟩ : ∃ m, k = m + 1 := ⟨k - 1, by omega⟩
    unfold quarryref07_inside.l0
    rw [if_neg (by simp; omega), show i = s.size by omega, set_done]
  | succ d ih =>
    intro i k hi hk
    obtain ⟨k, rfl⟩ : ∃ m, k = m + 1 := ⟨k - 1, by omega⟩
    have h2 := ih (i + 1) k (by omega) (by omega)
    rw [← set_step s.size (insS s) (mkq s) (show i < s.size by omega)] at h2
    have hr : rdOf false ((List.range s.size).map fun j => if j < i then insS s j else mkq s j) (i : Int) = mkq s i := by
      unfold rdOf
      rw [Int.toNat_natCast, List.getD_eq_getElem?_getD, List.getElem?_map, List.getElem?_range (by omega)]
      simp
    have hi1 : insS s i = (par (mkq s) i ^^ mkq s i) := rfl
    have hp : par (mkq s) (i + 1) = (par (mkq s) i ^^ mkq s i) := rfl
    unfold quarryref07_inside.l0
    rw [if_pos (by simp; omega), if_pos (by omega), w64s i s.size (by omega) (by omega), hr, Int.toNat_natCast]
    rw [hi1, hp] at h2
    cases h : mkq s i
    · rw [h, Bool.xor_false] at h2
      rw [if_neg (by decide)]
      exact h2
    · rw [h, Bool.xor_true] at h2
      rw [if_pos rfl]
      exact h2
theorem inside7_eq (s : ByteArray) (hn : s.size ≤ 140737488351232) (k : Nat) (hk : s.size < k) : quarryref07_inside.f k s = some ((List.range s.size).map (insS s)) := by
  have h := inside7_loop s hn s.size 0 k (by omega) hk
  unfold quarryref07_inside.f
  rw [marks7_eq s hn k hk, Option.bind_some]
  exact h
theorem shl_one (m : Nat) (h : m < 64) : shl .u64 1 (m : Int) = ((2 ^ m : Nat) : Int) := by
  have : ∀ m : Fin 64, shl .u64 1 ((m.val : Nat) : Int) = ((2 ^ m.val : Nat) : Int) := by decide
  exact this ⟨m, h⟩
theorem shl_one' (m : Nat) (h : m < 64) : shl .u64 1 (m : Int) = iv (1#64 <<< m) := by
  rw [shl_one m h]
  unfold iv
  rw [BitVec.toNat_shiftLeft, Nat.shiftLeft_eq]
  have : 2 ^ m < 2 ^ 64 := Nat.pow_lt_pow_right (by decide) h
  rw [show (1#64).toNat = 1 from rfl, Nat.one_mul, Nat.mod_eq_of_lt this]
theorem and_bit (p : Nat → Bool) (m : Nat) (h : m < 64) : (bits .and .u64 (iv (word p)) (shl .u64 1 (m : Int)) = 0) ↔ p m = false := by
  rw [shl_one' m h, bits_and, show (0 : Int) = iv 0#64 from rfl, iv_inj]
  have hb : ∀ j, j < 64 → (word p &&& 1#64 <<< m).getLsbD j = (p j && decide (j = m)) := fun j hj => by
    rw [BitVec.getLsbD_and, word_bit, BitVec.getLsbD_shiftLeft, decide_eq_true hj]
    by_cases g : j < m
    · simp [g, show ¬ j = m by omega]
    · by_cases g2 : j = m
      · subst g2
        simp
      · have : (1#64).getLsbD (j - m) = false := by
          have h1 : ∀ i : Fin 64, i.val ≠ 0 → (1#64).getLsbD i.val = false := by decide
          exact h1 ⟨j - m, by omega⟩ (by show j - m ≠ 0; omega)
        simp [g, g2, this]
  constructor
  · intro e
    have := hb m h
    rw [e] at this
    simpa using this.symm
  · intro e
    apply BitVec.eq_of_getLsbD_eq
    intro j hj
    rw [hb j hj]
    by_cases g : j = m
    · subst g; rw [e]; simp
    · simp [g]
theorem wordAt_fun (n : Nat) (q : Nat → Bool) (k : Nat) : wordAt n q k = word fun i => decide (64 * k + i < n) && q (64 * k + i) := rfl
theorem ends_eq (n : Nat) (q : Nat → Bool) (k : Nat) (h : 64 * k + 63 < n) (a b c : Int) : marks_rows_ends.f a b c (iv (wordAt n q k)) = some (q (64 * k + 63)) := by
  unfold marks_rows_ends.f
  rw [wordAt_fun, top_word, decide_eq_true h, Bool.true_and]
  cases q (64 * k + 63) <;> rfl
/-- Where words begin in a block. -/
def startB (n : Nat) (q : Nat → Bool) (k : Nat) (c : Bool) (j : Nat) : Bool := (decide (64 * k + j < n) && q (64 * k + j)) && !(if j = 0 then c else decide (64 * k + (j - 1) < n) && q (64 * k + (j - 1)))
theorem starts_eq (n : Nat) (q : Nat → Bool) (k : Nat) (c : Bool) (x y z : Int) : marks_rows_starts.f x y z (iv (wordAt n q k)) c = some (iv (word (startB n q k c))) := by
  have e1 : IntKind.u64.wrap (iv (wordAt n q k) * 2) = iv (wordAt n q k <<< 1) := wrap_shl _ 1
  have e2 : (1 : Int) = iv 1#64 := rfl
  have h1 : ∀ i : Fin 64, (1#64).getLsbD i.val = decide (i.val = 0) := by decide
  unfold marks_rows_starts.f
  cases c with
  | true =>
    rw [if_pos rfl, e1, e2, bits_or, bits_andNot]
    apply congrArg (fun w => some (iv w))
    apply eq_word
    intro j hj
    rw [BitVec.getLsbD_and, BitVec.getLsbD_not, BitVec.getLsbD_or, BitVec.getLsbD_shiftLeft, wordAt_fun, word_bit, word_bit, h1 ⟨j, hj⟩, decide_eq_true hj]
    unfold startB
    by_cases g : j = 0
    · subst g; simp
    · rw [if_neg g, decide_eq_false (show ¬ j < 1 by omega), decide_eq_true (show j - 1 < 64 by omega), decide_eq_false (show ¬ (⟨j, hj⟩ : Fin 64).val = 0 from g)]
      simp
  | false =>
    rw [if_neg (by decide), e1, bits_andNot]
    apply congrArg (fun w => some (iv w))
    apply eq_word
    intro j hj
    rw [BitVec.getLsbD_and, BitVec.getLsbD_not, BitVec.getLsbD_shiftLeft, wordAt_fun, word_bit, word_bit, decide_eq_true hj]
    unfold startB
    by_cases g : j = 0
    · subst g; simp
    · rw [if_neg g, decide_eq_false (show ¬ j < 1 by omega), decide_eq_true (show j - 1 < 64 by omega)]
      simp
/-- What a byte is. -/
def kindB (s : ByteArray) (i : Nat) : Int := if mkq s i && insS s i then 3 else if mkq s i then 4 else if insS s i then 5 else if sgx (bt s (i : Int)).toNat then 1 else if blx (bt s (i : Int)).toNat then 2 else 6
theorem kb_sg (s : ByteArray) (i : Nat) : sgq s i = decide (kindB s i = 1) := by
  unfold kindB sgq outq
  cases hm : mkq s i <;> cases hn : insS s i <;> cases hs : sgx (bt s (i : Int)).toNat <;> cases hb : blx (bt s (i : Int)).toNat <;> simp
theorem kb_op (s : ByteArray) (i : Nat) : opq s i = decide (kindB s i = 3) := by
  unfold kindB opq
  cases hm : mkq s i <;> cases hn : insS s i <;> cases hs : sgx (bt s (i : Int)).toNat <;> cases hb : blx (bt s (i : Int)).toNat <;> simp
theorem kb_wd (s : ByteArray) (i : Nat) : wdq s i = decide (kindB s i = 6) := by
  unfold wdq sgq blq kindB outq
  cases hm : mkq s i <;> cases hn : insS s i <;> cases hs : sgx (bt s (i : Int)).toNat <;> cases hb : blx (bt s (i : Int)).toNat <;> simp
/-- What begins at a place. -/
def kindR (s : ByteArray) (i : Nat) : Int := if kindB s i = 1 ∨ kindB s i = 3 then bt s (i : Int) else if kindB s i = 6 ∧ (i = 0 ∨ kindB s (i - 1) ≠ 6) then 119 else 0
theorem rd_look (s : ByteArray) (k : Nat) (h : k < nwords s.size) : rd_T77 (lookL s) (k : Int) = rowS s k := by
  unfold rd_T77 lookL
  rw [Int.toNat_natCast, List.getD_eq_getElem?_getD, List.getElem?_map, List.getElem?_range h]
  rfl
theorem kind_last (s : ByteArray) (i k : Nat) (hi : i < s.size) (c : Bool) (hc : c = if 64 ≤ i then wdq s (64 * (i / 64) - 1) else false) :
    marks_Kind.j1 (k + 1) s (i : Int) (shl .u64 1 ((i % 64 : Nat) : Int)) c (rowS s (i / 64)).f0 (rowS s (i / 64)).f1 (rowS s (i / 64)).f2 (rowS s (i / 64)).f3 = some (kindR s i) := by
  have hm : i % 64 < 64 := Nat.mod_lt _ (by decide)
  have hd : 64 * (i / 64) + i % 64 = i := by omega
  have e0 : (rowS s (i / 64)).f0 = iv (wordAt s.size (sgq s) (i / 64)) := rfl
  have e2 : (rowS s (i / 64)).f2 = iv (wordAt s.size (opq s) (i / 64)) := rfl
  have e3 : (rowS s (i / 64)).f3 = iv (wordAt s.size (wdq s) (i / 64)) := rfl
  have hor : bits .or .u64 (iv (wordAt s.size (sgq s) (i / 64))) (iv (wordAt s.size (opq s) (i / 64))) = iv (word fun j => (decide (64 * (i / 64) + j < s.size) && sgq s (64 * (i / 64) + j)) || (decide (64 * (i / 64) + j < s.size) && opq s (64 * (i / 64) + j))) := mask_or _ _
  simp only [marks_Kind.j1]
  rw [e0, e2, hor]
  by_cases h : kindB s i = 1 ∨ kindB s i = 3
  · rw [if_neg (by
      rw [and_bit _ _ hm]
      simp only [hd, decide_eq_true hi, Bool.true_and, kb_sg, kb_op]
      rcases h with h | h <;> simp [h]), if_pos (by omega), if_pos (by omega)]
    unfold kindR
    rw [if_pos h]
  · have h1 : kindB s i ≠ 1 := fun e => h (.inl e)
    have h3 : kindB s i ≠ 3 := fun e => h (.inr e)
    rw [if_pos (by
      rw [and_bit _ _ hm]
      simp only [hd, decide_eq_true hi, Bool.true_and, kb_sg, kb_op]
      simp [h1, h3]), e3, starts_eq, Option.bind_some]
    unfold kindR
    rw [if_neg h]
    have hst : startB s.size (wdq s) (i / 64) c (i % 64) = decide (kindB s i = 6 ∧ (i = 0 ∨ kindB s (i - 1) ≠ 6)) := by
      unfold startB
      rw [hd, decide_eq_true hi, Bool.true_and, kb_wd, hc]
      by_cases g0 : i % 64 = 0
      · rw [if_pos g0]
        by_cases g1 : 64 ≤ i
        · rw [if_pos g1, show 64 * (i / 64) - 1 = i - 1 by omega, kb_wd]
          by_cases a : kindB s i = 6 <;> by_cases b : kindB s (i - 1) = 6 <;> simp [a, b, show ¬ i = 0 by omega]
        · rw [if_neg g1]
          have : i = 0 := by omega
          subst this
          simp
      · rw [if_neg g0, show 64 * (i / 64) + (i % 64 - 1) = i - 1 by omega, decide_eq_true (show i - 1 < s.size by omega), Bool.true_and, kb_wd]
        by_cases a : kindB s i = 6 <;> by_cases b : kindB s (i - 1) = 6 <;> simp [a, b, show ¬ i = 0 by omega]
    by_cases hb : kindB s i = 6 ∧ (i = 0 ∨ kindB s (i - 1) ≠ 6)
    · rw [if_neg (by rw [and_bit _ _ hm, hst, decide_eq_true hb]; decide), if_pos hb]
    · rw [if_pos (by rw [and_bit _ _ hm, hst, decide_eq_false hb]), if_neg hb]
theorem kind_eq (s : ByteArray) (hn : s.size ≤ 1048576) (i : Nat) (hi : i < s.size) (k : Nat) : marks_Kind.f (k + 2) s (i : Int) = some (kindR s i) := by
  have e1 : Int.tmod (i : Int) 64 = ((i % 64 : Nat) : Int) := rfl
  have e2 : Int.tdiv (i : Int) 64 = ((i / 64 : Nat) : Int) := rfl
  have e3 : wrap64 ((i / 64 : Nat) : Int) = ((i / 64 : Nat) : Int) := by unfold wrap64; omega
  have hl : (lookL s).length = nwords s.size := by simp [lookL]
  have hw : i / 64 < nwords s.size := by unfold nwords; omega
  unfold marks_Kind.f
  rw [if_neg (by omega), decide_eq_false (by omega)]
  simp only [marks_Kind.j0, marks_look.f]
  rw [if_neg (by decide), if_pos (by omega), Option.bind_some, e1, e2, e3, hl, if_pos (by omega), if_pos (by omega), if_pos (by omega), rd_look s _ hw]
  by_cases g : 64 ≤ i
  · have e4 : wrap64 (((i / 64 : Nat) : Int) - 1) = ((i / 64 - 1 : Nat) : Int) := by unfold wrap64; omega
    rw [if_pos (by omega), e4, if_pos (by omega), if_pos (by omega), rd_look s _ (by omega)]
    have e5 : (rowS s (i / 64 - 1)).f3 = iv (wordAt s.size (wdq s) (i / 64 - 1)) := rfl
    rw [e5, ends_eq _ _ _ (by omega), Option.bind_some]
    exact kind_last s i k hi _ (by rw [if_pos g, show 64 * (i / 64 - 1) + 63 = 64 * (i / 64) - 1 by omega])
  · rw [if_neg (by omega)]
    exact kind_last s i k hi _ (by rw [if_neg g])
theorem kind_out (s : ByteArray) (a : Int) (h : a < 0 ∨ (s.size : Int) ≤ a) (k : Nat) : marks_Kind.f (k + 1) s a = some 0 := by
  unfold marks_Kind.f
  by_cases g : a < 0
  · rw [if_pos g]
    simp only [marks_Kind.j0]
    rw [if_pos trivial]
  · rw [if_neg g, decide_eq_true (by omega)]
    simp only [marks_Kind.j0]
    rw [if_pos trivial]
theorem rdB (s : ByteArray) (q : Nat → Bool) (i : Nat) (h : i < s.size) : rdOf false ((List.range s.size).map q) (i : Int) = q i := by
  unfold rdOf
  rw [Int.toNat_natCast, List.getD_eq_getElem?_getD, List.getElem?_map, List.getElem?_range h]
  rfl
theorem w10 {i n : Nat} (h : i ≤ n) (hn : n ≤ 1048576) : wrap64 ((i : Int) + 1) = ((i + 1 : Nat) : Int) := by unfold wrap64; omega
theorem is_eq10 (s : ByteArray) (hn : s.size ≤ 1048576) (k : Nat) (hk : s.size < k) : quarryref07_Is.f k s = some ((List.range s.size).map (mkq s)) := by
  unfold quarryref07_Is.f
  rw [marks7_eq s (by omega) k hk, Option.bind_some]
theorem in_eq10 (s : ByteArray) (hn : s.size ≤ 1048576) (k : Nat) (hk : s.size < k) : quarryref07_In.f k s = some ((List.range s.size).map (insS s)) := by
  unfold quarryref07_In.f
  rw [inside7_eq s (by omega) k hk, Option.bind_some]
theorem outside_loop (s : ByteArray) (hn : s.size ≤ 1048576) : ∀ (m i k : Nat), i + m = s.size → m < k →
    quarryref10_Outside.l0 k s ((List.range s.size).map (mkq s)) ((List.range s.size).map (insS s)) ((List.range s.size).map fun j => if j < i then outq s j else false) (i : Int) = some ((List.range s.size).map (outq s)) := by
  intro m
  induction m with
  | zero =>
    intro i k hi hk
    obtain ⟨k, rfl⟩ : ∃ j, k = j + 1 := ⟨k - 1, by omega⟩
    rw [Nat.add_zero] at hi
    rw [quarryref10_Outside.l0, if_neg (by omega), hi, set_done]
  | succ m ih =>
    intro i k hi hk
    obtain ⟨k, rfl⟩ : ∃ j, k = j + 1 := ⟨k - 1, by omega⟩
    have hlt : i < s.size := by omega
    have h := ih (i + 1) k (by omega) (by omega)
    have hs : ∀ v, v = outq s i → ((List.range s.size).map fun j => if j < i then outq s j else false).set i v = (List.range s.size).map fun j => if j < i + 1 then outq s j else false := fun v hv => by rw [hv]; exact set_step s.size (outq s) (fun _ => false) hlt
    have hl : ∀ q : Nat → Bool, ((((List.range s.size).map q).length : Nat) : Int) = (s.size : Int) := fun q => by simp
    rw [quarryref10_Outside.l0, if_pos (by omega), if_pos (by omega), if_pos (by rw [hl]; omega), rdB s _ i hlt, rdB s _ i hlt, w10 (by omega) hn, Int.toNat_natCast]
    cases hm : mkq s i with
    | true =>
      have ho : outq s i = false := by unfold outq; rw [hm]; rfl
      rw [if_pos rfl, if_pos (by rw [hl]; omega), hs false ho.symm]
      exact h
    | false =>
      have ho : outq s i = !(insS s i) := by unfold outq; rw [hm]; rfl
      rw [if_neg (by decide), if_pos (by rw [hl]; omega), if_pos (by rw [hl]; omega), hs _ ho.symm]
      exact h
theorem outside_eq (s : ByteArray) (hn : s.size ≤ 1048576) (k : Nat) (hk : s.size < k) : quarryref10_Outside.f k s = some ((List.range s.size).map (outq s)) := by
  unfold quarryref10_Outside.f
  rw [is_eq10 s hn k hk, Option.bind_some, in_eq10 s hn k hk, Option.bind_some, if_pos (by omega), if_pos (by omega), Int.toNat_natCast]
  have h := outside_loop s hn s.size 0 k (by omega) hk
  have e : ((List.range s.size).map fun j => if j < 0 then outq s j else false) = List.replicate s.size false := by
    apply List.ext_getElem
    · simp
    · intro i h1 h2
      simp
  rw [e] at h
  exact h
theorem opens_eq (c : Int) : quarryref10_Opens.f c = some (opensB c) := by
  unfold quarryref10_Opens.f opensB
  by_cases h : c = 123
  · rw [if_pos h, h]; rfl
  · rw [if_neg h, show (c == 123) = false from beq_eq_false_iff_ne.mpr h, Bool.false_or]
theorem closes_eq (c : Int) : quarryref10_Closes.f c = some (closesB c) := by
  unfold quarryref10_Closes.f closesB
  by_cases h : c = 125
  · rw [if_pos h, h]; rfl
  · rw [if_neg h, show (c == 125) = false from beq_eq_false_iff_ne.mpr h, Bool.false_or]
theorem op_out (s : ByteArray) (i : Nat) : (outq s i && opensB (bt s (i : Int))) = opS s i := by
  unfold opS sgq
  rw [sgx_bytes (bt_nn s i)]
  cases opensB (bt s (i : Int)) <;> cases outq s i <;> simp
theorem cl_out (s : ByteArray) (i : Nat) : (outq s i && closesB (bt s (i : Int))) = clS s i := by
  unfold clS sgq
  rw [sgx_bytes (bt_nn s i)]
  cases closesB (bt s (i : Int)) <;> cases outq s i <;> simp
theorem op_not_cl (s : ByteArray) (i : Nat) (h : opS s i = true) : clS s i = false := by
  unfold opS at h
  unfold clS
  simp only [Bool.and_eq_true] at h
  have h2 : closesB (bt s (i : Int)) = false := by
    have h3 := h.2
    unfold opensB at h3
    unfold closesB
    simp only [Bool.or_eq_true, beq_iff_eq] at h3
    rw [Bool.or_eq_false_iff, beq_eq_false_iff_ne, beq_eq_false_iff_ne]
    omega
  rw [h2, Bool.and_false]
def depI (s : ByteArray) (i : Nat) : Int := ((dep s i : Nat) : Int)
theorem depths_next (s : ByteArray) (hn : s.size ≤ 1048576) {i : Nat} (hi : i < s.size) (k : Nat) (z : Int) (hz : z = depI s (i + 1)) (R : Option (List Int))
    (h : quarryref10_Depths.l0 k s ((List.range s.size).map (outq s)) ((List.range (i + 2)).map (depI s)) (depI s (i + 1)) ((i + 1 : Nat) : Int) = R) :
    (if ((List.range (i + 1)).map (depI s)).length < 17592186044416 then quarryref10_Depths.l0 k s ((List.range s.size).map (outq s)) (((List.range (i + 1)).map (depI s)) ++ [z]) z (wrap64 ((i : Int) + 1)) else none) = R := by
  rw [if_pos (by rw [List.length_map, List.length_range]; omega), w10 (by omega) hn, hz]
  rw [List.range_succ, List.map_append] at h
  exact h
theorem depths_j1 (s : ByteArray) (hn : s.size ≤ 1048576) {i : Nat} (hi : i < s.size) (k : Nat) (R : Option (List Int))
    (h : quarryref10_Depths.l0 k s ((List.range s.size).map (outq s)) ((List.range (i + 2)).map (depI s)) (depI s (i + 1)) ((i + 1 : Nat) : Int) = R) :
    quarryref10_Depths.j1 (k + 1) s ((List.range s.size).map (outq s)) ((List.range (i + 1)).map (depI s)) (depI s i) (i : Int) (opS s i) = R := by
  have hd := dep_le s i
  have hl : ((((List.range s.size).map (outq s)).length : Nat) : Int) = (s.size : Int) := by simp
  have hw1 : wrap64 (depI s i + 1) = depI s i + 1 := by unfold depI wrap64; omega
  have hw2 : wrap64 (depI s i - 1) = depI s i - 1 := by unfold depI wrap64; omega
  have d0 : (0 : Int) ≤ depI s i := Int.natCast_nonneg _
  have hcl := cl_out s i
  rw [quarryref10_Depths.j1]
  cases ho : opS s i with
  | true =>
    have hc := op_not_cl s i ho
    have hz : depI s i + 1 = depI s (i + 1) := by unfold depI; rw [dep_succ, if_pos ho]; omega
    rw [if_pos rfl, if_pos (by omega), if_pos (by rw [hl]; omega), rdB s _ i hi, hw1]
    rw [hc] at hcl
    by_cases hout : outq s i = true
    · rw [if_pos hout, if_pos (by omega), closes_eq, Option.bind_some]
      rw [hout, Bool.true_and] at hcl
      rw [hcl, if_neg (by decide)]
      exact depths_next s hn hi k _ hz R h
    · rw [if_neg hout]
      exact depths_next s hn hi k _ hz R h
  | false =>
    rw [if_neg (by decide), if_pos (by omega), if_pos (by rw [hl]; omega), rdB s _ i hi]
    by_cases hout : outq s i = true
    · rw [if_pos hout, if_pos (by omega), closes_eq, Option.bind_some]
      rw [hout, Bool.true_and] at hcl
      rw [hcl]
      cases hc : clS s i with
      | true =>
        rw [if_pos rfl]
        by_cases hp : depI s i > 0
        · have hz : depI s i - 1 = depI s (i + 1) := by
            unfold depI at hp ⊢
            rw [dep_succ, if_neg (by rw [ho]; decide), if_pos hc]
            omega
          rw [if_pos hp, hw2]
          exact depths_next s hn hi k _ hz R h
        · have hz : depI s i = depI s (i + 1) := by
            unfold depI at hp ⊢
            rw [dep_succ, if_neg (by rw [ho]; decide), if_pos hc]
            omega
          rw [if_neg hp]
          exact depths_next s hn hi k _ hz R h
      | false =>
        have hz : depI s i = depI s (i + 1) := by unfold depI; rw [dep_succ, if_neg (by rw [ho]; decide), if_neg (by rw [hc]; decide)]
        rw [if_neg (by decide)]
        exact depths_next s hn hi k _ hz R h
    · have hout : outq s i = false := by simpa using hout
      rw [hout, Bool.false_and] at hcl
      have hz : depI s i = depI s (i + 1) := by unfold depI; rw [dep_succ, if_neg (by rw [ho]; decide), if_neg (by rw [← hcl]; decide)]
      rw [hout, if_neg (by decide)]
      exact depths_next s hn hi k _ hz R h
theorem depths_loop (s : ByteArray) (hn : s.size ≤ 1048576) : ∀ (m i k : Nat), i + m = s.size → 2 * m + 1 < k →
    quarryref10_Depths.l0 k s ((List.range s.size).map (outq s)) ((List.range (i + 1)).map (depI s)) (depI s i) (i : Int) = some ((List.range (s.size + 1)).map (depI s)) := by
  intro m
  induction m with
  | zero =>
    intro i k hi hk
    obtain ⟨k, rfl⟩ : ∃ j, k = j + 1 := ⟨k - 1, by omega⟩
    rw [Nat.add_zero] at hi
    rw [quarryref10_Depths.l0, if_neg (by omega), hi]
  | succ m ih =>
    intro i k hi hk
    obtain ⟨k, rfl⟩ : ∃ j, k = j + 2 := ⟨k - 2, by omega⟩
    have hlt : i < s.size := by omega
    have hl : ((((List.range s.size).map (outq s)).length : Nat) : Int) = (s.size : Int) := by simp
    have hj := depths_j1 s hn hlt k _ (ih (i + 1) k (by omega) (by omega))
    have hop := op_out s i
    rw [quarryref10_Depths.l0, if_pos (by omega), if_pos (by omega), if_pos (by rw [hl]; omega), rdB s _ i hlt]
    by_cases hout : outq s i = true
    · rw [if_pos hout, opens_eq, Option.bind_some]
      rw [hout, Bool.true_and] at hop
      rw [hop]
      exact hj
    · have hout : outq s i = false := by simpa using hout
      rw [hout, Bool.false_and] at hop
      rw [hout, if_neg (by decide), hop]
      exact hj
theorem depths_eq (s : ByteArray) (hn : s.size ≤ 1048576) (k : Nat) (hk : 2 * s.size + 1 < k) : quarryref10_Depths.f k s = some ((List.range (s.size + 1)).map (depI s)) := by
  unfold quarryref10_Depths.f
  rw [outside_eq s hn k (by omega), Option.bind_some]
  exact depths_loop s hn s.size 0 k (by omega) hk
theorem rd_dep (s : ByteArray) (i : Nat) (h : i ≤ s.size) : rd ((List.range (s.size + 1)).map (depI s)) (i : Int) = depI s i := by
  unfold rd
  rw [Int.toNat_natCast, List.getD_eq_getElem?_getD, List.getElem?_map, List.getElem?_range (by omega)]
  rfl
theorem kindR_open (s : ByteArray) (i : Nat) : (kindR s i = 123 ∨ kindR s i = 91) ↔ opS s i = true := by
  unfold kindR opS
  rw [kb_sg]
  by_cases h1 : kindB s i = 1
  · rw [if_pos (.inl h1), h1, decide_eq_true rfl, Bool.true_and]
    unfold opensB
    rw [Bool.or_eq_true, beq_iff_eq, beq_iff_eq]
  · rw [decide_eq_false h1, Bool.false_and]
    by_cases h3 : kindB s i = 3
    · rw [if_pos (.inr h3)]
      have hop := kb_op s i
      rw [h3, decide_eq_true rfl] at hop
      have hm := (op_facts hop).1
      unfold mkq at hm
      simp only [Bool.and_eq_true, decide_eq_true_eq] at hm
      rw [hm.1]
      exact ⟨fun h => by omega, fun h => by cases h⟩
    · rw [if_neg (fun h => h.elim h1 h3)]
      split
      · exact ⟨fun h => by omega, fun h => by cases h⟩
      · exact ⟨fun h => by omega, fun h => by cases h⟩
/-- Is a bracket closed there that was opened at a? -/
def closq (s : ByteArray) (a j : Nat) : Bool := clS s j && decide (dep s j = dep s a + 1)
/-- Where what opens at a is closed; the length: nowhere. -/
def closAt (s : ByteArray) (a : Nat) : Nat := firstQ (closq s a) (s.size - (a + 1)) (a + 1)
def closI (s : ByteArray) (a : Nat) : Int := if closAt s a < s.size then ((closAt s a : Nat) : Int) else -1
theorem firstQ_skip (q : Nat → Bool) {n a b : Nat} (hab : a ≤ b) (hb : b ≤ n) (h : ∀ j, a ≤ j → j < b → q j = false) : firstQ q (n - a) a = firstQ q (n - b) b := by
  obtain ⟨d, rfl⟩ : ∃ d, b = a + d := ⟨b - a, by omega⟩
  clear hab
  induction d generalizing a with
  | zero => rfl
  | succ d ih =>
    rw [show n - a = (n - (a + 1)) + 1 by omega, firstQ, if_neg (by rw [h a (Nat.le_refl _) (by omega)]; decide)]
    have := ih (a := a + 1) (by omega) (fun j h1 h2 => h j (by omega) (by omega))
    rw [this, show a + 1 + d = a + (d + 1) by omega]
theorem closeR_after (s : ByteArray) (a : Nat) : ∀ (d i : Nat), i + d = (placesL s).length → a < nextP s i →
    closeR s (a : Int) ((placesL s).drop i) (((dep s a : Nat) : Int) + 1) = if firstQ (closq s a) (s.size - nextP s i) (nextP s i) < s.size then ((firstQ (closq s a) (s.size - nextP s i) (nextP s i) : Nat) : Int) else -1
  | 0, i, hi, ha => by
    rw [Nat.add_zero] at hi
    rw [hi, List.drop_length, closeR, ← hi, next_end (by omega), Nat.sub_self]
    unfold firstQ
    rw [if_neg (Nat.lt_irrefl _)]
  | d + 1, i, hi, ha => by
    have hlt : i < (placesL s).length := by omega
    obtain ⟨p, hp⟩ : ∃ p, (placesL s)[i]? = some p := ⟨_, List.getElem?_eq_getElem hlt⟩
    obtain ⟨a1, a2, a3, a4, a5, a6⟩ := place_at hp
    have hdrop : (placesL s).drop i = p :: (placesL s).drop (i + 1) := by
      rw [List.drop_eq_getElem_cons hlt]
      congr 1
      exact (List.getElem?_eq_some_iff.1 hp).2
    rw [hdrop, closeR, if_neg (by omega), ← a3, show s.size - p = (s.size - (p + 1)) + 1 by omega, firstQ]
    have hq : closq s a p = (closesB (bt s (p : Int)) && decide (dep s p = dep s a + 1)) := by unfold closq; rw [beg_close a2]
    by_cases c : closq s a p = true
    · rw [if_pos c]
      rw [hq] at c
      simp only [Bool.and_eq_true, decide_eq_true_eq] at c
      rw [if_pos ⟨by omega, by omega, c.1⟩, if_pos a1]
    · rw [if_neg c]
      have hn : ¬ ((a : Int) < (p : Int) ∧ ((dep s p : Nat) : Int) = ((dep s a : Nat) : Int) + 1 ∧ closesB (bt s (p : Int)) = true) := fun h => c (by
        rw [hq, h.2.2, Bool.true_and]
        exact decide_eq_true (by have := h.2.1; omega))
      rw [if_neg hn, closeR_after s a d (i + 1) (by omega) (by omega)]
      rw [firstQ_skip (closq s a) (n := s.size) (a := p + 1) (b := nextP s (i + 1)) (by omega) a5 (fun j h1 h2 => by
        have := not_beg (a6 j (by omega) h2)
        unfold closq clS
        rw [this]
        rfl)]
theorem closeR_before (s : ByteArray) (a : Nat) (ha : opS s a = true) (hn : a < s.size) : ∀ (d i : Nat), i + d = (placesL s).length → nextP s i ≤ a → ∀ w, closeR s (a : Int) ((placesL s).drop i) w = closI s a
  | 0, i, hi, h, w => by
    rw [next_end (by omega)] at h
    omega
  | d + 1, i, hi, h, w => by
    have hlt : i < (placesL s).length := by omega
    obtain ⟨p, hp⟩ : ∃ p, (placesL s)[i]? = some p := ⟨_, List.getElem?_eq_getElem hlt⟩
    obtain ⟨a1, a2, a3, a4, a5, a6⟩ := place_at hp
    have hdrop : (placesL s).drop i = p :: (placesL s).drop (i + 1) := by
      rw [List.drop_eq_getElem_cons hlt]
      congr 1
      exact (List.getElem?_eq_some_iff.1 hp).2
    rw [hdrop, closeR]
    by_cases c : p = a
    · subst c
      rw [if_pos rfl, closeR_after s p d (i + 1) (by omega) a4]
      unfold closI closAt
      rw [firstQ_skip (closq s p) (n := s.size) (a := p + 1) (b := nextP s (i + 1)) (by omega) a5 (fun j h1 h2 => by
        have := not_beg (a6 j (by omega) h2)
        unfold closq clS
        rw [this]
        rfl)]
    · have hba : begq s a = true := by
        unfold opS at ha
        simp only [Bool.and_eq_true] at ha
        exact sg_beg ha.1
      rw [if_neg (by omega), if_neg (by omega)]
      refine closeR_before s a ha hn d (i + 1) (by omega) ?_ w
      apply Classical.byContradiction
      intro g
      have := a6 a (by omega) (by omega)
      rw [hba] at this
      cases this
theorem close_eq (s : ByteArray) (hn : s.size ≤ 1048576) (a : Int) (k : Nat) : levels_Close.f (k + 2) s a = some (if 0 ≤ a ∧ a < (s.size : Int) ∧ opS s a.toNat = true then closI s a.toNat else -1) := by
  unfold levels_Close.f
  by_cases hr : a < 0 ∨ (s.size : Int) ≤ a
  · rw [kind_out s a hr (k + 1), Option.bind_some, if_neg (by omega)]
    unfold levels_Close.g
    rw [if_neg (by omega)]
  · obtain ⟨n, rfl⟩ : ∃ n : Nat, a = (n : Int) := ⟨a.toNat, by omega⟩
    rw [kind_eq s hn n (by omega) k, Option.bind_some, Int.toNat_natCast]
    unfold levels_Close.g
    by_cases ho : opS s n = true
    · rw [if_pos ((kindR_open s n).2 ho), if_pos hn, if_pos ⟨by omega, by omega, ho⟩]
      have h := closeR_before s n ho (by omega) (placesL s).length 0 (by omega) (by
        apply Classical.byContradiction
        intro g
        have := (next_zero s).2 n (by omega)
        unfold opS at ho
        simp only [Bool.and_eq_true] at ho
        rw [sg_beg ho.1] at this
        cases this) (-1)
      rw [List.drop_zero] at h
      rw [h]
    · rw [if_neg (fun h => ho ((kindR_open s n).1 h)), if_neg (fun h => ho h.2.2)]
theorem depth_eq (s : ByteArray) (hn : s.size ≤ 1048576) (a : Int) : levels_Depth.f s a = some ((depAt s a : Nat) : Int) := by
  unfold levels_Depth.f
  rw [if_pos hn]
theorem sameints_loop (l : List Int) (hl : l.length ≤ 140737488355328) : ∀ (d i k : Nat), i + d = l.length → d < k → quarryref00_SameInts.l0 k l l (i : Int) = some true := by
  intro d
  induction d with
  | zero =>
    intro i k hi hk
    obtain ⟨k, rfl⟩ : ∃ m, k = m + 1 := ⟨k - 1, by omega⟩
    unfold quarryref00_SameInts.l0
    rw [if_neg (by omega)]
  | succ d ih =>
    intro i k hi hk
    obtain ⟨k, rfl⟩ : ∃ m, k = m + 1 := ⟨k - 1, by omega⟩
    have e : wrap64 ((i : Int) + 1) = ((i + 1 : Nat) : Int) := by unfold wrap64; omega
    unfold quarryref00_SameInts.l0
    rw [if_pos (by omega), if_pos (by omega), if_pos (by omega), if_pos rfl, e, ih (i + 1) k (by omega) (by omega)]
/-- A list is the same as itself. -/
theorem sameints_refl (l : List Int) (hl : l.length ≤ 140737488355328) (k : Nat) (hk : l.length < k) : quarryref00_SameInts.f k l l = some true := by
  unfold quarryref00_SameInts.f
  rw [if_pos rfl]
  exact sameints_loop l hl l.length 0 k (by omega) hk
abbrev smallL : ByteArray := ⟨#[123, 34, 97, 34, 58, 91, 49, 44, 50, 93, 44, 34, 98, 58, 34, 58, 51, 125]⟩
theorem small_dep : depAt smallL 6 = 2 := by decide +kernel
theorem small_cl5 : (opS smallL 5 = true ∧ closI smallL 5 = 9) ∧ opS smallL 0 = true ∧ closI smallL 0 = 17 := by decide +kernel
theorem small_col : levels_Colons.f (rowsB smallL 58 2 18) (rowsB smallL 44 2 18) 1 0 99 = some [4, 15] := by decide +kernel
theorem small_com : levels_Commas.f (rowsB smallL 58 2 18) (rowsB smallL 44 2 18) 2 0 99 = some [7] := by decide +kernel
theorem rowsB_len (s : ByteArray) (b : Int) (m lim : Nat) : (((rowsB s b m lim).length : Nat) : Int) = (m : Int) := by
  unfold rowsB
  rw [List.length_map, List.length_range]
theorem awake10 (k : Nat) (hk : 100 < k) : quarrylaw10_awake.f k = some true := by
  obtain ⟨j, rfl⟩ : ∃ j, k = j + 2 := ⟨k - 2, by omega⟩
  have hb : levels_Build.f smallL 2 = some (rowsB smallL 58 2 18, rowsB smallL 44 2 18, 0) := by
    unfold levels_Build.f
    rw [if_neg (by decide), if_pos (by decide)]
    rfl
  have hd : levels_Depth.f smallL 6 = some 2 := by
    rw [depth_eq smallL (by decide), small_dep]
    rfl
  have h5 : levels_Close.f (j + 2) smallL 5 = some 9 := by
    rw [close_eq smallL (by decide), if_pos ⟨by decide, by decide, small_cl5.1.1⟩]
    exact congrArg some small_cl5.1.2
  have h0 : levels_Close.f (j + 2) smallL 0 = some 17 := by
    rw [close_eq smallL (by decide), if_pos ⟨by decide, by decide, small_cl5.2.1⟩]
    exact congrArg some small_cl5.2.2
  unfold quarrylaw10_awake.f
  rw [hb, Option.bind_some]
  dsimp only
  rw [if_pos rfl, if_pos (by rw [rowsB_len]; rfl), if_pos (by rw [rowsB_len]; rfl), hd, Option.bind_some, if_pos rfl, h5, Option.bind_some, if_pos rfl, h0, Option.bind_some]
  rw [show ((17 : Int) != 17) = false from rfl, quarrylaw10_awake.j0, if_neg (by decide), small_col, Option.bind_some, sameints_refl _ (by decide) _ (by simp; omega), Option.bind_some, if_pos rfl, small_com, Option.bind_some, sameints_refl _ (by decide) _ (by simp; omega), Option.bind_some]
theorem refdepth_eq (s : ByteArray) (hn : s.size ≤ 1048576) (a : Int) (k : Nat) (hk : 2 * s.size + 1 < k) : quarryref10_Depth.f k s a = some ((depAt s a : Nat) : Int) := by
  unfold quarryref10_Depth.f depAt
  by_cases h0 : a ≤ 0
  · rw [if_pos h0, show min a.toNat s.size = 0 by omega]
    rfl
  · have hl : ((((List.range (s.size + 1)).map (depI s)).length : Nat) : Int) = (s.size : Int) + 1 := by simp
    rw [if_neg h0, depths_eq s hn k hk, Option.bind_some]
    by_cases h1 : a > (s.size : Int)
    · rw [if_pos h1, if_pos (by omega), if_pos (by rw [hl]; omega), rd_dep s _ (Nat.le_refl _), show min a.toNat s.size = s.size by omega]
      rfl
    · obtain ⟨n, rfl⟩ : ∃ n : Nat, a = (n : Int) := ⟨a.toNat, by omega⟩
      rw [if_neg h1, if_pos (by omega), if_pos (by rw [hl]; omega), rd_dep s _ (by omega), Int.toNat_natCast, show min n s.size = n by omega]
      rfl
theorem refclose_loop (s : ByteArray) (hn : s.size ≤ 1048576) (a : Nat) (ha : a < s.size) : ∀ (m i k : Nat), i + m = s.size → m < k →
    quarryref10_Close.l0 k s (a : Int) ((List.range s.size).map (outq s)) ((List.range (s.size + 1)).map (depI s)) (i : Int) = some (if firstQ (closq s a) m i < s.size then ((firstQ (closq s a) m i : Nat) : Int) else -1) := by
  intro m
  induction m with
  | zero =>
    intro i k hi hk
    obtain ⟨k, rfl⟩ : ∃ j, k = j + 1 := ⟨k - 1, by omega⟩
    rw [quarryref10_Close.l0, if_neg (by omega), firstQ, if_neg (by omega)]
  | succ m ih =>
    intro i k hi hk
    obtain ⟨k, rfl⟩ : ∃ j, k = j + 1 := ⟨k - 1, by omega⟩
    have hlt : i < s.size := by omega
    have hl : ((((List.range s.size).map (outq s)).length : Nat) : Int) = (s.size : Int) := by simp
    have hl2 : ((((List.range (s.size + 1)).map (depI s)).length : Nat) : Int) = (s.size : Int) + 1 := by simp
    have hj := ih (i + 1) k (by omega) (by omega)
    have hcl := cl_out s i
    have hda := dep_le s a
    have hw : wrap64 (depI s a + 1) = depI s a + 1 := by unfold depI wrap64; omega
    rw [quarryref10_Close.l0, if_pos (by omega), if_pos (by omega), if_pos (by rw [hl]; omega), rdB s _ i hlt, w10 (by omega) hn]
    have hfF : closq s a i = false → firstQ (closq s a) (m + 1) i = firstQ (closq s a) m (i + 1) := fun h => by rw [firstQ, h, if_neg (by decide)]
    have hfT : closq s a i = true → firstQ (closq s a) (m + 1) i = i := fun h => by rw [firstQ, h, if_pos rfl]
    by_cases ho : outq s i = true
    · rw [if_pos ho, closes_eq, Option.bind_some]
      rw [ho, Bool.true_and] at hcl
      rw [hcl]
      cases hc : clS s i with
      | true =>
        rw [if_pos rfl, if_pos (by rw [hl2]; omega), if_pos (by omega), if_pos (by rw [hl2]; omega), rd_dep s i (by omega), rd_dep s a (by omega), hw]
        by_cases hd : dep s i = dep s a + 1
        · have hq : closq s a i = true := by unfold closq; rw [hc, decide_eq_true hd]; rfl
          rw [if_pos (by unfold depI; omega), hfT hq, if_pos hlt]
        · have hq : closq s a i = false := by unfold closq; rw [decide_eq_false hd, Bool.and_false]
          rw [if_neg (by unfold depI; omega), hfF hq]
          exact hj
      | false =>
        have hq : closq s a i = false := by unfold closq; rw [hc]; rfl
        rw [if_neg (by decide), hfF hq]
        exact hj
    · have ho : outq s i = false := by simpa using ho
      rw [ho, Bool.false_and] at hcl
      have hq : closq s a i = false := by unfold closq; rw [← hcl]; rfl
      rw [ho, if_neg (by decide), hfF hq]
      exact hj
theorem refclose_eq (s : ByteArray) (hn : s.size ≤ 1048576) (a : Int) (k : Nat) (hk : 2 * s.size + 3 < k) : quarryref10_Close.f k s a = some (if 0 ≤ a ∧ a < (s.size : Int) ∧ opS s a.toNat = true then closI s a.toNat else -1) := by
  obtain ⟨k, rfl⟩ : ∃ j, k = j + 1 := ⟨k - 1, by omega⟩
  have hl : ((((List.range s.size).map (outq s)).length : Nat) : Int) = (s.size : Int) := by simp
  unfold quarryref10_Close.f
  rw [outside_eq s hn (k + 1) (by omega), Option.bind_some, depths_eq s hn (k + 1) (by omega), Option.bind_some]
  by_cases h0 : a < 0
  · rw [if_pos h0, quarryref10_Close.j0, if_pos rfl, if_neg (by omega)]
  · rw [if_neg h0]
    by_cases h1 : a ≥ (s.size : Int)
    · rw [if_pos h1, quarryref10_Close.j0, if_pos rfl, if_neg (by omega)]
    · obtain ⟨n, rfl⟩ : ∃ n : Nat, a = (n : Int) := ⟨a.toNat, by omega⟩
      have hlt : n < s.size := by omega
      have hop := op_out s n
      rw [if_neg h1, if_pos (by omega), if_pos (by rw [hl]; omega), rdB s _ n hlt, Int.toNat_natCast]
      by_cases ho : outq s n = true
      · rw [if_pos ho, if_pos (by omega), opens_eq, Option.bind_some]
        rw [ho, Bool.true_and] at hop
        rw [hop]
        cases hq : opS s n with
        | true =>
          rw [Bool.not_true, quarryref10_Close.j0, if_neg (by decide), w10 (n := s.size) (by omega) hn, if_pos ⟨by omega, by omega, rfl⟩]
          exact refclose_loop s hn n hlt (s.size - (n + 1)) (n + 1) k (by omega) (by omega)
        | false =>
          rw [Bool.not_false, quarryref10_Close.j0, if_pos rfl, if_neg (fun h => by have := h.2.2; cases this)]
      · have ho : outq s n = false := by simpa using ho
        rw [ho, Bool.false_and] at hop
        rw [ho, if_neg (by decide), quarryref10_Close.j0, if_pos rfl, ← hop, if_neg (fun h => by have := h.2.2; cases this)]
theorem LevelsDepth (s : ByteArray) (a : Int) (hn : s.size ≤ 1048576) (_ : (Lit.int .i64 a).wf = true) : ∃ k, quarrylaw10_LevelsDepth.f k s a = some true := by
  refine ⟨2 * s.size + 300, ?_⟩
  unfold quarrylaw10_LevelsDepth.f
  rw [depth_eq s hn, Option.bind_some, refdepth_eq s hn a _ (by omega), Option.bind_some, if_pos rfl, close_eq s hn a (2 * s.size + 298), Option.bind_some, refclose_eq s hn a _ (by omega), Option.bind_some, if_pos rfl,
    awake10 (2 * s.size + 300) (by omega), Option.bind_some]

end Go.Proofs.YtgddljealeklkaaDoor.Pure
end
namespace Go.Proofs.YtgddljealeklkaaDoor.levelsDepth
open Go.ChangeShapes Go.WideShapes Go.ChangeAt Go.RowKit
open Go.ChangeMaps (open_string shut_string)
set_option linter.unusedVariables false
set_option linter.unusedSimpArgs false
theorem own : ownKnob Tryd.prog.godebug = none := by kernel_rfl
theorem gTab : Tryd.prog.globalNamed "math/bits.deBruijn64tab" = some 0 := by kernel_rfl
theorem gTabType : (Tryd.prog.globals[0]?).map (·.type) = some 85 := by kernel_rfl
theorem cellsTab : Tryd.prog.cellsOf 85 = 64 := by kernel_rfl
theorem cellsByte : Tryd.prog.cellsOf 5 = 1 := by kernel_rfl
def tabZ : List Int := [0, 1, 56, 2, 57, 49, 28, 3, 61, 58, 42, 50, 38, 29, 17, 4, 62, 47, 59, 36, 45, 43, 51, 22, 53, 39, 33, 30, 24, 18, 12, 5, 63, 55, 48, 27, 60, 41, 37, 16, 46, 35, 44, 21, 52, 32, 23, 11, 54, 26, 40, 15, 34, 20, 31, 10, 25, 14, 19, 9, 13, 8, 7, 6]
theorem table {W : World} (h : laidMetH Tryd.prog Rows.levelsDepthUptoRow.laid W) : Lib.TabIs Tryd.prog W "math/bits.deBruijn64tab" .u8 tabZ :=
  Lib.tabIs_of_head (rest := []) gTab gTabType Tryd.underlying85 Tryd.underlying5 cellsByte cellsTab h
theorem tab_eq : ∀ j, j < 64 → tabZ.getD j 0 = ((Lib.deBruijn64tab.getD j 0 : Nat) : Int) := by decide
theorem tabOk {W : World} (h : laidMetH Tryd.prog Rows.levelsDepthUptoRow.laid W) : Go.Proofs.YtgddljealeklkaaDoorM.TabOk W := ⟨fun j hj => by
  have h64 : j < 64 := hj
  rw [(table h).cell gTab j h64, tab_eq j h64]⟩
noncomputable def laidWorld (os : Os) : World :=
  { World.holding Tryd.prog os ⟨#[], #[], []⟩ with heap := (World.holding Tryd.prog os ⟨#[], #[], []⟩).heap.modify 0 fun
      | .cells _ t frozen => .cells #[.int .u8 0, .int .u8 1, .int .u8 56, .int .u8 2, .int .u8 57, .int .u8 49, .int .u8 28, .int .u8 3, .int .u8 61, .int .u8 58, .int .u8 42, .int .u8 50, .int .u8 38, .int .u8 29, .int .u8 17, .int .u8 4, .int .u8 62, .int .u8 47, .int .u8 59, .int .u8 36, .int .u8 45, .int .u8 43, .int .u8 51, .int .u8 22, .int .u8 53, .int .u8 39, .int .u8 33, .int .u8 30, .int .u8 24, .int .u8 18, .int .u8 12, .int .u8 5, .int .u8 63, .int .u8 55, .int .u8 48, .int .u8 27, .int .u8 60, .int .u8 41, .int .u8 37, .int .u8 16, .int .u8 46, .int .u8 35, .int .u8 44, .int .u8 21, .int .u8 52, .int .u8 32, .int .u8 23, .int .u8 11, .int .u8 54, .int .u8 26, .int .u8 40, .int .u8 15, .int .u8 34, .int .u8 20, .int .u8 31, .int .u8 10, .int .u8 25, .int .u8 14, .int .u8 19, .int .u8 9, .int .u8 13, .int .u8 8, .int .u8 7, .int .u8 6] t frozen
      | o => o }
theorem laid_met (os : Os) : laidMet Tryd.prog Rows.levelsDepthUptoRow.laid ((laidWorld os).forCall (fun _ _ => 0) ⟨#[], #[.string ByteArray.empty, .int .i64 0], []⟩).memory :=
  laidMet_of_run' 8 (by kernel_rfl) (by kernel_rfl)
theorem reads (os : Os) {H : Type} (enc : TypeId × Value → H) : ∃ places, DataW.whole enc Tryd.prog ((laidWorld os).forCall (fun _ _ => 0) ⟨#[], #[.string ByteArray.empty, .int .i64 0], []⟩).memory Tryd.f8.params.toList Rows.levelsDepthSpec.vars false (#[.string ByteArray.empty, .int .i64 0] : Array Value).toList 8 = some ([.lit (.string []), .lit (.int .i64 0)], [], places) :=
  ⟨[], by kernel_rfl⟩
set_option maxRecDepth 100000 in
theorem lifted (os : Os) (started : os.Started) (H : Type) (enc : TypeId × Value → H) (F : Stop.Interp) :
    ReturnsInHanded {} Tryd.checked os 8 .any ((Rows.OpenSpec.upto Rows.levelsDepthSpec).preRow enc Tryd.prog Tryd.f8 Rows.levelsDepthUptoRow.domain false Rows.levelsDepthUptoRow.laid) (((Rows.OpenSpec.upto Rows.levelsDepthSpec).at F).post enc Tryd.prog Tryd.f8 false true false false) := by
  obtain ⟨places, hx⟩ := reads os enc
  refine returnsInHanded_of_row (C := Tryd.checked) (s := Rows.OpenSpec.upto Rows.levelsDepthSpec) own started (by kernel_rfl) Tryd.func8
    (witness_row_at (enc := enc) (C := Tryd.checked) false (laidWorld os) #[.string ByteArray.empty, .int .i64 0] rfl (by kernel_rfl) (by kernel_rfl) (by kernel_rfl)
      (OpenSpec.preRow_of_cond 8 hx (by kernel_rfl) (fun k hk => by cases hk; kernel_rfl) (by kernel_rfl) (laid_met os))) ?_
  intro W base args ds gs before hval0 hW hcnd hk0 hsz0 hL _ _
  have hsz : (DataW.weightsEach Tryd.prog (Tryd.f8.params.toList ++ Rows.levelsDepthSpec.plain.varTypes Tryd.prog) (ds ++ gs)).all (· ≤ reachBytes) = true := hsz0
  have hval : ∀ (j : Nat) t v, Tryd.f8.params[j]? = some t → args[j]? = some v → Value.okWide Tryd.prog W .any base t v := hval0
  have hW' := hW
  obtain ⟨p, q, hA0, hV, rfl, hfz, hnd⟩ := hW
  have hA : DataW.TrodAll enc Tryd.prog W 0 (fun _ => true) true Tryd.f8.params.toList args.toList ds p := hA0
  rw [Tryd.params8] at hA hval hsz
  obtain ⟨v0, vs0, d0, ds0, p0, q0, hargs, rfl, rfl, h0, r0⟩ := trodAll_cons hA
  obtain ⟨v1, vs1, d1, ds1, p1, q1, rfl, rfl, rfl, h1, r1⟩ := trodAll_cons r0
  obtain ⟨rfl, rfl, rfl⟩ := trodAll_nil r1
  obtain rfl : args = #[v0, v1] := by cases args; simp_all
  obtain ⟨rfl, rfl⟩ := trodVars_none hV
  obtain ⟨a0, rfl, rfl, rfl, y0⟩ := open_string Tryd.underlying9 (hval 0 9 v0 rfl rfl) h0
  have w0 : a0.size ≤ 140737488351232 := by
    have z := sized_string hsz (j := 0) (t := 9) rfl rfl
    rw [Array.length_toList] at z
    exact z
  obtain ⟨a1, rfl, rfl, rfl, w1⟩ := open_int Tryd.underlying3 (hval 1 3 v1 rfl rfl) h1
  clear hA0 hval0 hsz0 hsz
  have hk1 : Rows.uptoBulkAll _ ≤ 1048576 := of_decide_eq_true (hk0 _ rfl)
  simp only [Rows.uptoBulkAll, Rows.uptoBulk, List.append_nil, List.nil_append, List.cons_append] at hk1
  have e0_ : a0.data.toList.length = a0.size := by rw [Array.length_toList]; rfl
  have s0_ : a0.size ≤ 1048576 := by omega
  obtain ⟨k, hk⟩ := Pure.LevelsDepth a0 a1 s0_ w1
  refine (PL.quarrylaw10_LevelsDepth.calls k a0 a1 true W (tabOk hL) hk).mono fun e W' ⟨he, bel⟩ => ?_
  subst he
  exact ⟨_, rfl, _, _, _, [], _, [], hW', trodAll_mk1 (shut_bool Tryd.underlying4 _), (trodAll_cons_mk (shut_string Tryd.underlying9 y0) (trodAll_cons_mk (shut_int Tryd.underlying3 w1) trodAll_mk0)), rfl, bel.frame _, fun h => by cases h⟩
theorem over : Rows.levelsDepthUptoRow.holds Tryd.pinned (Rows.OpenSpec.upto Rows.levelsDepthSpec) :=
  OpenClaim.holds_of_cond 8 Tryd.f8 rfl rfl rfl rfl rfl rfl rfl ⟨rfl, rfl, rfl, rfl, rfl⟩ rfl rfl rfl rfl rfl (by kernel_rfl) Tryd.func8 (by kernel_rfl)
    (of_decide_eq_true (by kernel_rfl)) (by unfold Func.isWrapper; first | (rw [if_pos (by decide +kernel)]; kernel_rfl) | (rw [if_neg (by decide +kernel)]; exact ⟨rfl, rfl⟩))
    (fun os started H enc _ F => by rw [OpenClaim.pre_eq_preRow]; exact lifted os started H enc F)
theorem said : Rows.LevelsDepthUptoSaid := over
theorem plain (f : FuncId) (fn : Func) (hf : Tryd.pinned.checked.prog.funcNamed "quarry/quarrylaw10.LevelsDepth" = some f) (hfn : Tryd.pinned.checked.prog.funcs[f]? = some fn) :
    false = Tryd.pinned.checked.prog.looks [] ∧ ∀ (j : Nat) t, fn.params[j]? = some t → Tryd.pinned.checked.prog.wantsStandIn t = false := by
  obtain rfl : f = 8 := Option.some.inj ((show Tryd.prog.funcNamed "quarry/quarrylaw10.LevelsDepth" = some 8 by kernel_rfl).symm.trans hf) |>.symm
  obtain rfl : fn = Tryd.f8 := (Option.some.inj (Tryd.func8.symm.trans hfn)).symm
  refine ⟨by kernel_rfl, fun j t ht => ?_⟩
  rw [Tryd.params8] at ht
  have hm := Array.mem_of_getElem? ht
  simp only [List.mem_toArray, List.mem_cons, List.not_mem_nil, or_false] at hm
  rcases hm with rfl | rfl
  · exact (show Tryd.prog.wantsStandIn 9 = false by kernel_rfl)
  · exact (show Tryd.prog.wantsStandIn 3 = false by kernel_rfl)
theorem card : Rows.LevelsDepthUptoCardSaid :=
  Claim7.holds_tied_plain_at .later [] _ _ _ _ said (fun _ h => by cases h) (by kernel_rfl) (fun _ h => by cases h) levelsDepthUpto_row_tie rfl ⟨rfl, rfl⟩ (by kernel_rfl) rfl plain (by kernel_rfl)
#print axioms card
end Go.Proofs.YtgddljealeklkaaDoor.levelsDepth
namespace Go.Proofs.YtgddljealeklkaaDoor
/-- The card, under a short name, for the claim. -/
theorem levelsDepth_holds : Rows.LevelsDepthUptoCardSaid := levelsDepth.card
end Go.Proofs.YtgddljealeklkaaDoor
