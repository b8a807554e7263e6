-- Written by a program (myprint.py, over the kit's print) for this claim. Not trusted: Lean checks it.
import Derived.Test.YtadcgjmhhodnoaaDoorMh
import Derived.Test.YtadcgjmhhodnoaaDoorPTx0
import Derived.Test.YtadcgjmhhodnoaaDoorPTx1
import Derived.Test.YtadcgjmhhodnoaaDoorPTx2
import Derived.Test.YtadcgjmhhodnoaaDoorPTx4
import Derived.Test.YtadcgjmhhodnoaaDoorPTx5
-- Written by a program (myprint.py, over the kit's print) for this claim. Not trusted: Lean checks it.
namespace Go.Proofs.YtadcgjmhhodnoaaDoor.PT
open Go.Proofs.YtadcgjmhhodnoaaDoorM (TabOk)
open Go.RowKit Go.Proofs.YtadcgjmhhodnoaaDoorW.PrintWords Go.Proofs.YtadcgjmhhodnoaaDoorW.PrintLast Go.Proofs.YtadcgjmhhodnoaaDoorW.PrintMore
attribute [local go_sem] max2_int min2_int max_two min_two max_three min_three max_four min_four   -- for this text's walks alone
set_option linter.unusedVariables false
set_option linter.unusedSimpArgs false

/-! ### bitmap_Next: function 47 -/
def bitmap_Next.j0 : Nat → Int → Bool → Int → List Int → Option (Int)
  | 0, _, _, _, _ => none
  | k + 1, x1, x13, x148000, x148001 => if x13 = true then (some (-1)) else ((bitmap_below.f k x148000 x148001 (mx x1 0)).bind fun t149 => ((bitmap_Select.f k x148000 x148001 t149).bind fun t150 => (some t150)))
def bitmap_Next.f (k : Nat) (a0_0 : Int) (l0_1 : List Int) (a1 : Int) : Option (Int) := (bitmap_Formed.f a0_0 l0_1).bind fun t148 => (if t148 = true then (bitmap_Next.j0 k a1 (decide (a1 ≥ a0_0)) a0_0 l0_1) else (bitmap_Next.j0 k a1 true a0_0 l0_1))
theorem bitmap_Next.mono_l : ∀ k, (∀ y0 y1 y2 y3, LeO (bitmap_Next.j0 k y0 y1 y2 y3) (bitmap_Next.j0 (k + 1) y0 y1 y2 y3))
  | 0 => fun _ _ _ _ r h => by simp [bitmap_Next.j0] at h
  | k + 1 => by
    have ih0 := bitmap_Next.mono_l k
    · intro y0 y1 y2 y3
      unfold bitmap_Next.j0
      repeat' first
      | (with_reducible exact ih0 _ _ _ _)
      | (with_reducible exact bitmap_Select.mono _ _ _ _)
      | (with_reducible exact bitmap_below.mono _ _ _ _)
      | (with_reducible exact LeO.refl _)
      | (with_reducible exact LeO.none _)
      | (with_reducible refine LeO.ite ?_ ?_)
      | (with_reducible refine LeO.bind ?_ (fun _ => ?_))
      | exact ih0 _ _ _ _
      | exact bitmap_Select.mono _ _ _ _
      | exact bitmap_below.mono _ _ _ _
      | exact LeO.none _
      | refine LeO.ite ?_ ?_
      | refine LeO.bind ?_ (fun _ => ?_)
theorem bitmap_Next.mono : ∀ a0 a1 a2 k, LeO (bitmap_Next.f k a0 a1 a2) (bitmap_Next.f (k + 1) a0 a1 a2) := by
  intro a0 a1 a2 k
  have ih0 := bitmap_Next.mono_l k
  unfold bitmap_Next.f
  repeat' first
      | (with_reducible exact ih0 _ _ _ _)
      | (with_reducible exact bitmap_Select.mono _ _ _ _)
      | (with_reducible exact bitmap_below.mono _ _ _ _)
      | (with_reducible exact LeO.refl _)
      | (with_reducible exact LeO.none _)
      | (with_reducible refine LeO.ite ?_ ?_)
      | (with_reducible refine LeO.bind ?_ (fun _ => ?_))
      | exact ih0 _ _ _ _
      | exact bitmap_Select.mono _ _ _ _
      | exact bitmap_below.mono _ _ _ _
      | exact LeO.none _
      | refine LeO.ite ?_ ?_
      | refine LeO.bind ?_ (fun _ => ?_)
set_option maxHeartbeats 8000000 in
set_option maxRecDepth 100000 in
theorem bitmap_Next.calls (k : Nat) (a0_0 : Int) (A0_1 : Option Addr) (c0_1 : Nat) (l0_1 : List Int) (a1 : Int) (r : Int) (w : World) (hT : TabOk w) (hr0_1 : Kd.C (Kd.int .u64) w A0_1 l0_1.length l0_1) (hc0_1 : l0_1.length ≤ c0_1) (h : bitmap_Next.f k a0_0 l0_1 a1 = some r) :
    Calls Tryd.prog 47 #[.agg #[.int .i64 a0_0, .slice A0_1 l0_1.length c0_1], .int .i64 a1] w fun e w' => e = .returned (.int .i64 r) ∧ Below w.heap.size w w' := by
  have TK_ := Aside0.mk hT
  clear hT
  have hu38 := Tryd.underlying38
  have HR0_1 := Aside0.mk hr0_1
  have HC0_1 := Aside0.mk hc0_1
  clear hr0_1 hc0_1
  have HB := Aside0.mk (Below.refl w.heap.size w)
  have H : ((bitmap_Formed.f a0_0 l0_1).bind fun t148 => (if t148 = true then (bitmap_Next.j0 k a1 (decide (a1 ≥ a0_0)) a0_0 l0_1) else (bitmap_Next.j0 k a1 true a0_0 l0_1))) = some r := h
  clear h
  have HC3 := Aside0.mk H
  clear H
  go_enter Tryd.func47, Tryd.ntmps47
  go_upto_region 1 with (first | ((with_reducible refine gate_dst (N := 2) rfl ?_); refine box_event ?hg (N := 2) ?hd (cs := #[.int .i64 a0_0, .slice A0_1 l0_1.length c0_1]) (t := 38) ?hr ?_; (case hd => rfl); (case hg => rfl); (case hr => first | (go_simp; done) | (go_simp; rfl)); intro gb147 hg w4 hbox hb; have n0_ := Aside0.mk (below_step (by repeat (first | (with_reducible first | exact HB.out | apply below_alloc | apply pw_below_drewN | apply below_drew1) | exact HB.out)) hb); have n1_ := Aside0.mk (hbox); have n2_ := Aside0.mk ((by rw [hg]; exact (below_size (by repeat (first | (with_reducible first | exact HB.out | apply below_alloc | apply pw_below_drewN | apply below_drew1) | exact HB.out))) : w.heap.size ≤ gb147)); have n3_ := Aside0.mk ((by rw [hg]; exact (below_size (by repeat (first | (with_reducible first | exact HB.out | apply below_alloc | apply pw_below_drewN | apply below_drew1) | exact HB.out))) : w.heap.size ≤ gb147)); clear HB; have HB := n0_; have BK147 := n1_; have GW147 := n2_; have GE147 := n3_; clear n0_ n1_ n2_ n3_; clear hb hbox hg))
  (try simp only [Act.put, List.setIfInBounds_toArray, List.set_cons_zero, List.set_cons_succ])
  go_cut [13] (fun v13 wc => ∃ (kq : Nat) (x13_2 : Bool), v13 = .bool x13_2 ∧ Aside0 (bitmap_Next.j0 kq a1 x13_2 a0_0 l0_1 = some r) ∧ Aside0 (kq ≤ k) ∧ Aside0 (wc.heap[gb147]? = some (.cells #[.int .i64 a0_0, (.slice A0_1 l0_1.length c0_1)] 38 (0, 0))) ∧ Aside0 (Below w.heap.size w wc))
  case first =>
    have H := HC3.out
    clear HC3
    replace H := Option.bind_eq_some_iff.mp H
    obtain ⟨t148, A50, H⟩ := H
    replace H : (if t148 = true then (bitmap_Next.j0 k a1 (decide (a1 ≥ a0_0)) a0_0 l0_1) else (bitmap_Next.j0 k a1 true a0_0 l0_1)) = some r := H
    have A5 := Aside0.mk A50
    clear A50
    by_cases c6 : t148 = true
    · subst c6
      have H1 : (bitmap_Next.j0 k a1 (decide (a1 ≥ a0_0)) a0_0 l0_1) = some r := by rw [if_pos rfl] at H; exact H
      clear H
      have H := H1
      clear H1
      have H' := Aside0.mk H
      clear H
      have hcz7_0 : w4.cell? ⟨gb147, 0, none⟩ = some (.int .i64 a0_0) := (blk_cell BK147.out 0).trans rfl
      have hcz7_1 : w4.cell? ⟨gb147, 1, none⟩ = some (.slice A0_1 l0_1.length c0_1) := (blk_cell BK147.out 1).trans rfl
      have hfz7_0 := blk_frozen BK147.out 0
      have hfz7_1 := blk_frozen BK147.out 1
      go_wp2_with (first | ((with_reducible refine gate_callee (f := 70) rfl ?_); refine goesL_ (some 6) rfl rfl Tryd.func70 (by kernel_rfl) rfl #[.agg #[.int .i64 a0_0, .slice A0_1 l0_1.length c0_1]] rfl (by (try simp only [List.map_toArray, List.map_cons, List.map_nil]); first | done | rfl | (simp only [List.length_drop, List.length_take]; rfl)) ?_; (with_reducible refine (bitmap_Formed.calls a0_0 _ _ l0_1 true _ ?side1 ?side2 A5.out).mono ?_); (case side1 => repeat (first | exact (Kd.C_below HR0_1.out HB.out) | (with_reducible refine Kd.C_alloc ?_ _) | (with_reducible refine Kd.C_drewN ?_ _) | (with_reducible refine Kd.C_drew ?_))); (case side2 => exact HC0_1.out); rintro e w8 ⟨rfl, hb⟩; refine ⟨_, rfl, ?_⟩; have n0_ := Aside0.mk (blk_below (g := gb147) (o := .cells #[.int .i64 a0_0, .slice A0_1 l0_1.length c0_1] 38 (0, 0)) (by (with_reducible repeat (first | refine blk_drewN ?_ _ | refine blk_drew ?_ | refine blk_alloc ?_ _)); exact BK147.out) hb); have n1_ := Aside0.mk (below_step (by repeat (first | (with_reducible first | exact HB.out | apply below_alloc | apply pw_below_drewN | apply below_drew1 | refine below_set ?_ GE147.out) | exact HB.out)) hb); clear BK147; clear HB; have BK147 := n0_; have HB := n1_; clear n0_ n1_; (try clear hb); (try clear hb2); (try clear hk); (try clear hi); have hcz9_0 : w8.cell? ⟨gb147, 0, none⟩ = some (.int .i64 a0_0) := (blk_cell BK147.out 0).trans rfl; have hcz9_1 : w8.cell? ⟨gb147, 1, none⟩ = some (.slice A0_1 l0_1.length c0_1) := (blk_cell BK147.out 1).trans rfl; have hfz9_0 := blk_frozen BK147.out 0; have hfz9_1 := blk_frozen BK147.out 1))
      go_meet
      case rel => exact ⟨_, (decide (a1 ≥ a0_0)), (by first | rfl | (simp; done) | (simp [*]; done)), H', ⟨by first | omega | exact Nat.le_refl _⟩, ⟨by (with_reducible repeat (first | refine blk_drewN ?_ _ | refine blk_drew ?_ | refine blk_alloc ?_ _)); exact BK147.out⟩, ⟨by repeat (first | (with_reducible first | exact HB.out | apply below_alloc | apply pw_below_drewN | apply below_drew1 | refine below_set ?_ GE147.out) | exact HB.out)⟩⟩
    · replace c6 := Bool.eq_false_iff.mpr c6
      subst c6
      have H1 : (bitmap_Next.j0 k a1 true a0_0 l0_1) = some r := by rw [if_neg (show ¬ (false = true) by decide)] at H; exact H
      clear H
      have H := H1
      clear H1
      have H' := Aside0.mk H
      clear H
      have hcz10_0 : w4.cell? ⟨gb147, 0, none⟩ = some (.int .i64 a0_0) := (blk_cell BK147.out 0).trans rfl
      have hcz10_1 : w4.cell? ⟨gb147, 1, none⟩ = some (.slice A0_1 l0_1.length c0_1) := (blk_cell BK147.out 1).trans rfl
      have hfz10_0 := blk_frozen BK147.out 0
      have hfz10_1 := blk_frozen BK147.out 1
      go_wp2_with (first | ((with_reducible refine gate_callee (f := 70) rfl ?_); refine goesL_ (some 6) rfl rfl Tryd.func70 (by kernel_rfl) rfl #[.agg #[.int .i64 a0_0, .slice A0_1 l0_1.length c0_1]] rfl (by (try simp only [List.map_toArray, List.map_cons, List.map_nil]); first | done | rfl | (simp only [List.length_drop, List.length_take]; rfl)) ?_; (with_reducible refine (bitmap_Formed.calls a0_0 _ _ l0_1 false _ ?side1 ?side2 A5.out).mono ?_); (case side1 => repeat (first | exact (Kd.C_below HR0_1.out HB.out) | (with_reducible refine Kd.C_alloc ?_ _) | (with_reducible refine Kd.C_drewN ?_ _) | (with_reducible refine Kd.C_drew ?_))); (case side2 => exact HC0_1.out); rintro e w11 ⟨rfl, hb⟩; refine ⟨_, rfl, ?_⟩; have n0_ := Aside0.mk (blk_below (g := gb147) (o := .cells #[.int .i64 a0_0, .slice A0_1 l0_1.length c0_1] 38 (0, 0)) (by (with_reducible repeat (first | refine blk_drewN ?_ _ | refine blk_drew ?_ | refine blk_alloc ?_ _)); exact BK147.out) hb); have n1_ := Aside0.mk (below_step (by repeat (first | (with_reducible first | exact HB.out | apply below_alloc | apply pw_below_drewN | apply below_drew1 | refine below_set ?_ GE147.out) | exact HB.out)) hb); clear BK147; clear HB; have BK147 := n0_; have HB := n1_; clear n0_ n1_; (try clear hb); (try clear hb2); (try clear hk); (try clear hi)))
      go_meet
      case rel => exact ⟨_, (true), (by first | rfl | (simp; done) | (simp [*]; done)), H', ⟨by first | omega | exact Nat.le_refl _⟩, ⟨by (with_reducible repeat (first | refine blk_drewN ?_ _ | refine blk_drew ?_ | refine blk_alloc ?_ _)); exact BK147.out⟩, ⟨by repeat (first | (with_reducible first | exact HB.out | apply below_alloc | apply pw_below_drewN | apply below_drew1 | refine below_set ?_ GE147.out) | exact HB.out)⟩⟩
  case rest =>
    clear HC3
    try clear p2
    try clear c4
    try clear c6
    try clear c7
    try clear hcz10_0
    try clear hcz10_1
    try clear hcz7_0
    try clear hcz7_1
    try clear hcz9_0
    try clear hcz9_1
    try clear hfz10_0
    try clear hfz10_1
    try clear hfz7_0
    try clear hfz7_1
    try clear hfz9_0
    try clear hfz9_1
    obtain ⟨kq, x13_2, rfl, HA, HJ2, BK147, HB⟩ := hcut
    cases kq with
    | zero => exact absurd HA.out (by simp [bitmap_Next.j0])
    | succ kj2 =>
      have H := HA.out
      clear HA
      simp only [bitmap_Next.j0] at H
      by_cases c12 : x13_2 = true
      · subst c12
        have H1 : (some (-1)) = some r := by rw [if_pos rfl] at H; exact H
        clear H
        have H := H1
        clear H1
        obtain rfl := Option.some.inj H
        go_wp2
        go_ret
        exact ⟨by first | rfl | (simp [errW_none, errW_some] <;> rfl) | (simp [*, errW_none, errW_some] <;> rfl), by repeat (first | (with_reducible first | exact HB.out | apply below_alloc | apply pw_below_drewN | apply below_drew1 | refine below_set ?_ GE147.out) | exact HB.out)⟩
      · replace c12 := Bool.eq_false_iff.mpr c12
        subst c12
        have H1 : ((bitmap_below.f kj2 a0_0 l0_1 (mx a1 0)).bind fun t149 => ((bitmap_Select.f kj2 a0_0 l0_1 t149).bind fun t150 => (some t150))) = some r := by rw [if_neg (show ¬ (false = true) by decide)] at H; exact H
        clear H
        have H := H1
        clear H1
        obtain ⟨ji13, hji13⟩ : ∃ j_ : Int, (mx a1 0) = j_ := ⟨_, rfl⟩
        replace H : ((bitmap_below.f kj2 a0_0 l0_1 (ji13)).bind fun t149 => ((bitmap_Select.f kj2 a0_0 l0_1 t149).bind fun t150 => (some t150))) = some r := by first | (rw [hji13] at H; exact H) | (simp only [hji13] at H ⊢; exact H)
        have hji13_ : (if a1 < 0 then 0 else a1) = ji13 := hji13
        replace H := Option.bind_eq_some_iff.mp H
        obtain ⟨t149, A140, H⟩ := H
        replace H : ((bitmap_Select.f kj2 a0_0 l0_1 t149).bind fun t150 => (some t150)) = some r := H
        have A14 := Aside0.mk A140
        clear A140
        replace H := Option.bind_eq_some_iff.mp H
        obtain ⟨t150, A150, H⟩ := H
        replace H : (some t150) = some r := H
        have A15 := Aside0.mk A150
        clear A150
        obtain rfl := Option.some.inj H
        try go_wp2
        have n0_ := Aside0.mk (blk_drew BK147.out)
        have n1_ := Aside0.mk (below_drew1 HB.out)
        clear BK147
        clear HB
        have BK147 := n0_
        have HB := n1_
        clear n0_ n1_
        refine start_ (n := 7) (S := fun w' => w'.cell? ⟨gb147, 0, none⟩ = some (.int .i64 a0_0) ∧ w'.cell? ⟨gb147, 1, none⟩ = some (.slice A0_1 l0_1.length c0_1)) (ds := []) #[false, false, false, false, false, false, false] (by kernel_rfl) rfl rfl ⟨(blk_cell BK147.out 0).trans rfl, (blk_cell BK147.out 1).trans rfl⟩ (fun hHeld => ?_)
        generalize wc.drew = w16 at BK147 HB hHeld ⊢
        refine pure_ (i := 2) (N := some 16) (v := ?_) (a' := ?_) #[false, false, true, false, false, false, false] rfl rfl (by kernel_rfl) (fun _ _ _ h => h) (Or.inl ⟨by rfl, ?_⟩) ?_ ?_
        rotate_left
        · intro w'
          go_simp
          with_reducible rfl
        rotate_left
        · simp only [Act.put, List.setIfInBounds_toArray, List.set_cons_zero, List.set_cons_succ, i64_w, i32_w]
          rfl
        refine pure_ (i := 3) (N := some 17) (v := ?_) (a' := ?_) #[false, false, true, true, false, false, false] rfl rfl (by kernel_rfl) (fun _ _ _ h => h) (Or.inl ⟨by rfl, ?_⟩) ?_ ?_
        rotate_left
        · intro w'
          go_simp
          with_reducible rfl
        rotate_left
        · simp only [Act.put, List.setIfInBounds_toArray, List.set_cons_zero, List.set_cons_succ, i64_w, i32_w]
          rfl
        refine take_ (i := 0) (N := some 14) (v := ?_) (a' := ?_) #[true, false, true, true, false, false, false] rfl rfl (by kernel_rfl) (fun _ _ _ h => h) (Or.inl ⟨by rfl, ?_⟩) hHeld ?_ ?_
        rotate_left
        · rintro w' ⟨s0, s1⟩
          go_simp
          with_reducible rfl
        rotate_left
        · simp only [Act.put, List.setIfInBounds_toArray, List.set_cons_zero, List.set_cons_succ, i64_w, i32_w]
          rfl
        refine take_ (i := 1) (N := some 15) (v := ?_) (a' := ?_) #[true, true, true, true, false, false, false] rfl rfl (by kernel_rfl) (fun _ _ _ h => h) (Or.inl ⟨by rfl, ?_⟩) hHeld ?_ ?_
        rotate_left
        · rintro w' ⟨s0, s1⟩
          go_simp
          with_reducible rfl
        rotate_left
        · simp only [Act.put, List.setIfInBounds_toArray, List.set_cons_zero, List.set_cons_succ, i64_w, i32_w]
          rfl
        refine one_ (i := 4) (N := some 18) #[true, true, true, true, true, false, false] rfl rfl (by kernel_rfl) (by decide) (fun K hK => ?_)
        refine goes_ Tryd.func71 (by kernel_rfl) rfl #[.agg #[.int .i64 a0_0, .slice A0_1 l0_1.length c0_1], .int .i64 ji13] (by rfl) rfl rfl (by (try simp only [List.map_toArray, List.map_cons, List.map_nil]); first | done | (simp only [hji13]; rfl) | rfl | (simp only [List.length_drop, List.length_take]; rfl)) ?_
        with_reducible refine (bitmap_below.calls kj2 a0_0 _ _ l0_1 ji13 t149 _ ?side1 ?side2 A14.out).mono ?_
        (case side1 => repeat (first | exact (Kd.C_below HR0_1.out HB.out) | (with_reducible refine Kd.C_alloc ?_ _) | (with_reducible refine Kd.C_drewN ?_ _) | (with_reducible refine Kd.C_drew ?_)))
        (case side2 => exact HC0_1.out)
        rintro e w17 ⟨rfl, hb⟩
        refine ⟨_, rfl, ?_⟩
        have n0_ := Aside0.mk (blk_below (g := gb147) (o := .cells #[.int .i64 a0_0, .slice A0_1 l0_1.length c0_1] 38 (0, 0)) (by (with_reducible repeat (first | refine blk_drewN ?_ _ | refine blk_drew ?_ | refine blk_alloc ?_ _)); exact BK147.out) hb)
        have n1_ := Aside0.mk (below_step (by repeat (first | (with_reducible first | exact HB.out | apply below_alloc | apply pw_below_drewN | apply below_drew1 | refine below_set ?_ GE147.out) | exact HB.out)) hb)
        clear BK147
        clear HB
        have BK147 := n0_
        have HB := n1_
        clear n0_ n1_
        (try clear hb)
        (try clear hb2)
        (try clear hk)
        (try clear hi)
        refine hK.out _ _ ⟨(blk_cell BK147.out 0).trans rfl, (blk_cell BK147.out 1).trans rfl⟩ (fun hHeld => ?_)
        clear hK K
        refine norm_ (a' := ?_) ?_ ?_
        rotate_left
        · show Act.put _ (some 18) _ = _
          simp only [Act.put, List.setIfInBounds_toArray, List.set_cons_zero, List.set_cons_succ, i64_w, i32_w]
          rfl
        refine one_ (i := 5) (N := some 19) #[true, true, true, true, true, true, false] rfl rfl (by kernel_rfl) (by decide) (fun K hK => ?_)
        refine goes_ Tryd.func77 (by kernel_rfl) rfl #[.agg #[.int .i64 a0_0, .slice A0_1 l0_1.length c0_1], .int .i64 t149] (by rfl) rfl rfl (by (try simp only [List.map_toArray, List.map_cons, List.map_nil]); first | done | rfl | (simp only [List.length_drop, List.length_take]; rfl)) ?_
        with_reducible refine (bitmap_Select.calls kj2 a0_0 _ _ l0_1 t149 t150 _ ?tabk ?side1 ?side2 A15.out).mono ?_
        (case tabk => exact TK_.out.step (by repeat (first | (with_reducible first | exact HB.out | apply below_alloc | apply pw_below_drewN | apply below_drew1 | refine below_set ?_ GE147.out) | exact HB.out)))
        (case side1 => repeat (first | exact (Kd.C_below HR0_1.out HB.out) | (with_reducible refine Kd.C_alloc ?_ _) | (with_reducible refine Kd.C_drewN ?_ _) | (with_reducible refine Kd.C_drew ?_)))
        (case side2 => exact HC0_1.out)
        rintro e w18 ⟨rfl, hb⟩
        refine ⟨_, rfl, ?_⟩
        have n0_ := Aside0.mk (blk_below (g := gb147) (o := .cells #[.int .i64 a0_0, .slice A0_1 l0_1.length c0_1] 38 (0, 0)) (by (with_reducible repeat (first | refine blk_drewN ?_ _ | refine blk_drew ?_ | refine blk_alloc ?_ _)); exact BK147.out) hb)
        have n1_ := Aside0.mk (below_step (by repeat (first | (with_reducible first | exact HB.out | apply below_alloc | apply pw_below_drewN | apply below_drew1 | refine below_set ?_ GE147.out) | exact HB.out)) hb)
        clear BK147
        clear HB
        have BK147 := n0_
        have HB := n1_
        clear n0_ n1_
        (try clear hb)
        (try clear hb2)
        (try clear hk)
        (try clear hi)
        refine hK.out _ _ ⟨(blk_cell BK147.out 0).trans rfl, (blk_cell BK147.out 1).trans rfl⟩ (fun hHeld => ?_)
        clear hK K
        refine norm_ (a' := ?_) ?_ ?_
        rotate_left
        · show Act.put _ (some 19) _ = _
          simp only [Act.put, List.setIfInBounds_toArray, List.set_cons_zero, List.set_cons_succ, i64_w, i32_w]
          rfl
        refine pure_ (i := 6) (N := some 4) (v := ?_) (a' := ?_) #[true, true, true, true, true, true, true] rfl rfl (by kernel_rfl) (fun _ _ _ h => h) (Or.inl ⟨by rfl, ?_⟩) ?_ ?_
        rotate_left
        · intro w'
          go_simp
          with_reducible rfl
        rotate_left
        · simp only [Act.put, List.setIfInBounds_toArray, List.set_cons_zero, List.set_cons_succ, i64_w, i32_w]
          rfl
        refine done_ (by kernel_rfl) ?_
        try go_wp2
        go_ret
        exact ⟨by first | rfl | (simp [errW_none, errW_some] <;> rfl) | (simp only [← hji13]; first | rfl | (simp [errW_none, errW_some] <;> rfl)) | (simp [*, errW_none, errW_some] <;> rfl), by repeat (first | (with_reducible first | exact HB.out | apply below_alloc | apply pw_below_drewN | apply below_drew1 | refine below_set ?_ GE147.out) | exact HB.out)⟩

/-! ### quarryref00_SameTexts: function 48 -/
def quarryref00_SameTexts.l0 : Nat → List ByteArray → List ByteArray → Int → Option (Bool)
  | 0, _, _, _ => none
  | k + 1, x0, x1, x5 => if x5 < (x0.length : Int) then (if 0 ≤ x5 then (if x5 < (x1.length : Int) then (if (rdOf ByteArray.empty x0 x5).toList = (rdOf ByteArray.empty x1 x5).toList then (quarryref00_SameTexts.l0 k x0 x1 (wrap64 (x5 + 1))) else (some false)) else (none)) else (none)) else (some true)
def quarryref00_SameTexts.f (k : Nat) (l0 : List ByteArray) (l1 : List ByteArray) : Option (Bool) := if (l0.length : Int) = (l1.length : Int) then (quarryref00_SameTexts.l0 k l0 l1 0) else (some false)
theorem quarryref00_SameTexts.mono_l : ∀ k, (∀ y0 y1 y2, LeO (quarryref00_SameTexts.l0 k y0 y1 y2) (quarryref00_SameTexts.l0 (k + 1) y0 y1 y2))
  | 0 => fun _ _ _ r h => by simp [quarryref00_SameTexts.l0] at h
  | k + 1 => by
    have ih0 := quarryref00_SameTexts.mono_l k
    · intro y0 y1 y2
      unfold quarryref00_SameTexts.l0
      repeat' first
      | (with_reducible exact ih0 _ _ _)
      | (with_reducible exact LeO.refl _)
      | (with_reducible exact LeO.none _)
      | (with_reducible refine LeO.ite ?_ ?_)
      | (with_reducible refine LeO.bind ?_ (fun _ => ?_))
      | exact ih0 _ _ _
      | exact LeO.none _
      | refine LeO.ite ?_ ?_
      | refine LeO.bind ?_ (fun _ => ?_)
theorem quarryref00_SameTexts.mono : ∀ a0 a1 k, LeO (quarryref00_SameTexts.f k a0 a1) (quarryref00_SameTexts.f (k + 1) a0 a1) := by
  intro a0 a1 k
  have ih0 := quarryref00_SameTexts.mono_l k
  unfold quarryref00_SameTexts.f
  repeat' first
      | (with_reducible exact ih0 _ _ _)
      | (with_reducible exact LeO.refl _)
      | (with_reducible exact LeO.none _)
      | (with_reducible refine LeO.ite ?_ ?_)
      | (with_reducible refine LeO.bind ?_ (fun _ => ?_))
      | exact ih0 _ _ _
      | exact LeO.none _
      | refine LeO.ite ?_ ?_
      | refine LeO.bind ?_ (fun _ => ?_)
set_option maxHeartbeats 8000000 in
set_option maxRecDepth 100000 in
theorem quarryref00_SameTexts.calls (k : Nat) (A0 : Option Addr) (c0 : Nat) (l0 : List ByteArray) (A1 : Option Addr) (c1 : Nat) (l1 : List ByteArray) (r : Bool) (w : World) (hr0 : Kd.C Kd.string w A0 l0.length l0) (hc0 : l0.length ≤ c0) (hr1 : Kd.C Kd.string w A1 l1.length l1) (hc1 : l1.length ≤ c1) (h : quarryref00_SameTexts.f k l0 l1 = some r) :
    Calls Tryd.prog 48 #[.slice A0 l0.length c0, .slice A1 l1.length c1] w fun e w' => e = .returned (.bool r) ∧ Drawn0 w w' := by
  have HR0 := Aside0.mk hr0
  have HC0 := Aside0.mk hc0
  clear hr0 hc0
  have HR1 := Aside0.mk hr1
  have HC1 := Aside0.mk hc1
  clear hr1 hc1
  have H : (if (l0.length : Int) = (l1.length : Int) then (quarryref00_SameTexts.l0 k l0 l1 0) else (some false)) = some r := h
  clear h
  by_cases c3 : (l0.length : Int) = (l1.length : Int)
  · rw [if_pos c3] at H
    have c3b0 : ((l0.length : Int) == (l1.length : Int)) = true := beq_iff_eq.mpr c3
    have c3b1 : ((l0.length : Int) != (l1.length : Int)) = false := bne_eq_false_iff_eq.mpr c3
    have c3b2 : (l0.length == l1.length) = true := by first | simpa using c3 | (simp at c3 ⊢; omega)
    clear c3
    have H' := Aside0.mk H
    clear H
    go_enter Tryd.func48, Tryd.ntmps48
    go_wp2
    repeat (go_quiet (fail); try go_wp2)
    go_loopg [5] k (fun kq v5 w' => ∃ (x5_1 : Int), v5 = .int .i64 x5_1 ∧ Aside0 (quarryref00_SameTexts.l0 kq l0 l1 x5_1 = some r) ∧ Aside0 (kq ≤ k) ∧ Drawn0 w w')
    case atStart => exact ⟨(0), (by first | rfl | (simp; done) | (simp [*]; done)), H', ⟨Nat.le_refl _⟩, by repeat (first | exact Drawn0.refl _ | apply Drawn0.step)⟩
    case round =>
      clear H'
      try clear c1
      try clear p2
      try clear c3
      try clear c3b0
      try clear c3b1
      try clear c3b2
      obtain ⟨x5_1, rfl, HA, HK1, ⟨m1, rfl⟩⟩ := hrel
      cases gk with
      | zero => exact absurd HA.out (by simp [quarryref00_SameTexts.l0])
      | succ k1 =>
        have H := HA.out
        clear HA
        simp only [quarryref00_SameTexts.l0] at H
        by_cases c4 : x5_1 < (l0.length : Int)
        · rw [if_pos c4] at H
          have c4b0 : decide (x5_1 < (l0.length : Int)) = true := decide_eq_true c4
          clear c4
          by_cases c5 : 0 ≤ x5_1
          · rw [if_pos c5] at H
            have c5b0 : decide (0 ≤ x5_1) = true := decide_eq_true c5
            clear c5
            by_cases c6 : x5_1 < (l1.length : Int)
            · rw [if_pos c6] at H
              have c6b0 : decide (x5_1 < (l1.length : Int)) = true := decide_eq_true c6
              clear c6
              by_cases c7 : (rdOf ByteArray.empty l0 x5_1).toList = (rdOf ByteArray.empty l1 x5_1).toList
              · rw [if_pos c7] at H
                have c7b0 : ((rdOf ByteArray.empty l0 x5_1).toList == (rdOf ByteArray.empty l1 x5_1).toList) = true := beq_iff_eq.mpr c7
                have c7b1 : ((rdOf ByteArray.empty l0 x5_1).toList != (rdOf ByteArray.empty l1 x5_1).toList) = false := bne_eq_false_iff_eq.mpr c7
                clear c7
                have H' := Aside0.mk H
                clear H
                have p151 : 0 ≤ (x5_1 : Int) := of_decide_eq_true (by first | (with_reducible assumption) | assumption)
                have q151 : x5_1 < (l0.length : Int) := of_decide_eq_true (by first | (with_reducible assumption) | assumption)
                obtain ⟨ad151, e151, hx151_0⟩ := Kd.at_string HR0.out x5_1 p151 q151
                cases e151
                replace p151 := eq_true p151
                replace q151 := eq_true q151
                have p152 : 0 ≤ (x5_1 : Int) := of_decide_eq_true (by first | (with_reducible assumption) | assumption)
                have q152 : x5_1 < (l1.length : Int) := of_decide_eq_true (by first | (with_reducible assumption) | assumption)
                obtain ⟨ad152, e152, hx152_0⟩ := Kd.at_string HR1.out x5_1 p152 q152
                cases e152
                replace p152 := eq_true p152
                replace q152 := eq_true q152
                go_wp2
                repeat (go_quiet (fail); try go_wp2)
                go_roundg k1
                case measure => have := HK1.out; omega
                case rel => exact ⟨(wrap64 (x5_1 + 1)), (by first | rfl | (simp; done) | (simp [*]; done)), H', ⟨by have := HK1.out; omega⟩, by repeat (first | exact Drawn0.refl _ | apply Drawn0.step)⟩
              · rw [if_neg c7] at H
                have c7b0 : ((rdOf ByteArray.empty l0 x5_1).toList == (rdOf ByteArray.empty l1 x5_1).toList) = false := beq_eq_false_iff_ne.mpr c7
                have c7b1 : ((rdOf ByteArray.empty l0 x5_1).toList != (rdOf ByteArray.empty l1 x5_1).toList) = true := bne_iff_ne.mpr c7
                obtain rfl := Option.some.inj H
                have p151 : 0 ≤ (x5_1 : Int) := of_decide_eq_true (by first | (with_reducible assumption) | assumption)
                have q151 : x5_1 < (l0.length : Int) := of_decide_eq_true (by first | (with_reducible assumption) | assumption)
                obtain ⟨ad151, e151, hx151_0⟩ := Kd.at_string HR0.out x5_1 p151 q151
                cases e151
                replace p151 := eq_true p151
                replace q151 := eq_true q151
                have p152 : 0 ≤ (x5_1 : Int) := of_decide_eq_true (by first | (with_reducible assumption) | assumption)
                have q152 : x5_1 < (l1.length : Int) := of_decide_eq_true (by first | (with_reducible assumption) | assumption)
                obtain ⟨ad152, e152, hx152_0⟩ := Kd.at_string HR1.out x5_1 p152 q152
                cases e152
                replace p152 := eq_true p152
                replace q152 := eq_true q152
                go_wp2
                repeat (go_quiet (fail); try go_wp2)
                go_ret
                exact ⟨by first | rfl | (simp; done) | (simp [*]; done), by repeat (first | exact Drawn0.refl _ | apply Drawn0.step)⟩
            · rw [if_neg c6] at H
              exact absurd H (by simp)
          · rw [if_neg c5] at H
            exact absurd H (by simp)
        · rw [if_neg c4] at H
          have c4b0 : decide (x5_1 < (l0.length : Int)) = false := decide_eq_false c4
          clear c4
          obtain rfl := Option.some.inj H
          go_wp2
          repeat (go_quiet (fail); try go_wp2)
          go_ret
          exact ⟨by first | rfl | (simp; done) | (simp [*]; done), by repeat (first | exact Drawn0.refl _ | apply Drawn0.step)⟩
  · rw [if_neg c3] at H
    have c3b0 : ((l0.length : Int) == (l1.length : Int)) = false := beq_eq_false_iff_ne.mpr c3
    have c3b1 : ((l0.length : Int) != (l1.length : Int)) = true := bne_iff_ne.mpr c3
    have c3b2 : (l0.length == l1.length) = false := by first | simpa using c3 | (simp at c3 ⊢; omega)
    obtain rfl := Option.some.inj H
    go_enter Tryd.func48, Tryd.ntmps48
    go_wp2
    repeat (go_quiet (fail); try go_wp2)
    go_ret
    exact ⟨by first | rfl | (simp; done) | (simp [*]; done), by repeat (first | exact Drawn0.refl _ | apply Drawn0.step)⟩

end Go.Proofs.YtadcgjmhhodnoaaDoor.PT
namespace Go.Proofs.YtadcgjmhhodnoaaDoor.PT
attribute [local go_sem] Go.Proofs.YtadcgjmhhodnoaaDoorM.fieldBits0 Go.Proofs.YtadcgjmhhodnoaaDoorM.fieldBits1
open Go.RowKit Go.Proofs.YtadcgjmhhodnoaaDoorW.PrintWords Go.Proofs.YtadcgjmhhodnoaaDoorW.PrintLast Go.Proofs.YtadcgjmhhodnoaaDoorW.PrintMore
attribute [local go_sem] max2_int min2_int max_two min_two max_three min_three max_four min_four   -- for this text's walks alone
set_option linter.unusedVariables false
set_option linter.unusedSimpArgs false

/-! ### quarrylaw08_MarksTwice: function 13 -/
section
open Go.Proofs.YtadcgjmhhodnoaaDoorQ Go.Proofs.YtadcgjmhhodnoaaDoorM Go.Shelf
open Go.Proofs.YtadcgjmhhodnoaaDoorW.PrintWords
namespace MtF
/-- How many bits of a byte are set. -/
def mt_pcB (x : Nat) : Nat := x % 2 + x / 2 % 2 + x / 4 % 2 + x / 8 % 2 + x / 16 % 2 + x / 32 % 2 + x / 64 % 2 + x / 128 % 2
def mt_dig (a b c d e f g h : Nat) : Nat := a + 256 * (b + 256 * (c + 256 * (d + 256 * (e + 256 * (f + 256 * (g + 256 * h))))))
theorem mt_and_cons (a b c d : Nat) (ha : a < 256) (hc : c < 256) : (a + 256 * b) &&& (c + 256 * d) = (a &&& c) + 256 * (b &&& d) := by
  have h1 : ((a + 256 * b) &&& (c + 256 * d)) % 2 ^ 8 = ((a + 256 * b) % 2 ^ 8) &&& ((c + 256 * d) % 2 ^ 8) := Nat.and_mod_two_pow
  have h2 : ((a + 256 * b) &&& (c + 256 * d)) / 2 ^ 8 = ((a + 256 * b) / 2 ^ 8) &&& ((c + 256 * d) / 2 ^ 8) := Nat.and_div_two_pow
  rw [show (a + 256 * b) % 2 ^ 8 = a by omega, show (c + 256 * d) % 2 ^ 8 = c by omega] at h1
  rw [show (a + 256 * b) / 2 ^ 8 = b by omega, show (c + 256 * d) / 2 ^ 8 = d by omega] at h2
  omega
theorem mt_and_dig (m a b c d e f g h : Nat) (hm : m < 256) (ha : a < 256) (hb : b < 256) (hc : c < 256) (hd : d < 256) (he : e < 256) (hf : f < 256) (hg : g < 256) :
    mt_dig a b c d e f g h &&& mt_dig m m m m m m m m = mt_dig (a &&& m) (b &&& m) (c &&& m) (d &&& m) (e &&& m) (f &&& m) (g &&& m) (h &&& m) := by
  unfold mt_dig
  rw [mt_and_cons _ _ _ _ ha hm, mt_and_cons _ _ _ _ hb hm, mt_and_cons _ _ _ _ hc hm, mt_and_cons _ _ _ _ hd hm, mt_and_cons _ _ _ _ he hm, mt_and_cons _ _ _ _ hf hm, mt_and_cons _ _ _ _ hg hm]
def mt_g1 (x : Nat) : Nat := (x / 2 &&& 85) + (x &&& 85)
def mt_g2 (x : Nat) : Nat := (x / 4 &&& 51) + (x &&& 51)
theorem mt_half_and : ∀ x, x < 256 → ∀ p, p < 2 → (x / 2 + 128 * p) &&& 85 = x / 2 &&& 85 := by decide +kernel
theorem mt_quarter_and : ∀ x, x < 256 → ∀ p, p < 4 → (x / 4 + 64 * p) &&& 51 = x / 4 &&& 51 := by decide +kernel
theorem mt_step1 (a b c d e f g h : Nat) (ha : a < 256) (hb : b < 256) (hc : c < 256) (hd : d < 256) (he : e < 256) (hf : f < 256) (hg : g < 256) (hh : h < 256) :
    (mt_dig a b c d e f g h / 2 &&& 6148914691236517205) + (mt_dig a b c d e f g h &&& 6148914691236517205) = mt_dig (mt_g1 a) (mt_g1 b) (mt_g1 c) (mt_g1 d) (mt_g1 e) (mt_g1 f) (mt_g1 g) (mt_g1 h) := by
  rw [show (6148914691236517205 : Nat) = mt_dig 85 85 85 85 85 85 85 85 by decide]
  have e1 : mt_dig a b c d e f g h / 2 = mt_dig (a / 2 + 128 * (b % 2)) (b / 2 + 128 * (c % 2)) (c / 2 + 128 * (d % 2)) (d / 2 + 128 * (e % 2)) (e / 2 + 128 * (f % 2)) (f / 2 + 128 * (g % 2)) (g / 2 + 128 * (h % 2)) (h / 2 + 128 * 0) := by unfold mt_dig; omega
  rw [e1, mt_and_dig _ _ _ _ _ _ _ _ _ (by decide) (by omega) (by omega) (by omega) (by omega) (by omega) (by omega) (by omega), mt_and_dig _ _ _ _ _ _ _ _ _ (by decide) ha hb hc hd he hf hg,
    mt_half_and a ha _ (by omega), mt_half_and b hb _ (by omega), mt_half_and c hc _ (by omega), mt_half_and d hd _ (by omega), mt_half_and e he _ (by omega), mt_half_and f hf _ (by omega), mt_half_and g hg _ (by omega), mt_half_and h hh _ (by omega)]
  unfold mt_dig mt_g1
  omega
theorem mt_step2 (a b c d e f g h : Nat) (ha : a < 256) (hb : b < 256) (hc : c < 256) (hd : d < 256) (he : e < 256) (hf : f < 256) (hg : g < 256) (hh : h < 256) :
    (mt_dig a b c d e f g h / 4 &&& 3689348814741910323) + (mt_dig a b c d e f g h &&& 3689348814741910323) = mt_dig (mt_g2 a) (mt_g2 b) (mt_g2 c) (mt_g2 d) (mt_g2 e) (mt_g2 f) (mt_g2 g) (mt_g2 h) := by
  rw [show (3689348814741910323 : Nat) = mt_dig 51 51 51 51 51 51 51 51 by decide]
  have e1 : mt_dig a b c d e f g h / 4 = mt_dig (a / 4 + 64 * (b % 4)) (b / 4 + 64 * (c % 4)) (c / 4 + 64 * (d % 4)) (d / 4 + 64 * (e % 4)) (e / 4 + 64 * (f % 4)) (f / 4 + 64 * (g % 4)) (g / 4 + 64 * (h % 4)) (h / 4 + 64 * 0) := by unfold mt_dig; omega
  rw [e1, mt_and_dig _ _ _ _ _ _ _ _ _ (by decide) (by omega) (by omega) (by omega) (by omega) (by omega) (by omega) (by omega), mt_and_dig _ _ _ _ _ _ _ _ _ (by decide) ha hb hc hd he hf hg,
    mt_quarter_and a ha _ (by omega), mt_quarter_and b hb _ (by omega), mt_quarter_and c hc _ (by omega), mt_quarter_and d hd _ (by omega), mt_quarter_and e he _ (by omega), mt_quarter_and f hf _ (by omega), mt_quarter_and g hg _ (by omega), mt_quarter_and h hh _ (by omega)]
  unfold mt_dig mt_g2
  omega
theorem mt_nib : ∀ u, u ≤ 4 → ∀ v, v ≤ 4 → ∀ p, p ≤ 4 → ((16 * u + v) / 16 + 16 * p + (16 * u + v)) &&& 15 = u + v := by decide +kernel
theorem mt_step3 (a b c d e f g h : Nat) (ha : a / 16 ≤ 4 ∧ a % 16 ≤ 4) (hb : b / 16 ≤ 4 ∧ b % 16 ≤ 4) (hc : c / 16 ≤ 4 ∧ c % 16 ≤ 4) (hd : d / 16 ≤ 4 ∧ d % 16 ≤ 4) (he : e / 16 ≤ 4 ∧ e % 16 ≤ 4) (hf : f / 16 ≤ 4 ∧ f % 16 ≤ 4) (hg : g / 16 ≤ 4 ∧ g % 16 ≤ 4) (hh : h / 16 ≤ 4 ∧ h % 16 ≤ 4) :
    (mt_dig a b c d e f g h / 16 + mt_dig a b c d e f g h) &&& 1085102592571150095 = mt_dig (a / 16 + a % 16) (b / 16 + b % 16) (c / 16 + c % 16) (d / 16 + d % 16) (e / 16 + e % 16) (f / 16 + f % 16) (g / 16 + g % 16) (h / 16 + h % 16) := by
  rw [show (1085102592571150095 : Nat) = mt_dig 15 15 15 15 15 15 15 15 by decide]
  have k : ∀ x p, x / 16 ≤ 4 ∧ x % 16 ≤ 4 → p ≤ 4 → (x / 16 + 16 * p + x) &&& 15 = x / 16 + x % 16 := fun x p hx hp => by
    have := mt_nib (x / 16) hx.1 (x % 16) hx.2 p hp
    rwa [show 16 * (x / 16) + x % 16 = x by omega] at this
  have e1 : mt_dig a b c d e f g h / 16 + mt_dig a b c d e f g h = mt_dig (a / 16 + 16 * (b % 16) + a) (b / 16 + 16 * (c % 16) + b) (c / 16 + 16 * (d % 16) + c) (d / 16 + 16 * (e % 16) + d) (e / 16 + 16 * (f % 16) + e) (f / 16 + 16 * (g % 16) + f) (g / 16 + 16 * (h % 16) + g) (h / 16 + 16 * 0 + h) := by unfold mt_dig; omega
  rw [e1, mt_and_dig _ _ _ _ _ _ _ _ _ (by decide) (by omega) (by omega) (by omega) (by omega) (by omega) (by omega) (by omega),
    k a _ ha hb.2, k b _ hb hc.2, k c _ hc hd.2, k d _ hd he.2, k e _ he hf.2, k f _ hf hg.2, k g _ hg hh.2, k h _ hh (by omega)]
theorem mt_nibs : ∀ x, x < 256 → mt_g1 x < 256 ∧ mt_g2 (mt_g1 x) / 16 ≤ 4 ∧ mt_g2 (mt_g1 x) % 16 ≤ 4 ∧ mt_g2 (mt_g1 x) / 16 + mt_g2 (mt_g1 x) % 16 = mt_pcB x ∧ mt_pcB x ≤ 8 := by decide +kernel
theorem mt_step4 (a b c d e f g h : Nat) (ha : a ≤ 8) (hb : b ≤ 8) (hc : c ≤ 8) (hd : d ≤ 8) (he : e ≤ 8) (hf : f ≤ 8) (hg : g ≤ 8) (hh : h ≤ 8) (C D E : Nat) (hC : C = mt_dig a b c d e f g h) (hD : D = C + C / 256) (hE : E = D + D / 65536) :
    D < 18446744073709551616 ∧ E < 18446744073709551616 ∧ E + E / 4294967296 < 9223372036854775808 ∧ (E + E / 4294967296) % 128 = a + b + c + d + e + f + g + h := by
  have h1 : C / 256 = mt_dig b c d e f g h 0 := by rw [hC]; unfold mt_dig; omega
  have hD' : D = mt_dig (a + b) (b + c) (c + d) (d + e) (e + f) (f + g) (g + h) h := by rw [hD, h1, hC]; unfold mt_dig; omega
  clear hD h1 hC
  have h2 : D / 65536 = mt_dig (c + d) (d + e) (e + f) (f + g) (g + h) h 0 0 := by rw [hD']; unfold mt_dig; omega
  have hE' : E = mt_dig (a + b + c + d) (b + c + d + e) (c + d + e + f) (d + e + f + g) (e + f + g + h) (f + g + h) (g + h) h := by rw [hE, h2, hD']; unfold mt_dig; omega
  clear hE h2
  have h3 : E / 4294967296 = mt_dig (e + f + g + h) (f + g + h) (g + h) h 0 0 0 0 := by rw [hE']; unfold mt_dig; omega
  have hF : E + E / 4294967296 = mt_dig (a + b + c + d + (e + f + g + h)) (b + c + d + e + (f + g + h)) (c + d + e + f + (g + h)) (d + e + f + g + h) (e + f + g + h) (f + g + h) (g + h) h := by rw [h3, hE']; unfold mt_dig; omega
  refine ⟨by rw [hD']; unfold mt_dig; omega, by rw [hE']; unfold mt_dig; omega, by rw [hF]; unfold mt_dig; omega, ?_⟩
  rw [hF]
  unfold mt_dig
  omega
def mt_cnt (q : Nat → Bool) : Nat → Nat
  | 0 => 0
  | n + 1 => mt_cnt q n + (q n).toNat
theorem mt_bit_nat (N i : Nat) : (N.testBit i).toNat = N / 2 ^ i % 2 := by
  rw [Nat.testBit_eq_decide_div_mod_eq]
  by_cases h : N / 2 ^ i % 2 = 1
  · rw [decide_eq_true h, h]; rfl
  · rw [decide_eq_false h]
    show 0 = _
    omega
theorem mt_cnt_byte (N k : Nat) : mt_cnt (fun i => N.testBit i) (8 * (k + 1)) = mt_cnt (fun i => N.testBit i) (8 * k) + mt_pcB (N / 256 ^ k % 256) := by
  have h : ∀ j, N / 2 ^ (8 * k + j) = N / 256 ^ k / 2 ^ j := fun j => by
    rw [Nat.pow_add, Nat.pow_mul, Nat.div_div_eq_div_mul]
  rw [show 8 * (k + 1) = 8 * k + 7 + 1 by omega]
  simp only [mt_cnt, mt_bit_nat]
  rw [h 7, h 6, h 5, h 4, h 3, h 2, h 1, show 8 * k = 8 * k + 0 by omega, h 0]
  unfold mt_pcB
  generalize N / 256 ^ k = y
  omega
theorem mt_dig_of (N : Nat) (h : N < 18446744073709551616) : N = mt_dig (N % 256) (N / 256 % 256) (N / 65536 % 256) (N / 16777216 % 256) (N / 4294967296 % 256) (N / 1099511627776 % 256) (N / 281474976710656 % 256) (N / 72057594037927936 % 256) := by
  unfold mt_dig
  omega
theorem mt_dig_lt (a b c d e f g h : Nat) (ha : a < 256) (hb : b < 256) (hc : c < 256) (hd : d < 256) (he : e < 256) (hf : f < 256) (hg : g < 256) (hh : h < 256) : mt_dig a b c d e f g h < 18446744073709551616 := by
  unfold mt_dig
  omega
set_option maxHeartbeats 4000000 in
/-- The sum of the bits, as it is reckoned. -/
theorem mt_pop_nat (N a b c d e : Nat) (hN : N < 18446744073709551616)
    (ha : a = (N / 2 &&& 6148914691236517205) + (N &&& 6148914691236517205))
    (hb : b = (a / 4 &&& 3689348814741910323) + (a &&& 3689348814741910323))
    (hc : c = (b / 16 + b) &&& 1085102592571150095)
    (hd : d = c + c / 256) (he : e = d + d / 65536) :
    a < 18446744073709551616 ∧ b < 18446744073709551616 ∧ b / 16 + b < 18446744073709551616 ∧ c < 18446744073709551616 ∧ d < 18446744073709551616 ∧ e < 18446744073709551616 ∧ e + e / 4294967296 < 9223372036854775808 ∧ (e + e / 4294967296) % 128 = mt_cnt (fun i => N.testBit i) 64 := by
  have l0 : N % 256 < 256 := by omega
  have l1 : N / 256 % 256 < 256 := by omega
  have l2 : N / 65536 % 256 < 256 := by omega
  have l3 : N / 16777216 % 256 < 256 := by omega
  have l4 : N / 4294967296 % 256 < 256 := by omega
  have l5 : N / 1099511627776 % 256 < 256 := by omega
  have l6 : N / 281474976710656 % 256 < 256 := by omega
  have l7 : N / 72057594037927936 % 256 < 256 := by omega
  have hcnt : mt_cnt (fun i => N.testBit i) 64 = mt_pcB (N % 256) + mt_pcB (N / 256 % 256) + mt_pcB (N / 65536 % 256) + mt_pcB (N / 16777216 % 256) + mt_pcB (N / 4294967296 % 256) + mt_pcB (N / 1099511627776 % 256) + mt_pcB (N / 281474976710656 % 256) + mt_pcB (N / 72057594037927936 % 256) := by
    have h0 := mt_cnt_byte N 0
    have h1 := mt_cnt_byte N 1
    have h2 := mt_cnt_byte N 2
    have h3 := mt_cnt_byte N 3
    have h4 := mt_cnt_byte N 4
    have h5 := mt_cnt_byte N 5
    have h6 := mt_cnt_byte N 6
    have h7 := mt_cnt_byte N 7
    simp only [Nat.reduceMul, Nat.reduceAdd, Nat.reducePow, Nat.div_one] at h0 h1 h2 h3 h4 h5 h6 h7
    have z : mt_cnt (fun i => N.testBit i) 0 = 0 := rfl
    omega
  have hNd := mt_dig_of N hN
  rw [hcnt]
  generalize N % 256 = x0 at *
  generalize N / 256 % 256 = x1 at *
  generalize N / 65536 % 256 = x2 at *
  generalize N / 16777216 % 256 = x3 at *
  generalize N / 4294967296 % 256 = x4 at *
  generalize N / 1099511627776 % 256 = x5 at *
  generalize N / 281474976710656 % 256 = x6 at *
  generalize N / 72057594037927936 % 256 = x7 at *
  obtain ⟨p0, q0, r0, s0, t0⟩ := mt_nibs x0 l0
  obtain ⟨p1, q1, r1, s1, t1⟩ := mt_nibs x1 l1
  obtain ⟨p2, q2, r2, s2, t2⟩ := mt_nibs x2 l2
  obtain ⟨p3, q3, r3, s3, t3⟩ := mt_nibs x3 l3
  obtain ⟨p4, q4, r4, s4, t4⟩ := mt_nibs x4 l4
  obtain ⟨p5, q5, r5, s5, t5⟩ := mt_nibs x5 l5
  obtain ⟨p6, q6, r6, s6, t6⟩ := mt_nibs x6 l6
  obtain ⟨p7, q7, r7, s7, t7⟩ := mt_nibs x7 l7
  rw [hNd, mt_step1 _ _ _ _ _ _ _ _ l0 l1 l2 l3 l4 l5 l6 l7] at ha
  have la := mt_dig_lt _ _ _ _ _ _ _ _ p0 p1 p2 p3 p4 p5 p6 p7
  rw [ha, mt_step2 _ _ _ _ _ _ _ _ p0 p1 p2 p3 p4 p5 p6 p7] at hb
  have m : ∀ y, y / 16 ≤ 4 ∧ y % 16 ≤ 4 → y < 69 := fun y hy => by omega
  have lb := mt_dig_lt _ _ _ _ _ _ _ _ (Nat.lt_trans (m _ ⟨q0, r0⟩) (by decide)) (Nat.lt_trans (m _ ⟨q1, r1⟩) (by decide)) (Nat.lt_trans (m _ ⟨q2, r2⟩) (by decide)) (Nat.lt_trans (m _ ⟨q3, r3⟩) (by decide)) (Nat.lt_trans (m _ ⟨q4, r4⟩) (by decide)) (Nat.lt_trans (m _ ⟨q5, r5⟩) (by decide)) (Nat.lt_trans (m _ ⟨q6, r6⟩) (by decide)) (Nat.lt_trans (m _ ⟨q7, r7⟩) (by decide))
  have lb2 : b / 16 + b < 18446744073709551616 := by
    have k : b < 69 * 72057594037927936 := by
      have k0 := m _ ⟨q0, r0⟩
      have k1 := m _ ⟨q1, r1⟩
      have k2 := m _ ⟨q2, r2⟩
      have k3 := m _ ⟨q3, r3⟩
      have k4 := m _ ⟨q4, r4⟩
      have k5 := m _ ⟨q5, r5⟩
      have k6 := m _ ⟨q6, r6⟩
      have k7 := m _ ⟨q7, r7⟩
      rw [hb]
      unfold mt_dig
      omega
    omega
  rw [hb] at lb2
  rw [hb, mt_step3 _ _ _ _ _ _ _ _ ⟨q0, r0⟩ ⟨q1, r1⟩ ⟨q2, r2⟩ ⟨q3, r3⟩ ⟨q4, r4⟩ ⟨q5, r5⟩ ⟨q6, r6⟩ ⟨q7, r7⟩, s0, s1, s2, s3, s4, s5, s6, s7] at hc
  have lc := mt_dig_lt _ _ _ _ _ _ _ _ (Nat.lt_of_le_of_lt t0 (by decide)) (Nat.lt_of_le_of_lt t1 (by decide)) (Nat.lt_of_le_of_lt t2 (by decide)) (Nat.lt_of_le_of_lt t3 (by decide)) (Nat.lt_of_le_of_lt t4 (by decide)) (Nat.lt_of_le_of_lt t5 (by decide)) (Nat.lt_of_le_of_lt t6 (by decide)) (Nat.lt_of_le_of_lt t7 (by decide))
  obtain ⟨mt_g1', mt_g2', g3', g4'⟩ := mt_step4 _ _ _ _ _ _ _ _ t0 t1 t2 t3 t4 t5 t6 t7 c d e hc hd he
  refine ⟨by rw [ha]; exact la, by rw [hb]; exact lb, by rw [hb]; exact lb2, by rw [hc]; exact lc, mt_g1', mt_g2', g3', g4'⟩
theorem mt_size_eq (n : Nat) (h : n ≤ 281474976710656) : bitmap_size.f (n : Int) = some ((nwords n : Nat) : Int) := by
  unfold bitmap_size.f
  have e1 : Int.tmod (n : Int) 64 = ((n % 64 : Nat) : Int) := rfl
  have e2 : Int.tdiv (n : Int) 64 = ((n / 64 : Nat) : Int) := rfl
  have e3 : wrap64 ((n / 64 : Nat) : Int) = ((n / 64 : Nat) : Int) := by unfold wrap64; omega
  rw [e1, e2, e3]
  have e4 : wrap64 (((n / 64 : Nat) : Int) + 1) = ((n / 64 : Nat) : Int) + 1 := by unfold wrap64; omega
  rw [e4]
  unfold nwords
  by_cases h : n % 64 = 0
  · rw [if_pos (by omega)]; congr 1; omega
  · rw [if_neg (by omega)]; congr 1; omega
/-- The bits that the last word of a row may have. -/
def mt_tailW (n : Nat) : BitVec 64 := if n % 64 = 0 then 18446744073709551615#64 else BitVec.ofNat 64 (2 ^ (n % 64) - 1)
theorem mt_shl_one (m : Nat) (h : m < 64) : shl .u64 1 (m : Int) = ((2 ^ m : Nat) : Int) := by
  have : ∀ m : Fin 64, shl .u64 1 ((m.val : Nat) : Int) = ((2 ^ m.val : Nat) : Int) := by decide
  exact this ⟨m, h⟩
theorem mt_tail_eq (n : Nat) : bitmap_tail.f (n : Int) = some (iv (mt_tailW n)) := by
  unfold bitmap_tail.f mt_tailW
  have e1 : Int.tmod (n : Int) 64 = ((n % 64 : Nat) : Int) := rfl
  rw [e1]
  by_cases h : n % 64 = 0
  · rw [if_pos (by omega), if_pos h]; rfl
  · rw [if_neg (by omega), if_neg h, if_pos (by omega), mt_shl_one _ (by omega)]
    have hp : 0 < 2 ^ (n % 64) := Nat.pow_pos (by decide)
    have hq : 2 ^ (n % 64) < 2 ^ 64 := Nat.pow_lt_pow_right (by decide) (by omega)
    have : ((2 ^ (n % 64) : Nat) : Int) - 1 = ((2 ^ (n % 64) - 1 : Nat) : Int) := by omega
    rw [this, wrap_nat]
    unfold iv
    rw [BitVec.toNat_ofNat]
theorem mt_rd_words (n : Nat) (p : Nat → Bool) (k : Nat) (h : k < nwords n) : rd (wordsOf n p) (k : Int) = iv (wordAt n p k) := by
  unfold rd
  rw [Int.toNat_natCast]
  exact wordsOf_get n p k h
/-- What is told of a row of bits is well formed. -/
theorem mt_formed_eq (n : Nat) (p : Nat → Bool) (h : n ≤ 281474976710656) : bitmap_Formed.f (n : Int) (wordsOf n p) = some true := by
  unfold bitmap_Formed.f
  rw [if_neg (by omega), mt_size_eq n h, Option.bind_some, wordsOf_length, if_pos rfl]
  by_cases h0 : n = 0
  · rw [if_pos (by omega)]
  · have hw : 0 < nwords n := by unfold nwords; omega
    have hb : nwords n ≤ 281474976710656 := by unfold nwords; omega
    have e : wrap64 (((nwords n : Nat) : Int) - 1) = ((nwords n - 1 : Nat) : Int) := by unfold wrap64; omega
    rw [if_neg (by omega), e, if_pos (by omega), if_pos (by omega), mt_tail_eq, Option.bind_some, mt_rd_words n p _ (by omega), bits_andNot]
    have hz : wordAt n p (nwords n - 1) &&& ~~~mt_tailW n = 0#64 := by
      refine BitVec.eq_of_getLsbD_eq fun i hi => ?_
      rw [BitVec.getLsbD_and, BitVec.getLsbD_not]
      unfold wordAt
      rw [word_bit]
      unfold mt_tailW
      have hn : nwords n = (n + 63) / 64 := rfl
      by_cases g : n % 64 = 0
      · rw [if_pos g]
        have : (18446744073709551615#64).getLsbD i = true := by
          have : ∀ i : Fin 64, (18446744073709551615#64).getLsbD i.val = true := by decide
          exact this ⟨i, hi⟩
        rw [this]; simp
      · rw [if_neg g, BitVec.getLsbD_ofNat, Nat.testBit_two_pow_sub_one]
        by_cases mt_g2 : i < n % 64
        · simp [mt_g2, hi]
        · have : ¬ (64 * (nwords n - 1) + i < n) := by omega
          simp [this]
    rw [hz]
    rfl
theorem mt_get_eq (n : Nat) (p : Nat → Bool) (h : n ≤ 281474976710656) (i : Nat) (hi : i < n) : bitmap_Get.f (n : Int) (wordsOf n p) (i : Int) = some (p i) := by
  unfold bitmap_Get.f
  have e1 : Int.tmod (i : Int) 64 = ((i % 64 : Nat) : Int) := rfl
  have e2 : Int.tdiv (i : Int) 64 = ((i / 64 : Nat) : Int) := rfl
  have e3 : wrap64 ((i / 64 : Nat) : Int) = ((i / 64 : Nat) : Int) := by unfold wrap64; omega
  have hn : nwords n = (n + 63) / 64 := rfl
  rw [mt_formed_eq n p h, Option.bind_some, if_pos rfl, if_pos (by omega), if_pos (by omega), e1, e2, e3, if_pos (by omega), if_pos (by rw [wordsOf_length]; omega), if_pos (by omega), mt_rd_words n p _ (by omega)]
  have es : shr .u64 (iv (wordAt n p (i / 64))) ((i % 64 : Nat) : Int) = iv (wordAt n p (i / 64) >>> (i % 64)) := by
    rw [← shr_iv]
    unfold shr
    rw [Int.toNat_natCast, Nat.min_eq_left (by show i % 64 ≤ 64; omega)]
  have e1' : (1 : Int) = iv (1#64) := rfl
  rw [es, e1', bits_and]
  have hb : (wordAt n p (i / 64) >>> (i % 64)) &&& 1#64 = if p i then 1#64 else 0#64 := by
    refine BitVec.eq_of_getLsbD_eq fun j hj => ?_
    rw [BitVec.getLsbD_and, BitVec.getLsbD_ushiftRight]
    unfold wordAt
    rw [word_bit]
    have h1 : (1#64).getLsbD j = decide (j = 0) := by
      have : ∀ i : Fin 64, (1#64).getLsbD i.val = decide (i.val = 0) := by decide
      exact this ⟨j, hj⟩
    rw [h1]
    by_cases g : j = 0
    · subst g
      have a1 : i % 64 + 0 < 64 := by omega
      have a2 : 64 * (i / 64) + (i % 64 + 0) = i := by omega
      rw [a2]
      rw [decide_eq_true a1, decide_eq_true hi]
      cases p i <;> rfl
    · cases p i <;> simp [g, h1]
  rw [hb]
  cases p i <;> rfl
theorem mt_cnt_le (q : Nat → Bool) : ∀ n, mt_cnt q n ≤ n
  | 0 => Nat.le_refl _
  | n + 1 => by
    have := mt_cnt_le q n
    have : (q n).toNat ≤ 1 := by cases q n <;> simp
    simp only [mt_cnt]
    omega
theorem mt_cnt_add (q : Nat → Bool) (m : Nat) : ∀ n, mt_cnt q (m + n) = mt_cnt q m + mt_cnt (fun i => q (m + i)) n
  | 0 => rfl
  | n + 1 => by
    show mt_cnt q (m + n) + (q (m + n)).toNat = mt_cnt q m + (mt_cnt (fun i => q (m + i)) n + (q (m + n)).toNat)
    rw [mt_cnt_add q m n, Nat.add_assoc]
theorem mt_cnt_congr {q r : Nat → Bool} : ∀ n, (∀ i, i < n → q i = r i) → mt_cnt q n = mt_cnt r n
  | 0, _ => rfl
  | n + 1, h => by
    show mt_cnt q n + (q n).toNat = mt_cnt r n + (r n).toNat
    rw [mt_cnt_congr n fun i hi => h i (by omega), h n (by omega)]
theorem mt_cnt_none (q : Nat → Bool) : ∀ n, (∀ i, i < n → q i = false) → mt_cnt q n = 0
  | 0, _ => rfl
  | n + 1, h => by
    show mt_cnt q n + (q n).toNat = 0
    rw [mt_cnt_none q n fun i hi => h i (by omega), h n (by omega)]
    rfl
theorem mt_bits_and_i64_127 (f : Nat) (h : f < 9223372036854775808) : bits .and .i64 (f : Int) 127 = ((f % 128 : Nat) : Int) := by
  show IntKind.i64.wrap ((BitVec.ofInt 64 (f : Int) &&& BitVec.ofInt 64 127).toNat : Int) = _
  have e1 : (BitVec.ofInt 64 (f : Int) &&& BitVec.ofInt 64 127).toNat = f % 128 := by
    rw [BitVec.toNat_and, BitVec.ofInt_natCast, BitVec.toNat_ofNat, show (BitVec.ofInt 64 127).toNat = 2 ^ 7 - 1 by decide, Nat.and_two_pow_sub_one_eq_mod]
    omega
  rw [e1, IntKind.wrap_i64]
  omega
theorem mt_wrap_next (i : Nat) (h : i ≤ 281474976710656) : wrap64 ((i : Int) + 1) = ((i + 1 : Nat) : Int) := by
  unfold wrap64
  omega
theorem mt_wrap_sum (a b m : Nat) (h1 : a ≤ m) (h2 : b ≤ 64) (hm : m ≤ 281474976710656) : wrap64 ((a : Int) + (b : Int)) = ((a + b : Nat) : Int) := by
  unfold wrap64
  omega
theorem mt_ones_eq (v : BitVec 64) : bits_OnesCount64.f (iv v) = some ((mt_cnt (fun i => v.getLsbD i) 64 : Nat) : Int) := by
  obtain ⟨N, hN⟩ : ∃ N, N = v.toNat := ⟨_, rfl⟩
  have hl : N < 18446744073709551616 := hN ▸ v.isLt
  have hv : iv v = (N : Int) := by rw [hN]; rfl
  have hc : mt_cnt (fun i => v.getLsbD i) 64 = mt_cnt (fun i => N.testBit i) 64 := mt_cnt_congr _ fun i _ => by rw [hN]; rfl
  rw [hv, hc]
  obtain ⟨a, ha⟩ : ∃ a, a = (N / 2 &&& 6148914691236517205) + (N &&& 6148914691236517205) := ⟨_, rfl⟩
  obtain ⟨b, hb⟩ : ∃ b, b = (a / 4 &&& 3689348814741910323) + (a &&& 3689348814741910323) := ⟨_, rfl⟩
  obtain ⟨c, hcc⟩ : ∃ c, c = (b / 16 + b) &&& 1085102592571150095 := ⟨_, rfl⟩
  obtain ⟨d, hd⟩ : ∃ d, d = c + c / 256 := ⟨_, rfl⟩
  obtain ⟨e, he⟩ : ∃ e, e = d + d / 65536 := ⟨_, rfl⟩
  obtain ⟨la, lb, lb2, lc, ld, le, lf, hr⟩ := mt_pop_nat N a b c d e hl ha hb hcc hd he
  have w : ∀ x : Nat, x < 18446744073709551616 → IntKind.u64.wrap (x : Int) = (x : Int) := fun x hx => by rw [wrap_nat, Nat.mod_eq_of_lt hx]
  have e1 : Go.bits .and .u64 ((N : Int) / 2) 6148914691236517205 = ((N / 2 &&& 6148914691236517205 : Nat) : Int) := bits_and_u64_nat (N / 2) 6148914691236517205 (by omega) (by decide)
  have e2 : Go.bits .and .u64 (N : Int) 6148914691236517205 = ((N &&& 6148914691236517205 : Nat) : Int) := bits_and_u64_nat N 6148914691236517205 hl (by decide)
  have e3 : IntKind.u64.wrap (Go.bits .and .u64 ((N : Int) / 2) 6148914691236517205 + Go.bits .and .u64 (N : Int) 6148914691236517205) = (a : Int) := by
    rw [e1, e2, ← w a la, ha]
    rfl
  have e4 : Go.bits .and .u64 ((a : Int) / 4) 3689348814741910323 = ((a / 4 &&& 3689348814741910323 : Nat) : Int) := bits_and_u64_nat (a / 4) 3689348814741910323 (by omega) (by decide)
  have e5 : Go.bits .and .u64 (a : Int) 3689348814741910323 = ((a &&& 3689348814741910323 : Nat) : Int) := bits_and_u64_nat a 3689348814741910323 la (by decide)
  have e6 : IntKind.u64.wrap (Go.bits .and .u64 ((a : Int) / 4) 3689348814741910323 + Go.bits .and .u64 (a : Int) 3689348814741910323) = (b : Int) := by
    rw [e4, e5, ← w b lb, hb]
    rfl
  have e7 : IntKind.u64.wrap ((b : Int) / 16 + (b : Int)) = ((b / 16 + b : Nat) : Int) := by
    rw [← w (b / 16 + b) lb2]
    rfl
  have e8 : Go.bits .and .u64 ((b / 16 + b : Nat) : Int) 1085102592571150095 = (c : Int) := by
    rw [hcc]
    exact bits_and_u64_nat (b / 16 + b) 1085102592571150095 lb2 (by decide)
  have e9 : IntKind.u64.wrap ((c : Int) + (c : Int) / 256) = (d : Int) := by
    rw [← w d ld, hd]
    rfl
  have e10 : IntKind.u64.wrap ((d : Int) + (d : Int) / 65536) = (e : Int) := by
    rw [← w e le, he]
    rfl
  have e11 : IntKind.u64.wrap ((e : Int) + (e : Int) / 4294967296) = ((e + e / 4294967296 : Nat) : Int) := by
    rw [← w (e + e / 4294967296) (by omega)]
    rfl
  have e12 : wrap64 ((e + e / 4294967296 : Nat) : Int) = ((e + e / 4294967296 : Nat) : Int) := by
    unfold wrap64
    omega
  unfold bits_OnesCount64.f
  rw [e3, e6, e7, e8, e9, e10, e11, e12, mt_bits_and_i64_127 _ lf, hr]
theorem mt_rank_all (v : BitVec 64) : words_Rank.f (iv v) 64 = some ((mt_cnt (fun i => v.getLsbD i) 64 : Nat) : Int) := by
  unfold words_Rank.f
  rw [if_neg (by omega), if_neg (by omega), mt_ones_eq]
  rfl
theorem mt_rank_eq (v : BitVec 64) (k : Nat) (h : k < 64) : words_Rank.f (iv v) (k : Int) = some ((mt_cnt (fun i => v.getLsbD i) k : Nat) : Int) := by
  unfold words_Rank.f
  by_cases h0 : k = 0
  · subst h0
    rfl
  have hp : 0 < 2 ^ k := Nat.pow_pos (by decide)
  have hq : 2 ^ k < 2 ^ 64 := Nat.pow_lt_pow_right (by decide) h
  have em : IntKind.u64.wrap (((2 ^ k : Nat) : Int) - 1) = iv (BitVec.ofNat 64 (2 ^ k - 1)) := by
    have : ((2 ^ k : Nat) : Int) - 1 = ((2 ^ k - 1 : Nat) : Int) := by omega
    rw [this, wrap_nat]
    unfold iv
    rw [BitVec.toNat_ofNat]
  rw [if_neg (by omega), if_pos (by omega), if_pos (by omega), mt_shl_one _ h, em, bits_and, mt_ones_eq, Option.bind_some]
  congr 2
  have e : 64 = k + (64 - k) := by omega
  rw [show mt_cnt (fun i => (v &&& BitVec.ofNat 64 (2 ^ k - 1)).getLsbD i) 64 = mt_cnt (fun i => (v &&& BitVec.ofNat 64 (2 ^ k - 1)).getLsbD i) (k + (64 - k)) by rw [← e], mt_cnt_add, mt_cnt_none _ (64 - k), Nat.add_zero]
  · exact mt_cnt_congr _ fun i hi => by
      rw [BitVec.getLsbD_and, BitVec.getLsbD_ofNat, Nat.testBit_two_pow_sub_one]
      simp [hi, show i < 64 by omega]
  · intro i hi
    rw [BitVec.getLsbD_and, BitVec.getLsbD_ofNat, Nat.testBit_two_pow_sub_one]
    simp [show ¬ (k + i < k) by omega]
theorem mt_cnt_word (n : Nat) (p : Nat → Bool) (k m : Nat) (hm : m ≤ 64) (h : 64 * k + m ≤ n) : mt_cnt (fun i => (wordAt n p k).getLsbD i) m = mt_cnt (fun i => p (64 * k + i)) m := mt_cnt_congr _ fun i hi => by
  unfold wordAt
  rw [word_bit]
  simp [show i < 64 by omega, show 64 * k + i < n by omega]
theorem mt_below_room (i d m n : Nat) (hn : n ≤ 281474976710656) (hm : m ≤ n) (hi : i + (d + 1) = m / 64) : i ≤ 281474976710656 ∧ 64 * i ≤ 281474976710656 ∧ i < m / 64 ∧ 64 * i + 64 ≤ n ∧ i + 1 + d = m / 64 := by
  refine ⟨?_, ?_, ?_, ?_, ?_⟩ <;> omega
theorem mt_below_eq (n : Nat) (p : Nat → Bool) (m k : Nat) (hn : n ≤ 281474976710656) (hm : m ≤ n) (hk : m / 64 < k) : bitmap_below.f k (n : Int) (wordsOf n p) (m : Int) = some ((mt_cnt p m : Nat) : Int) := by
  have e1 : Int.tmod (m : Int) 64 = ((m % 64 : Nat) : Int) := rfl
  have e2 : Int.tdiv (m : Int) 64 = ((m / 64 : Nat) : Int) := rfl
  have e3 : wrap64 ((m / 64 : Nat) : Int) = ((m / 64 : Nat) : Int) := by unfold wrap64; omega
  have hw : nwords n = (n + 63) / 64 := rfl
  have hle := mt_cnt_le p
  unfold bitmap_below.f
  rw [e2, e3, if_pos (by omega), wordsOf_length, if_pos (by omega), Int.toNat_natCast]
  have hlen : ((wordsOf n p).take (m / 64)).length = m / 64 := by rw [List.length_take, wordsOf_length]; omega
  have hrd : ∀ i, i < m / 64 → rd ((wordsOf n p).take (m / 64)) (i : Int) = iv (wordAt n p i) := fun i hi => by
    rw [← mt_rd_words n p i (by omega)]
    unfold rd
    rw [Int.toNat_natCast, List.getD_eq_getElem?_getD, List.getD_eq_getElem?_getD, List.getElem?_take_of_lt hi]
  generalize hL : (wordsOf n p).take (m / 64) = L at hlen hrd ⊢
  have key : ∀ (d i k : Nat), i + d = m / 64 → d < k → bitmap_below.l0 k (m : Int) ((mt_cnt p (64 * i) : Nat) : Int) L (L.length : Int) (i : Int) (n : Int) (wordsOf n p) = some ((mt_cnt p m : Nat) : Int) := by
    intro d
    induction d with
    | zero =>
      intro i k hi hk
      obtain ⟨k, rfl⟩ : ∃ k', k = k' + 1 := ⟨k - 1, by omega⟩
      unfold bitmap_below.l0
      rw [if_neg (by rw [hlen]; omega), e1]
      have hm2 : m = 64 * i + m % 64 := by omega
      by_cases g : m % 64 = 0
      · rw [if_neg (by omega)]
        congr 3
        omega
      · have h6 : m % 64 ≤ 64 := by omega
        have h7 : 64 * i ≤ 281474976710656 := by omega
        have h1 := hle (64 * i)
        have h2 := mt_cnt_le (fun j => p (64 * i + j)) (m % 64)
        have e4 : mt_cnt p m = mt_cnt p (64 * i) + mt_cnt (fun j => p (64 * i + j)) (m % 64) := by
          rw [← mt_cnt_add, ← hm2]
        rw [if_pos (by omega), e2, e3, if_pos (by omega), wordsOf_length, if_pos (by omega), mt_rd_words n p _ (by omega), mt_rank_eq _ _ (by omega), Option.bind_some, show m / 64 = i by omega,
          mt_cnt_word n p i (m % 64) (by omega) (by omega), e4, mt_wrap_sum _ _ _ h1 (Nat.le_trans h2 h6) h7]
    | succ d ih =>
      intro i k hi hk
      obtain ⟨k, rfl⟩ : ∃ k', k = k' + 1 := ⟨k - 1, by omega⟩
      obtain ⟨l0, h7, l1, l2, l3⟩ := mt_below_room i d m n hn hm hi
      have e6 := mt_wrap_next i l0
      have l4 : d < k := Nat.lt_of_succ_lt_succ hk
      have l5 : (i : Int) < (L.length : Int) := by
        rw [hlen]
        exact Int.ofNat_lt.mpr l1
      have h1 := hle (64 * i)
      have h2 := mt_cnt_le (fun j => p (64 * i + j)) 64
      have h3 : mt_cnt p (64 * (i + 1)) = mt_cnt p (64 * i) + mt_cnt (fun j => p (64 * i + j)) 64 := by
        rw [show 64 * (i + 1) = 64 * i + 64 from rfl]
        rw [← mt_cnt_add]
      have e5 : wrap64 (((mt_cnt p (64 * i) : Nat) : Int) + ((mt_cnt (fun j => p (64 * i + j)) 64 : Nat) : Int)) = ((mt_cnt p (64 * (i + 1)) : Nat) : Int) := by
        rw [h3]
        exact mt_wrap_sum _ _ _ h1 h2 h7
      unfold bitmap_below.l0
      rw [if_pos l5, if_pos (Int.natCast_nonneg i), if_pos l5, hrd i l1, mt_rank_all, Option.bind_some, mt_cnt_word n p i 64 (Nat.le_refl _) l2, e5, e6]
      exact ih (i + 1) k l3 l4
  exact key (m / 64) 0 k (by omega) hk
theorem mt_w64s (i n : Nat) (h : i < n) (hn : n ≤ 281474976702464) : wrap64 ((i : Int) + 1) = ((i + 1 : Nat) : Int) := by unfold wrap64; omega
theorem mt_prog_loop (s : ByteArray) (hn : s.size ≤ 1048576) (z : Int) :
    ∀ (d i k : Nat), i + d = nwords s.size → d < k → marks_Blanks.l0 k (lookL s) ((nwords s.size : Nat) : Int) (i : Int) z ((List.range i).map fun j => iv (wordAt s.size (blq s) j)) = some (z, wordsOf s.size (blq s)) := by
  have hw : nwords s.size ≤ 1048576 := by unfold nwords; omega
  have hl : (lookL s).length = nwords s.size := by simp [lookL]
  intro d
  induction d with
  | zero =>
    intro i k hi hk
    obtain ⟨k, rfl⟩ : ∃ m, k = m + 1 := ⟨k - 1, by omega⟩
    unfold marks_Blanks.l0
    rw [if_neg (by omega), show i = nwords s.size by omega]
    rfl
  | succ d ih =>
    intro i k hi hk
    obtain ⟨k, rfl⟩ : ∃ m, k = m + 1 := ⟨k - 1, by omega⟩
    have h2 := ih (i + 1) k (by omega) (by omega)
    rw [List.range_succ, List.map_append] at h2
    have hr : rd_T66 (lookL s) (i : Int) = rowS s i := by
      unfold rd_T66 lookL
      rw [Int.toNat_natCast, List.getD_eq_getElem?_getD, List.getElem?_map, List.getElem?_range (by omega)]
      rfl
    unfold marks_Blanks.l0
    rw [if_pos (by omega), if_pos (by omega), if_pos (by rw [hl]; omega), if_pos (by rw [List.length_map, List.length_range]; omega), mt_w64s i (nwords s.size) (by omega) (by omega), hr]
    exact h2
theorem mt_blanks_eq (s : ByteArray) (hn : s.size ≤ 1048576) (k : Nat) (hk : 67 * s.size + 67 < k) : marks_Blanks.f k s = some ((s.size : Int), wordsOf s.size (blq s)) := by
  have hw : nwords s.size ≤ s.size + 1 := by unfold nwords; omega
  unfold marks_Blanks.f marks_look.f
  rw [if_pos (by omega), Option.bind_some, show (lookL s).length = nwords s.size by simp [lookL]]
  exact mt_prog_loop s hn s.size (nwords s.size) 0 k (by omega) (by omega)
theorem mt_minify_l (s : ByteArray) (hn : s.size ≤ 1048576) : ∀ i, i ≤ s.size → marks_Minify.l s (s.size : Int) (wordsOf s.size (blq s)) i = some (minL s i) := by
  intro i
  induction i with
  | zero => exact fun _ => rfl
  | succ i ih =>
    intro hi
    unfold marks_Minify.l
    rw [ih (by omega), Option.bind_some, mt_get_eq _ _ (by omega) i (by omega), Option.bind_some, minL_succ]
theorem mt_minify_eq (s : ByteArray) (hn : s.size ≤ 1048576) (k : Nat) (hk : 67 * s.size + 67 < k) : marks_Minify.f k s = some (minT s) := by
  unfold marks_Minify.f
  rw [if_pos (by omega), mt_blanks_eq s hn k hk, Option.bind_some]
  simp only []
  rw [mt_minify_l s hn s.size (Nat.le_refl _), Option.bind_some]
  rfl
theorem mt_select_none (n : Nat) (q : Nat → Bool) (hn : n ≤ 1048576) (h : ∀ i, i < n → q i = false) : ∀ (d i k : Nat), i + d = nwords n → d < k → bitmap_Select.l0 k 0 (wordsOf n q) ((wordsOf n q).length : Int) (i : Int) = some (-1) := by
  have hw : nwords n = (n + 63) / 64 := rfl
  intro d
  induction d with
  | zero =>
    intro i k hi hk
    obtain ⟨k, rfl⟩ : ∃ m, k = m + 1 := ⟨k - 1, by omega⟩
    unfold bitmap_Select.l0
    rw [if_neg (by rw [wordsOf_length]; omega)]
  | succ d ih =>
    intro i k hi hk
    obtain ⟨k, rfl⟩ : ∃ m, k = m + 1 := ⟨k - 1, by omega⟩
    have e : wrap64 ((i : Int) + 1) = ((i + 1 : Nat) : Int) := by unfold wrap64; omega
    have hz : mt_cnt (fun j => (wordAt n q i).getLsbD j) 64 = 0 := mt_cnt_none _ 64 fun j hj => by
      unfold wordAt
      rw [word_bit, decide_eq_true hj]
      by_cases g : 64 * i + j < n
      · rw [h _ g]
        simp
      · rw [decide_eq_false g]
        rfl
    unfold bitmap_Select.l0
    rw [if_pos (by rw [wordsOf_length]; omega), if_pos (by omega), if_pos (by rw [wordsOf_length]; omega), mt_rd_words n q i (by omega), mt_rank_all, Option.bind_some, hz, if_neg (by decide), e, show wrap64 (0 - ((0 : Nat) : Int)) = 0 from by unfold wrap64; omega]
    exact ih (i + 1) k (by omega) (by omega)
theorem mt_next_none (n : Nat) (q : Nat → Bool) (hn : n ≤ 1048576) (h : ∀ i, i < n → q i = false) (k : Nat) (hk : n + 4 < k) : bitmap_Next.f k (n : Int) (wordsOf n q) 0 = some (-1) := by
  obtain ⟨k, rfl⟩ : ∃ m, k = m + 2 := ⟨k - 2, by omega⟩
  have hw : nwords n = (n + 63) / 64 := rfl
  unfold bitmap_Next.f
  rw [mt_formed_eq n q (by omega), Option.bind_some, if_pos rfl]
  simp only [bitmap_Next.j0]
  by_cases h0 : n = 0
  · subst h0
    rfl
  · have e1 : mx (0 : Int) 0 = ((0 : Nat) : Int) := by unfold mx; simp
    have e2 : decide ((0 : Int) ≥ (n : Int)) = false := decide_eq_false (by omega)
    rw [e2, if_neg (by decide), e1, mt_below_eq n q 0 (k + 1) (by omega) (by omega) (by omega), Option.bind_some]
    unfold bitmap_Select.f
    rw [mt_formed_eq n q (by omega), Option.bind_some, if_pos rfl]
    simp only [bitmap_Select.j0]
    have h1 := mt_select_none n q hn h (nwords n) 0 k (by omega) (by omega)
    rw [show decide (((mt_cnt q 0 : Nat) : Int) < 0) = false from rfl, if_neg (by decide)]
    have h2 : bitmap_Select.l0 k ((mt_cnt q 0 : Nat) : Int) (wordsOf n q) ((wordsOf n q).length : Int) 0 = some (-1) := h1
    rw [h2]
    rfl
theorem mt_sametexts_loop (l : List ByteArray) (hl : l.length ≤ 140737488355328) : ∀ (d i k : Nat), i + d = l.length → d < k → quarryref00_SameTexts.l0 k l l (i : Int) = some true := by
  intro d
  induction d with
  | zero =>
    intro i k hi hk
    obtain ⟨k, rfl⟩ : ∃ m, k = m + 1 := ⟨k - 1, by omega⟩
    unfold quarryref00_SameTexts.l0
    rw [if_neg (by omega)]
  | succ d ih =>
    intro i k hi hk
    obtain ⟨k, rfl⟩ : ∃ m, k = m + 1 := ⟨k - 1, by omega⟩
    have e : wrap64 ((i : Int) + 1) = ((i + 1 : Nat) : Int) := by unfold wrap64; omega
    unfold quarryref00_SameTexts.l0
    rw [if_pos (by omega), if_pos (by omega), if_pos (by omega), if_pos rfl, e, ih (i + 1) k (by omega) (by omega)]
theorem mt_sametexts_refl (l : List ByteArray) (hl : l.length ≤ 140737488355328) (k : Nat) (hk : l.length < k) : quarryref00_SameTexts.f k l l = some true := by
  unfold quarryref00_SameTexts.f
  rw [if_pos rfl]
  exact mt_sametexts_loop l hl l.length 0 k (by omega) hk
theorem mt_awake8 : ∃ k, quarrylaw08_awake.f k = some true := by
  refine ⟨100, ?_⟩
  decide +kernel

end MtF
attribute [local go_sem] Oper.semAt_some
/-- What stands behind the first calls, and stays. -/
structure MtA (s : ByteArray) (nw : Nat) (w wA : World) (g1 g2 g3 g4 : Nat) (A1 A2 : Option Addr) (p1 p2 : Nat) : Prop where mk ::
  b1 : Blk wA g1 #[.string s] 9
  b2 : Blk wA g2 #[.bool false] 4
  b3 : Blk wA g3 #[.int .i64 s.size, .slice A1 nw p1] 38
  b4 : Blk wA g4 #[.int .i64 s.size, .slice A2 nw p2] 38
  hN : ∀ q, (wordsOf s.size q).length = nw
  C1 : Kd.C (Kd.int .u64) wA A1 nw (wordsOf s.size (mkq s))
  q1 : nw ≤ p1
  C2 : Kd.C (Kd.int .u64) wA A2 nw (wordsOf s.size (insS s))
  q2 : nw ≤ p2
  hb : BelowH w wA
  ge2 : w.heap.size ≤ g2
theorem MtA.get {s : ByteArray} {nw : Nat} {w wA : World} {g1 g2 g3 g4 : Nat} {A1 A2 : Option Addr} {p1 p2 : Nat} (h : MtA s nw w wA g1 g2 g3 g4 A1 A2 p1 p2) {W : World} (hb : BelowH wA W) (i : Int) (r : Bool) (e : bitmap_Get.f (s.size : Int) (wordsOf s.size (mkq s)) i = some r) :
    Calls Tryd.prog 36 #[.agg #[.int .i64 s.size, .slice A1 nw p1], .int .i64 i] W fun e w' => e = .returned (.bool r) ∧ Below W.heap.size W w' := by
  have hC := Kd.C_below h.C1 hb.out
  have hq := h.q1
  have hN := h.hN (mkq s)
  subst hN
  exact bitmap_Get.calls _ _ _ _ _ _ W hC hq e
theorem MtA.getI {s : ByteArray} {nw : Nat} {w wA : World} {g1 g2 g3 g4 : Nat} {A1 A2 : Option Addr} {p1 p2 : Nat} (h : MtA s nw w wA g1 g2 g3 g4 A1 A2 p1 p2) {W : World} (hb : BelowH wA W) (i : Int) (r : Bool) (e : bitmap_Get.f (s.size : Int) (wordsOf s.size (insS s)) i = some r) :
    Calls Tryd.prog 36 #[.agg #[.int .i64 s.size, .slice A2 nw p2], .int .i64 i] W fun e w' => e = .returned (.bool r) ∧ Below W.heap.size W w' := by
  have hC := Kd.C_below h.C2 hb.out
  have hq := h.q2
  have hN := h.hN (insS s)
  subst hN
  exact bitmap_Get.calls _ _ _ _ _ _ W hC hq e
/-- What a range's caller may rely on. -/
def extT (s : ByteArray) (x : Nat × Nat) : ByteArray := s.extract x.1 x.2
theorem ext_same (s : ByteArray) (hn : NoBs s) : (textsL s).map (extT s) = (textsL (minT s)).map (extT (minT s)) := by
  obtain ⟨h1, h2⟩ := min_texts (minT_of s) hn
  apply List.ext_getElem?
  intro i
  by_cases hi : i < (textsL s).length
  · have e1 := List.getElem?_eq_getElem hi
    have e2 := List.getElem?_eq_getElem (show i < (textsL (minT s)).length by omega)
    rw [List.getElem?_map, List.getElem?_map, e1, e2, Option.map_some, Option.map_some]
    exact congrArg some (same_extract (h2 i _ _ e1 e2))
  · rw [List.getElem?_eq_none (by rw [List.length_map]; omega), List.getElem?_eq_none (by rw [List.length_map]; omega)]
theorem texts_len (s : ByteArray) : (textsL s).length ≤ s.size + 1 := by
  have h1 : ∀ ps : List Nat, (foldT ps).1.length ≤ ps.length := fun ps => by
    unfold foldT
    have : ∀ (ps : List Nat) (st : List (Nat × Nat) × Option Nat), (ps.foldl stepQ st).1.length ≤ st.1.length + ps.length := fun ps => by
      induction ps with
      | nil => exact fun st => Nat.le_refl _
      | cons p ps ih =>
        intro st
        have h := ih (stepQ st p)
        have h2 : (stepQ st p).1.length ≤ st.1.length + 1 := by
          unfold stepQ
          split
          · simp
          · simp
        simp only [List.foldl_cons, List.length_cons]
        omega
    simpa using this ps ([], none)
  have h2 : (marksP s).length ≤ s.size := by
    unfold marksP
    have := List.length_filter_le (mkq s) (List.range s.size)
    rwa [List.length_range] at this
  have h3 := h1 (marksP s)
  unfold textsL endT
  split
  · omega
  · rw [List.length_append, List.length_singleton]
    omega
set_option maxHeartbeats 8000000 in
set_option maxRecDepth 100000 in
theorem quarrylaw08_MarksTwice.true_ (s : ByteArray) (hs : s.size ≤ 1048576) (w : World) (hT : TabOk w) :
    Calls Tryd.prog 13 #[.string s] w fun e w' => e = .returned (.bool true) ∧ Below w.heap.size w w' := by
  obtain ⟨F, hF⟩ : ∃ F, F = Fence.wide := ⟨_, rfl⟩
  have HF := Aside0.mk hF
  refine (callsIn_wide (n := 9)).1 ?_
  rw [← hF]
  clear hF
  have hro := wide_round HF
  have HB := BelowH.refl w
  have f1 := wide_fn HF 22
  have f2 := wide_fn HF 67
  have f3 := wide_fn HF 32
  have f4 := wide_fn HF 41
  have f5 := wide_fn HF 24
  have f6 := wide_fn HF 36
  have f7 := wide_fn HF 46
  have f8 := wide_fn HF 42
  have f9 := wide_fn HF 47
  have f10 := wide_fn HF 48
  have AW : Aside0 (∀ W, TabOk W → Calls Tryd.prog 41 #[] W fun e w' => e = .returned (.bool true) ∧ Below W.heap.size W w') := ⟨fun W h => by
    obtain ⟨k, hk⟩ := MtF.mt_awake8
    exact quarrylaw08_awake.calls k true W h hk⟩
  have QF : ∀ (w : World) (f : Fn) (a c : Array Value), (binOp .eql 27 (.func f a c) .nilFunc).run Tryd.prog w = .ok (.bool false) w := fun w f a c => run_eql_func_nil (ps := #[72]) (rs := #[]) (vd := false) _ (by kernel_rfl) _ _ _ _
  have HT := Aside0.mk hT
  have HS2 := Aside0.mk hs
  have HS : Aside0 (s.size ≤ 281474976702464) := ⟨by omega⟩
  obtain ⟨nw, hnw⟩ : ∃ nw, nw = nwords s.size := ⟨_, rfl⟩
  have HNW := Aside0.mk hnw
  obtain ⟨t, ht⟩ : ∃ t, t = minT s := ⟨_, rfl⟩
  have HTT := Aside0.mk ht
  have HTS : Aside0 (t.size ≤ s.size) := ⟨by rw [ht, minT_size]; exact kpB_le s s.size⟩
  have MFs : Aside0 (∀ W, Calls Tryd.prog 46 #[.string s] W fun e w' => e = .returned (.string t) ∧ Below W.heap.size W w') := ⟨fun W => marks_Minify.calls (67 * s.size + 68) s t W (by rw [ht]; exact MtF.mt_minify_eq s hs _ (by omega))⟩
  clear hT hs hnw ht
  refine callsIn_of_wp_marks Tryd.func13 rfl (wide_fn HF _) ?_ hro
  simp only [Tryd.ntmps13, List.size_toArray, List.length_cons, List.length_nil, Nat.reduceAdd, Nat.reduceSub, Array.replicate_succ, Array.replicate_zero, List.push_toArray, List.append_toArray, List.nil_append, List.cons_append]
  gi_upto_region 3 with (first
    | ((with_reducible refine gate_dstIn (N := 1) rfl ?_); refine ev_allocIn HB rfl rfl (#[.string s]) 9 ?hr ?_; (case hr => first | (go_simp; done) | (go_simp; rfl)); intro g1 w1 G_g1 GE_g1 B_g1 HBn K_g1 KO_w1; clear HB; have HB := HBn; clear HBn)
    | ((with_reducible refine gate_dstIn (N := 2) rfl ?_); refine ev_allocIn HB rfl rfl (#[.bool false]) 4 ?hr ?_; (case hr => first | (go_simp; done) | (go_simp; rfl)); intro g2 w2 G_g2 GE_g2 B_g2 HBn K_g2 KO_w2; clear HB; have HB := HBn; clear HBn)
    | (gi_at_call 41; go_must (refine (callsIn_of HF (AW.out _ (HT.out.step HB.out))).mono ?_); rintro e w3 ⟨rfl, hb3⟩; have HK3 := Aside0.mk hb3; have HBn := HB.step hb3; clear HB hb3; have HB := HBn; clear HBn))
  have E := (B_g1.below K_g2.out).below HK3.out
  have D2 := B_g2.below HK3.out
  clear B_g1 B_g2 K_g1 K_g2 HK3 G_g1 KO_w1 KO_w2
  have L12 := Aside0.mk (And.intro E.lt (And.intro D2.lt G_g2.out))
  clear G_g2
  gi_cut [3, 4] from 132 (fun v3 v4 wx => ∃ (g3 g4 c1 c2 : Nat) (A1 A2 : Option Addr), v3 = .pointer (some ⟨g3, 0, none⟩) ∧ v4 = .pointer (some ⟨g4, 0, none⟩) ∧ Aside0 (w.heap.size ≤ g3) ∧ Aside0 (w.heap.size ≤ g4) ∧ Aside0 (g1 < g3 ∧ g1 < g4 ∧ g3 ≠ g4) ∧
    Blk wx g1 #[.string s] 9 ∧ Blk wx g2 #[.bool false] 4 ∧ Blk wx g3 #[.int .i64 s.size, .slice A1 nw c1] 38 ∧ Blk wx g4 #[.int .i64 s.size, .slice A2 nw c2] 38 ∧
    Aside0 (wx.ownsRow w.heap.size 64 1 (.slice A1 nw c1) nw ((wordsOf s.size (mkq s)).map (Value.int .u64))) ∧ Aside0 (wx.ownsRow w.heap.size 64 1 (.slice A2 nw c2) nw ((wordsOf s.size (insq (mkq s))).map (Value.int .u64))) ∧ BelowH w wx)
  case first =>
    have HZ := Aside0.mk (show w3.heap.size ≤ w3.drew.heap.size from Nat.le_refl _)
    have L1 := Aside0.mk (And.intro L12.out.1 (And.intro L12.out.2.1 (Nat.le_refl 0)))
    have En := E.below (below_drew (Below.refl _ _))
    have D2n := D2.below (below_drew (Below.refl _ _))
    have HB5 := HB.step (below_drew (Below.refl _ _))
    clear HB E D2 L12
    have HB := HB5
    have E := En
    have D2 := D2n
    clear HB5 En D2n
    refine wpIn_region_last_wide HF (S := fun W' => Blk W' g1 #[.string s] 9) (ds := [6, 7]) (by kernel_rfl) E (fun hS => ?_)
    refine wpAnyLast_take (i := 0) (oi := Oper.mk _ _ _ _ _ _) rfl (by kernel_rfl) (by kernel_rfl) (by kernel_rfl) (by kernel_rfl) (by kernel_rfl) (fun _ _ _ h => h) (rg_load1 (by rfl) (fun _ hS => hS.cell (i := 0) rfl) 9 _ rfl rfl (fun _ => by simp [isAgg, run_underlying Tryd.underlying9])) hS ?_
    try simp only [Act.put, List.setIfInBounds_toArray, List.set_cons_zero, List.set_cons_succ]
    refine wpAnyLast_take (i := 2) (oi := Oper.mk _ _ _ _ _ _) rfl (by kernel_rfl) (by kernel_rfl) (by kernel_rfl) (by kernel_rfl) (by kernel_rfl) (fun _ _ _ h => h) (rg_load1 (by rfl) (fun _ hS => hS.cell (i := 0) rfl) 9 _ rfl rfl (fun _ => by simp [isAgg, run_underlying Tryd.underlying9])) hS ?_
    try simp only [Act.put, List.setIfInBounds_toArray, List.set_cons_zero, List.set_cons_succ]
    refine wpAnyLast_ready (rs := [1, 4, 5]) (by kernel_rfl) (by simp) ?_
    refine AllReadyL.cons (o := Oper.mk _ _ _ _ _ _) rfl (by decide) (fun K hK => ?_) ?_
    · refine call_ 22 #[.string s] (by rfl) rfl (by first | (go_simp; done) | (go_simp; rfl)) ((quotes_Marks.walk s _ HS.out).mono ?_)
      rintro e W' ⟨v, rfl, hrow, hb'⟩
      obtain ⟨A1, c1, rfl⟩ := own_slice hrow
      rw [← HNW.out] at hrow ⊢
      have hb := Aside0.mk hb'
      have RM := Aside0.mk (row_mono hrow HB.le)
      have V1 := Aside0.mk (row_one hrow)
      clear hrow hb'
      replace E := E.below hb.out
      replace D2 := D2.below hb.out
      replace HB := HB.step hb.out
      replace HZ := Aside0.mk (Nat.le_trans HZ.out hb.out.size)
      refine ⟨_, rfl, ?_⟩
      refine hK.out _ _ E (fun hS => ?_)
      clear hK K hb
      try simp only [Act.put, List.setIfInBounds_toArray, List.set_cons_zero, List.set_cons_succ]
      refine wpAnyLast_ready (rs := [3, 4, 5]) (by kernel_rfl) (by simp) ?_
      refine AllReadyL.cons (o := Oper.mk _ _ _ _ _ _) rfl (by decide) (fun K hK => ?_) ?_
      · refine call_ 24 #[.string s] (by rfl) rfl (by first | (go_simp; done) | (go_simp; rfl)) ((quotes_Inside.walk s _ HS.out).mono ?_)
        rintro e W' ⟨v, rfl, hrow, hb'⟩
        obtain ⟨A2, c2, rfl⟩ := own_slice hrow
        rw [← HNW.out] at hrow ⊢
        have hb := Aside0.mk hb'
        have RI := Aside0.mk (row_mono hrow HB.le)
        have V2 := Aside0.mk (row_one hrow)
        clear hrow hb'
        replace E := E.below hb.out
        replace D2 := D2.below hb.out
        replace HB := HB.step hb.out
        replace HZ := Aside0.mk (Nat.le_trans HZ.out hb.out.size)
        replace RM := Aside0.mk (row_below RM.out hb.out)
        refine ⟨_, rfl, ?_⟩
        refine hK.out _ _ E (fun hS => ?_)
        clear hK K hb
        try simp only [Act.put, List.setIfInBounds_toArray, List.set_cons_zero, List.set_cons_succ]
        refine wpAnyLast_ready (rs := [4, 5]) (by kernel_rfl) (by simp) ?_
        refine AllReadyL.cons (o := Oper.mk _ _ _ _ _ _) rfl (by decide) (fun K hK => ?_) ?_
        · refine rg_alloc HB (by rfl) (#[.int .i64 0, .slice none 0 0]) 38 (by first | (go_simp; done) | (go_simp; rfl)) ?_
          intro g3 W' G3 GE_g3 B3 HBn hb
          have N1g3 := Aside0.mk (show g1 < g3 ∧ g2 < g3 by have := L1.out.1; have := L1.out.2.1; have := HZ.out; have := G3.out; omega)
          clear HBn
          replace E := E.below hb.out
          replace D2 := D2.below hb.out
          replace HB := HB.step hb.out
          replace HZ := Aside0.mk (Nat.le_trans HZ.out hb.out.size)
          replace RM := Aside0.mk (row_below RM.out hb.out)
          replace RI := Aside0.mk (row_below RI.out hb.out)
          refine hK.out _ _ E (fun hS => ?_)
          clear hK K hb G3
          try simp only [Act.put, List.setIfInBounds_toArray, List.set_cons_zero, List.set_cons_succ]
          refine wpAnyLast_ready (rs := [5]) (by kernel_rfl) (by simp) ?_
          refine AllReadyL.cons (o := Oper.mk _ _ _ _ _ _) rfl (by decide) (fun K hK => ?_) ?_
          · refine rg_alloc HB (by rfl) (#[.int .i64 0, .slice none 0 0]) 38 (by first | (go_simp; done) | (go_simp; rfl)) ?_
            intro g4 W' G4 GE_g4 B4 HBn hb
            have N1g4 := Aside0.mk (show g1 < g4 ∧ g2 < g4 by have := L1.out.1; have := L1.out.2.1; have := HZ.out; have := G4.out; omega)
            have N34 := Aside0.mk (show g3 ≠ g4 by have := B3.lt; have := G4.out; omega)
            clear HBn
            replace E := E.below hb.out
            replace D2 := D2.below hb.out
            replace HB := HB.step hb.out
            replace HZ := Aside0.mk (Nat.le_trans HZ.out hb.out.size)
            replace RM := Aside0.mk (row_below RM.out hb.out)
            replace RI := Aside0.mk (row_below RI.out hb.out)
            replace B3 := B3.below hb.out
            refine hK.out _ _ E (fun hS => ?_)
            clear hK K hb G4
            try simp only [Act.put, List.setIfInBounds_toArray, List.set_cons_zero, List.set_cons_succ]
            refine wpAnyLast_ready (rs := [6]) (by kernel_rfl) (by simp) ?_
            refine AllReadyL.cons_last (o := Oper.mk _ _ _ _ _ _) rfl (by decide) (fun K hK => ?_) ?_
            · refine rg_store HB (by rfl) B3 GE_g3 38 _ _ rfl rfl rfl (by kernel_rfl) rfl (by simp [Value.oneCell']) ?_
              intro w6 B3n HBn K6
              replace E := E.other K6 (Nat.ne_of_lt N1g3.out.1)
              replace D2 := D2.other K6 (Nat.ne_of_lt N1g3.out.2)
              replace B4 := B4.other K6 (Ne.symm N34.out)
              replace RM := Aside0.mk (row_other RM.out B3 (by decide) K6)
              replace RI := Aside0.mk (row_other RI.out B3 (by decide) K6)
              replace B3 := B3n
              replace HB := HBn
              clear B3n HBn K6 HZ
              have HZ := Aside0.mk (Nat.le_refl 0)
              refine hK.out _ _ ?_
              clear hK K
              try simp only [Act.put, List.setIfInBounds_toArray, List.set_cons_zero, List.set_cons_succ]
              refine wpAnyLast_ready (rs := [7]) (by kernel_rfl) (by simp) ?_
              refine AllReadyL.cons_last (o := Oper.mk _ _ _ _ _ _) rfl (by decide) (fun K hK => ?_) ?_
              · refine rg_store HB (by rfl) B4 GE_g4 38 _ _ rfl rfl rfl (by kernel_rfl) rfl (by simp [Value.oneCell']) ?_
                intro w7 B4n HBn K7
                replace E := E.other K7 (Nat.ne_of_lt N1g4.out.1)
                replace D2 := D2.other K7 (Nat.ne_of_lt N1g4.out.2)
                replace B3 := B3.other K7 N34.out
                replace RM := Aside0.mk (row_other RM.out B4 (by decide) K7)
                replace RI := Aside0.mk (row_other RI.out B4 (by decide) K7)
                replace B4 := B4n
                replace HB := HBn
                clear B4n HBn K7 HZ
                have HZ := Aside0.mk (Nat.le_refl 0)
                refine hK.out _ _ ?_
                clear hK K
                try simp only [Act.put, List.setIfInBounds_toArray, List.set_cons_zero, List.set_cons_succ]
                refine wpAnyLast_done (by kernel_rfl) ?_ _
                refine NoPanic.normal ?_
                go_step
                go_step
                gi_meet
                case rel => exact ⟨g3, g4, c1, c2, A1, A2, rfl, rfl, GE_g3, GE_g4, ⟨N1g3.out.1, N1g4.out.1, N34.out⟩, E, D2, B3, B4, RM, RI, HB⟩
              exact AllReadyL.nil
            exact AllReadyL.nil
          exact AllReadyL.nil
        refine AllReadyL.cons (o := Oper.mk _ _ _ _ _ _) rfl (by decide) (fun K hK => ?_) ?_
        · refine rg_alloc HB (by rfl) (#[.int .i64 0, .slice none 0 0]) 38 (by first | (go_simp; done) | (go_simp; rfl)) ?_
          intro g4 W' G4 GE_g4 B4 HBn hb
          have N1g4 := Aside0.mk (show g1 < g4 ∧ g2 < g4 by have := L1.out.1; have := L1.out.2.1; have := HZ.out; have := G4.out; omega)
          clear HBn
          replace E := E.below hb.out
          replace D2 := D2.below hb.out
          replace HB := HB.step hb.out
          replace HZ := Aside0.mk (Nat.le_trans HZ.out hb.out.size)
          replace RM := Aside0.mk (row_below RM.out hb.out)
          replace RI := Aside0.mk (row_below RI.out hb.out)
          refine hK.out _ _ E (fun hS => ?_)
          clear hK K hb G4
          try simp only [Act.put, List.setIfInBounds_toArray, List.set_cons_zero, List.set_cons_succ]
          refine wpAnyLast_ready (rs := [4]) (by kernel_rfl) (by simp) ?_
          refine AllReadyL.cons (o := Oper.mk _ _ _ _ _ _) rfl (by decide) (fun K hK => ?_) ?_
          · refine rg_alloc HB (by rfl) (#[.int .i64 0, .slice none 0 0]) 38 (by first | (go_simp; done) | (go_simp; rfl)) ?_
            intro g3 W' G3 GE_g3 B3 HBn hb
            have N1g3 := Aside0.mk (show g1 < g3 ∧ g2 < g3 by have := L1.out.1; have := L1.out.2.1; have := HZ.out; have := G3.out; omega)
            have N34 := Aside0.mk (show g3 ≠ g4 by have := B4.lt; have := G3.out; omega)
            clear HBn
            replace E := E.below hb.out
            replace D2 := D2.below hb.out
            replace HB := HB.step hb.out
            replace HZ := Aside0.mk (Nat.le_trans HZ.out hb.out.size)
            replace RM := Aside0.mk (row_below RM.out hb.out)
            replace RI := Aside0.mk (row_below RI.out hb.out)
            replace B4 := B4.below hb.out
            refine hK.out _ _ E (fun hS => ?_)
            clear hK K hb G3
            try simp only [Act.put, List.setIfInBounds_toArray, List.set_cons_zero, List.set_cons_succ]
            refine wpAnyLast_ready (rs := [6]) (by kernel_rfl) (by simp) ?_
            refine AllReadyL.cons_last (o := Oper.mk _ _ _ _ _ _) rfl (by decide) (fun K hK => ?_) ?_
            · refine rg_store HB (by rfl) B3 GE_g3 38 _ _ rfl rfl rfl (by kernel_rfl) rfl (by simp [Value.oneCell']) ?_
              intro w6 B3n HBn K6
              replace E := E.other K6 (Nat.ne_of_lt N1g3.out.1)
              replace D2 := D2.other K6 (Nat.ne_of_lt N1g3.out.2)
              replace B4 := B4.other K6 (Ne.symm N34.out)
              replace RM := Aside0.mk (row_other RM.out B3 (by decide) K6)
              replace RI := Aside0.mk (row_other RI.out B3 (by decide) K6)
              replace B3 := B3n
              replace HB := HBn
              clear B3n HBn K6 HZ
              have HZ := Aside0.mk (Nat.le_refl 0)
              refine hK.out _ _ ?_
              clear hK K
              try simp only [Act.put, List.setIfInBounds_toArray, List.set_cons_zero, List.set_cons_succ]
              refine wpAnyLast_ready (rs := [7]) (by kernel_rfl) (by simp) ?_
              refine AllReadyL.cons_last (o := Oper.mk _ _ _ _ _ _) rfl (by decide) (fun K hK => ?_) ?_
              · refine rg_store HB (by rfl) B4 GE_g4 38 _ _ rfl rfl rfl (by kernel_rfl) rfl (by simp [Value.oneCell']) ?_
                intro w7 B4n HBn K7
                replace E := E.other K7 (Nat.ne_of_lt N1g4.out.1)
                replace D2 := D2.other K7 (Nat.ne_of_lt N1g4.out.2)
                replace B3 := B3.other K7 N34.out
                replace RM := Aside0.mk (row_other RM.out B4 (by decide) K7)
                replace RI := Aside0.mk (row_other RI.out B4 (by decide) K7)
                replace B4 := B4n
                replace HB := HBn
                clear B4n HBn K7 HZ
                have HZ := Aside0.mk (Nat.le_refl 0)
                refine hK.out _ _ ?_
                clear hK K
                try simp only [Act.put, List.setIfInBounds_toArray, List.set_cons_zero, List.set_cons_succ]
                refine wpAnyLast_done (by kernel_rfl) ?_ _
                refine NoPanic.normal ?_
                go_step
                go_step
                gi_meet
                case rel => exact ⟨g3, g4, c1, c2, A1, A2, rfl, rfl, GE_g3, GE_g4, ⟨N1g3.out.1, N1g4.out.1, N34.out⟩, E, D2, B3, B4, RM, RI, HB⟩
              exact AllReadyL.nil
            exact AllReadyL.nil
          exact AllReadyL.nil
        exact AllReadyL.nil
      refine AllReadyL.cons (o := Oper.mk _ _ _ _ _ _) rfl (by decide) (fun K hK => ?_) ?_
      · refine rg_alloc HB (by rfl) (#[.int .i64 0, .slice none 0 0]) 38 (by first | (go_simp; done) | (go_simp; rfl)) ?_
        intro g3 W' G3 GE_g3 B3 HBn hb
        have N1g3 := Aside0.mk (show g1 < g3 ∧ g2 < g3 by have := L1.out.1; have := L1.out.2.1; have := HZ.out; have := G3.out; omega)
        clear HBn
        replace E := E.below hb.out
        replace D2 := D2.below hb.out
        replace HB := HB.step hb.out
        replace HZ := Aside0.mk (Nat.le_trans HZ.out hb.out.size)
        replace RM := Aside0.mk (row_below RM.out hb.out)
        refine hK.out _ _ E (fun hS => ?_)
        clear hK K hb G3
        try simp only [Act.put, List.setIfInBounds_toArray, List.set_cons_zero, List.set_cons_succ]
        refine wpAnyLast_ready (rs := [3, 5]) (by kernel_rfl) (by simp) ?_
        refine AllReadyL.cons (o := Oper.mk _ _ _ _ _ _) rfl (by decide) (fun K hK => ?_) ?_
        · refine call_ 24 #[.string s] (by rfl) rfl (by first | (go_simp; done) | (go_simp; rfl)) ((quotes_Inside.walk s _ HS.out).mono ?_)
          rintro e W' ⟨v, rfl, hrow, hb'⟩
          obtain ⟨A2, c2, rfl⟩ := own_slice hrow
          rw [← HNW.out] at hrow ⊢
          have hb := Aside0.mk hb'
          have RI := Aside0.mk (row_mono hrow HB.le)
          have V2 := Aside0.mk (row_one hrow)
          clear hrow hb'
          replace E := E.below hb.out
          replace D2 := D2.below hb.out
          replace HB := HB.step hb.out
          replace HZ := Aside0.mk (Nat.le_trans HZ.out hb.out.size)
          replace RM := Aside0.mk (row_below RM.out hb.out)
          replace B3 := B3.below hb.out
          refine ⟨_, rfl, ?_⟩
          refine hK.out _ _ E (fun hS => ?_)
          clear hK K hb
          try simp only [Act.put, List.setIfInBounds_toArray, List.set_cons_zero, List.set_cons_succ]
          refine wpAnyLast_ready (rs := [5]) (by kernel_rfl) (by simp) ?_
          refine AllReadyL.cons (o := Oper.mk _ _ _ _ _ _) rfl (by decide) (fun K hK => ?_) ?_
          · refine rg_alloc HB (by rfl) (#[.int .i64 0, .slice none 0 0]) 38 (by first | (go_simp; done) | (go_simp; rfl)) ?_
            intro g4 W' G4 GE_g4 B4 HBn hb
            have N1g4 := Aside0.mk (show g1 < g4 ∧ g2 < g4 by have := L1.out.1; have := L1.out.2.1; have := HZ.out; have := G4.out; omega)
            have N34 := Aside0.mk (show g3 ≠ g4 by have := B3.lt; have := G4.out; omega)
            clear HBn
            replace E := E.below hb.out
            replace D2 := D2.below hb.out
            replace HB := HB.step hb.out
            replace HZ := Aside0.mk (Nat.le_trans HZ.out hb.out.size)
            replace RM := Aside0.mk (row_below RM.out hb.out)
            replace RI := Aside0.mk (row_below RI.out hb.out)
            replace B3 := B3.below hb.out
            refine hK.out _ _ E (fun hS => ?_)
            clear hK K hb G4
            try simp only [Act.put, List.setIfInBounds_toArray, List.set_cons_zero, List.set_cons_succ]
            refine wpAnyLast_ready (rs := [6]) (by kernel_rfl) (by simp) ?_
            refine AllReadyL.cons_last (o := Oper.mk _ _ _ _ _ _) rfl (by decide) (fun K hK => ?_) ?_
            · refine rg_store HB (by rfl) B3 GE_g3 38 _ _ rfl rfl rfl (by kernel_rfl) rfl (by simp [Value.oneCell']) ?_
              intro w6 B3n HBn K6
              replace E := E.other K6 (Nat.ne_of_lt N1g3.out.1)
              replace D2 := D2.other K6 (Nat.ne_of_lt N1g3.out.2)
              replace B4 := B4.other K6 (Ne.symm N34.out)
              replace RM := Aside0.mk (row_other RM.out B3 (by decide) K6)
              replace RI := Aside0.mk (row_other RI.out B3 (by decide) K6)
              replace B3 := B3n
              replace HB := HBn
              clear B3n HBn K6 HZ
              have HZ := Aside0.mk (Nat.le_refl 0)
              refine hK.out _ _ ?_
              clear hK K
              try simp only [Act.put, List.setIfInBounds_toArray, List.set_cons_zero, List.set_cons_succ]
              refine wpAnyLast_ready (rs := [7]) (by kernel_rfl) (by simp) ?_
              refine AllReadyL.cons_last (o := Oper.mk _ _ _ _ _ _) rfl (by decide) (fun K hK => ?_) ?_
              · refine rg_store HB (by rfl) B4 GE_g4 38 _ _ rfl rfl rfl (by kernel_rfl) rfl (by simp [Value.oneCell']) ?_
                intro w7 B4n HBn K7
                replace E := E.other K7 (Nat.ne_of_lt N1g4.out.1)
                replace D2 := D2.other K7 (Nat.ne_of_lt N1g4.out.2)
                replace B3 := B3.other K7 N34.out
                replace RM := Aside0.mk (row_other RM.out B4 (by decide) K7)
                replace RI := Aside0.mk (row_other RI.out B4 (by decide) K7)
                replace B4 := B4n
                replace HB := HBn
                clear B4n HBn K7 HZ
                have HZ := Aside0.mk (Nat.le_refl 0)
                refine hK.out _ _ ?_
                clear hK K
                try simp only [Act.put, List.setIfInBounds_toArray, List.set_cons_zero, List.set_cons_succ]
                refine wpAnyLast_done (by kernel_rfl) ?_ _
                refine NoPanic.normal ?_
                go_step
                go_step
                gi_meet
                case rel => exact ⟨g3, g4, c1, c2, A1, A2, rfl, rfl, GE_g3, GE_g4, ⟨N1g3.out.1, N1g4.out.1, N34.out⟩, E, D2, B3, B4, RM, RI, HB⟩
              exact AllReadyL.nil
            exact AllReadyL.nil
          exact AllReadyL.nil
        refine AllReadyL.cons (o := Oper.mk _ _ _ _ _ _) rfl (by decide) (fun K hK => ?_) ?_
        · refine rg_alloc HB (by rfl) (#[.int .i64 0, .slice none 0 0]) 38 (by first | (go_simp; done) | (go_simp; rfl)) ?_
          intro g4 W' G4 GE_g4 B4 HBn hb
          have N1g4 := Aside0.mk (show g1 < g4 ∧ g2 < g4 by have := L1.out.1; have := L1.out.2.1; have := HZ.out; have := G4.out; omega)
          have N34 := Aside0.mk (show g3 ≠ g4 by have := B3.lt; have := G4.out; omega)
          clear HBn
          replace E := E.below hb.out
          replace D2 := D2.below hb.out
          replace HB := HB.step hb.out
          replace HZ := Aside0.mk (Nat.le_trans HZ.out hb.out.size)
          replace RM := Aside0.mk (row_below RM.out hb.out)
          replace B3 := B3.below hb.out
          refine hK.out _ _ E (fun hS => ?_)
          clear hK K hb G4
          try simp only [Act.put, List.setIfInBounds_toArray, List.set_cons_zero, List.set_cons_succ]
          refine wpAnyLast_ready (rs := [3]) (by kernel_rfl) (by simp) ?_
          refine AllReadyL.cons (o := Oper.mk _ _ _ _ _ _) rfl (by decide) (fun K hK => ?_) ?_
          · refine call_ 24 #[.string s] (by rfl) rfl (by first | (go_simp; done) | (go_simp; rfl)) ((quotes_Inside.walk s _ HS.out).mono ?_)
            rintro e W' ⟨v, rfl, hrow, hb'⟩
            obtain ⟨A2, c2, rfl⟩ := own_slice hrow
            rw [← HNW.out] at hrow ⊢
            have hb := Aside0.mk hb'
            have RI := Aside0.mk (row_mono hrow HB.le)
            have V2 := Aside0.mk (row_one hrow)
            clear hrow hb'
            replace E := E.below hb.out
            replace D2 := D2.below hb.out
            replace HB := HB.step hb.out
            replace HZ := Aside0.mk (Nat.le_trans HZ.out hb.out.size)
            replace RM := Aside0.mk (row_below RM.out hb.out)
            replace B3 := B3.below hb.out
            replace B4 := B4.below hb.out
            refine ⟨_, rfl, ?_⟩
            refine hK.out _ _ E (fun hS => ?_)
            clear hK K hb
            try simp only [Act.put, List.setIfInBounds_toArray, List.set_cons_zero, List.set_cons_succ]
            refine wpAnyLast_ready (rs := [6]) (by kernel_rfl) (by simp) ?_
            refine AllReadyL.cons_last (o := Oper.mk _ _ _ _ _ _) rfl (by decide) (fun K hK => ?_) ?_
            · refine rg_store HB (by rfl) B3 GE_g3 38 _ _ rfl rfl rfl (by kernel_rfl) rfl (by simp [Value.oneCell']) ?_
              intro w6 B3n HBn K6
              replace E := E.other K6 (Nat.ne_of_lt N1g3.out.1)
              replace D2 := D2.other K6 (Nat.ne_of_lt N1g3.out.2)
              replace B4 := B4.other K6 (Ne.symm N34.out)
              replace RM := Aside0.mk (row_other RM.out B3 (by decide) K6)
              replace RI := Aside0.mk (row_other RI.out B3 (by decide) K6)
              replace B3 := B3n
              replace HB := HBn
              clear B3n HBn K6 HZ
              have HZ := Aside0.mk (Nat.le_refl 0)
              refine hK.out _ _ ?_
              clear hK K
              try simp only [Act.put, List.setIfInBounds_toArray, List.set_cons_zero, List.set_cons_succ]
              refine wpAnyLast_ready (rs := [7]) (by kernel_rfl) (by simp) ?_
              refine AllReadyL.cons_last (o := Oper.mk _ _ _ _ _ _) rfl (by decide) (fun K hK => ?_) ?_
              · refine rg_store HB (by rfl) B4 GE_g4 38 _ _ rfl rfl rfl (by kernel_rfl) rfl (by simp [Value.oneCell']) ?_
                intro w7 B4n HBn K7
                replace E := E.other K7 (Nat.ne_of_lt N1g4.out.1)
                replace D2 := D2.other K7 (Nat.ne_of_lt N1g4.out.2)
                replace B3 := B3.other K7 N34.out
                replace RM := Aside0.mk (row_other RM.out B4 (by decide) K7)
                replace RI := Aside0.mk (row_other RI.out B4 (by decide) K7)
                replace B4 := B4n
                replace HB := HBn
                clear B4n HBn K7 HZ
                have HZ := Aside0.mk (Nat.le_refl 0)
                refine hK.out _ _ ?_
                clear hK K
                try simp only [Act.put, List.setIfInBounds_toArray, List.set_cons_zero, List.set_cons_succ]
                refine wpAnyLast_done (by kernel_rfl) ?_ _
                refine NoPanic.normal ?_
                go_step
                go_step
                gi_meet
                case rel => exact ⟨g3, g4, c1, c2, A1, A2, rfl, rfl, GE_g3, GE_g4, ⟨N1g3.out.1, N1g4.out.1, N34.out⟩, E, D2, B3, B4, RM, RI, HB⟩
              exact AllReadyL.nil
            exact AllReadyL.nil
          exact AllReadyL.nil
        exact AllReadyL.nil
      refine AllReadyL.cons (o := Oper.mk _ _ _ _ _ _) rfl (by decide) (fun K hK => ?_) ?_
      · refine rg_alloc HB (by rfl) (#[.int .i64 0, .slice none 0 0]) 38 (by first | (go_simp; done) | (go_simp; rfl)) ?_
        intro g4 W' G4 GE_g4 B4 HBn hb
        have N1g4 := Aside0.mk (show g1 < g4 ∧ g2 < g4 by have := L1.out.1; have := L1.out.2.1; have := HZ.out; have := G4.out; omega)
        clear HBn
        replace E := E.below hb.out
        replace D2 := D2.below hb.out
        replace HB := HB.step hb.out
        replace HZ := Aside0.mk (Nat.le_trans HZ.out hb.out.size)
        replace RM := Aside0.mk (row_below RM.out hb.out)
        refine hK.out _ _ E (fun hS => ?_)
        clear hK K hb G4
        try simp only [Act.put, List.setIfInBounds_toArray, List.set_cons_zero, List.set_cons_succ]
        refine wpAnyLast_ready (rs := [3, 4]) (by kernel_rfl) (by simp) ?_
        refine AllReadyL.cons (o := Oper.mk _ _ _ _ _ _) rfl (by decide) (fun K hK => ?_) ?_
        · refine call_ 24 #[.string s] (by rfl) rfl (by first | (go_simp; done) | (go_simp; rfl)) ((quotes_Inside.walk s _ HS.out).mono ?_)
          rintro e W' ⟨v, rfl, hrow, hb'⟩
          obtain ⟨A2, c2, rfl⟩ := own_slice hrow
          rw [← HNW.out] at hrow ⊢
          have hb := Aside0.mk hb'
          have RI := Aside0.mk (row_mono hrow HB.le)
          have V2 := Aside0.mk (row_one hrow)
          clear hrow hb'
          replace E := E.below hb.out
          replace D2 := D2.below hb.out
          replace HB := HB.step hb.out
          replace HZ := Aside0.mk (Nat.le_trans HZ.out hb.out.size)
          replace RM := Aside0.mk (row_below RM.out hb.out)
          replace B4 := B4.below hb.out
          refine ⟨_, rfl, ?_⟩
          refine hK.out _ _ E (fun hS => ?_)
          clear hK K hb
          try simp only [Act.put, List.setIfInBounds_toArray, List.set_cons_zero, List.set_cons_succ]
          refine wpAnyLast_ready (rs := [4]) (by kernel_rfl) (by simp) ?_
          refine AllReadyL.cons (o := Oper.mk _ _ _ _ _ _) rfl (by decide) (fun K hK => ?_) ?_
          · refine rg_alloc HB (by rfl) (#[.int .i64 0, .slice none 0 0]) 38 (by first | (go_simp; done) | (go_simp; rfl)) ?_
            intro g3 W' G3 GE_g3 B3 HBn hb
            have N1g3 := Aside0.mk (show g1 < g3 ∧ g2 < g3 by have := L1.out.1; have := L1.out.2.1; have := HZ.out; have := G3.out; omega)
            have N34 := Aside0.mk (show g3 ≠ g4 by have := B4.lt; have := G3.out; omega)
            clear HBn
            replace E := E.below hb.out
            replace D2 := D2.below hb.out
            replace HB := HB.step hb.out
            replace HZ := Aside0.mk (Nat.le_trans HZ.out hb.out.size)
            replace RM := Aside0.mk (row_below RM.out hb.out)
            replace RI := Aside0.mk (row_below RI.out hb.out)
            replace B4 := B4.below hb.out
            refine hK.out _ _ E (fun hS => ?_)
            clear hK K hb G3
            try simp only [Act.put, List.setIfInBounds_toArray, List.set_cons_zero, List.set_cons_succ]
            refine wpAnyLast_ready (rs := [6]) (by kernel_rfl) (by simp) ?_
            refine AllReadyL.cons_last (o := Oper.mk _ _ _ _ _ _) rfl (by decide) (fun K hK => ?_) ?_
            · refine rg_store HB (by rfl) B3 GE_g3 38 _ _ rfl rfl rfl (by kernel_rfl) rfl (by simp [Value.oneCell']) ?_
              intro w6 B3n HBn K6
              replace E := E.other K6 (Nat.ne_of_lt N1g3.out.1)
              replace D2 := D2.other K6 (Nat.ne_of_lt N1g3.out.2)
              replace B4 := B4.other K6 (Ne.symm N34.out)
              replace RM := Aside0.mk (row_other RM.out B3 (by decide) K6)
              replace RI := Aside0.mk (row_other RI.out B3 (by decide) K6)
              replace B3 := B3n
              replace HB := HBn
              clear B3n HBn K6 HZ
              have HZ := Aside0.mk (Nat.le_refl 0)
              refine hK.out _ _ ?_
              clear hK K
              try simp only [Act.put, List.setIfInBounds_toArray, List.set_cons_zero, List.set_cons_succ]
              refine wpAnyLast_ready (rs := [7]) (by kernel_rfl) (by simp) ?_
              refine AllReadyL.cons_last (o := Oper.mk _ _ _ _ _ _) rfl (by decide) (fun K hK => ?_) ?_
              · refine rg_store HB (by rfl) B4 GE_g4 38 _ _ rfl rfl rfl (by kernel_rfl) rfl (by simp [Value.oneCell']) ?_
                intro w7 B4n HBn K7
                replace E := E.other K7 (Nat.ne_of_lt N1g4.out.1)
                replace D2 := D2.other K7 (Nat.ne_of_lt N1g4.out.2)
                replace B3 := B3.other K7 N34.out
                replace RM := Aside0.mk (row_other RM.out B4 (by decide) K7)
                replace RI := Aside0.mk (row_other RI.out B4 (by decide) K7)
                replace B4 := B4n
                replace HB := HBn
                clear B4n HBn K7 HZ
                have HZ := Aside0.mk (Nat.le_refl 0)
                refine hK.out _ _ ?_
                clear hK K
                try simp only [Act.put, List.setIfInBounds_toArray, List.set_cons_zero, List.set_cons_succ]
                refine wpAnyLast_done (by kernel_rfl) ?_ _
                refine NoPanic.normal ?_
                go_step
                go_step
                gi_meet
                case rel => exact ⟨g3, g4, c1, c2, A1, A2, rfl, rfl, GE_g3, GE_g4, ⟨N1g3.out.1, N1g4.out.1, N34.out⟩, E, D2, B3, B4, RM, RI, HB⟩
              exact AllReadyL.nil
            exact AllReadyL.nil
          exact AllReadyL.nil
        refine AllReadyL.cons (o := Oper.mk _ _ _ _ _ _) rfl (by decide) (fun K hK => ?_) ?_
        · refine rg_alloc HB (by rfl) (#[.int .i64 0, .slice none 0 0]) 38 (by first | (go_simp; done) | (go_simp; rfl)) ?_
          intro g3 W' G3 GE_g3 B3 HBn hb
          have N1g3 := Aside0.mk (show g1 < g3 ∧ g2 < g3 by have := L1.out.1; have := L1.out.2.1; have := HZ.out; have := G3.out; omega)
          have N34 := Aside0.mk (show g3 ≠ g4 by have := B4.lt; have := G3.out; omega)
          clear HBn
          replace E := E.below hb.out
          replace D2 := D2.below hb.out
          replace HB := HB.step hb.out
          replace HZ := Aside0.mk (Nat.le_trans HZ.out hb.out.size)
          replace RM := Aside0.mk (row_below RM.out hb.out)
          replace B4 := B4.below hb.out
          refine hK.out _ _ E (fun hS => ?_)
          clear hK K hb G3
          try simp only [Act.put, List.setIfInBounds_toArray, List.set_cons_zero, List.set_cons_succ]
          refine wpAnyLast_ready (rs := [3]) (by kernel_rfl) (by simp) ?_
          refine AllReadyL.cons (o := Oper.mk _ _ _ _ _ _) rfl (by decide) (fun K hK => ?_) ?_
          · refine call_ 24 #[.string s] (by rfl) rfl (by first | (go_simp; done) | (go_simp; rfl)) ((quotes_Inside.walk s _ HS.out).mono ?_)
            rintro e W' ⟨v, rfl, hrow, hb'⟩
            obtain ⟨A2, c2, rfl⟩ := own_slice hrow
            rw [← HNW.out] at hrow ⊢
            have hb := Aside0.mk hb'
            have RI := Aside0.mk (row_mono hrow HB.le)
            have V2 := Aside0.mk (row_one hrow)
            clear hrow hb'
            replace E := E.below hb.out
            replace D2 := D2.below hb.out
            replace HB := HB.step hb.out
            replace HZ := Aside0.mk (Nat.le_trans HZ.out hb.out.size)
            replace RM := Aside0.mk (row_below RM.out hb.out)
            replace B3 := B3.below hb.out
            replace B4 := B4.below hb.out
            refine ⟨_, rfl, ?_⟩
            refine hK.out _ _ E (fun hS => ?_)
            clear hK K hb
            try simp only [Act.put, List.setIfInBounds_toArray, List.set_cons_zero, List.set_cons_succ]
            refine wpAnyLast_ready (rs := [6]) (by kernel_rfl) (by simp) ?_
            refine AllReadyL.cons_last (o := Oper.mk _ _ _ _ _ _) rfl (by decide) (fun K hK => ?_) ?_
            · refine rg_store HB (by rfl) B3 GE_g3 38 _ _ rfl rfl rfl (by kernel_rfl) rfl (by simp [Value.oneCell']) ?_
              intro w6 B3n HBn K6
              replace E := E.other K6 (Nat.ne_of_lt N1g3.out.1)
              replace D2 := D2.other K6 (Nat.ne_of_lt N1g3.out.2)
              replace B4 := B4.other K6 (Ne.symm N34.out)
              replace RM := Aside0.mk (row_other RM.out B3 (by decide) K6)
              replace RI := Aside0.mk (row_other RI.out B3 (by decide) K6)
              replace B3 := B3n
              replace HB := HBn
              clear B3n HBn K6 HZ
              have HZ := Aside0.mk (Nat.le_refl 0)
              refine hK.out _ _ ?_
              clear hK K
              try simp only [Act.put, List.setIfInBounds_toArray, List.set_cons_zero, List.set_cons_succ]
              refine wpAnyLast_ready (rs := [7]) (by kernel_rfl) (by simp) ?_
              refine AllReadyL.cons_last (o := Oper.mk _ _ _ _ _ _) rfl (by decide) (fun K hK => ?_) ?_
              · refine rg_store HB (by rfl) B4 GE_g4 38 _ _ rfl rfl rfl (by kernel_rfl) rfl (by simp [Value.oneCell']) ?_
                intro w7 B4n HBn K7
                replace E := E.other K7 (Nat.ne_of_lt N1g4.out.1)
                replace D2 := D2.other K7 (Nat.ne_of_lt N1g4.out.2)
                replace B3 := B3.other K7 N34.out
                replace RM := Aside0.mk (row_other RM.out B4 (by decide) K7)
                replace RI := Aside0.mk (row_other RI.out B4 (by decide) K7)
                replace B4 := B4n
                replace HB := HBn
                clear B4n HBn K7 HZ
                have HZ := Aside0.mk (Nat.le_refl 0)
                refine hK.out _ _ ?_
                clear hK K
                try simp only [Act.put, List.setIfInBounds_toArray, List.set_cons_zero, List.set_cons_succ]
                refine wpAnyLast_done (by kernel_rfl) ?_ _
                refine NoPanic.normal ?_
                go_step
                go_step
                gi_meet
                case rel => exact ⟨g3, g4, c1, c2, A1, A2, rfl, rfl, GE_g3, GE_g4, ⟨N1g3.out.1, N1g4.out.1, N34.out⟩, E, D2, B3, B4, RM, RI, HB⟩
              exact AllReadyL.nil
            exact AllReadyL.nil
          exact AllReadyL.nil
        exact AllReadyL.nil
      exact AllReadyL.nil
    refine AllReadyL.cons (o := Oper.mk _ _ _ _ _ _) rfl (by decide) (fun K hK => ?_) ?_
    · refine rg_alloc HB (by rfl) (#[.int .i64 0, .slice none 0 0]) 38 (by first | (go_simp; done) | (go_simp; rfl)) ?_
      intro g3 W' G3 GE_g3 B3 HBn hb
      have N1g3 := Aside0.mk (show g1 < g3 ∧ g2 < g3 by have := L1.out.1; have := L1.out.2.1; have := HZ.out; have := G3.out; omega)
      clear HBn
      replace E := E.below hb.out
      replace D2 := D2.below hb.out
      replace HB := HB.step hb.out
      replace HZ := Aside0.mk (Nat.le_trans HZ.out hb.out.size)
      refine hK.out _ _ E (fun hS => ?_)
      clear hK K hb G3
      try simp only [Act.put, List.setIfInBounds_toArray, List.set_cons_zero, List.set_cons_succ]
      refine wpAnyLast_ready (rs := [1, 5]) (by kernel_rfl) (by simp) ?_
      refine AllReadyL.cons (o := Oper.mk _ _ _ _ _ _) rfl (by decide) (fun K hK => ?_) ?_
      · refine call_ 22 #[.string s] (by rfl) rfl (by first | (go_simp; done) | (go_simp; rfl)) ((quotes_Marks.walk s _ HS.out).mono ?_)
        rintro e W' ⟨v, rfl, hrow, hb'⟩
        obtain ⟨A1, c1, rfl⟩ := own_slice hrow
        rw [← HNW.out] at hrow ⊢
        have hb := Aside0.mk hb'
        have RM := Aside0.mk (row_mono hrow HB.le)
        have V1 := Aside0.mk (row_one hrow)
        clear hrow hb'
        replace E := E.below hb.out
        replace D2 := D2.below hb.out
        replace HB := HB.step hb.out
        replace HZ := Aside0.mk (Nat.le_trans HZ.out hb.out.size)
        replace B3 := B3.below hb.out
        refine ⟨_, rfl, ?_⟩
        refine hK.out _ _ E (fun hS => ?_)
        clear hK K hb
        try simp only [Act.put, List.setIfInBounds_toArray, List.set_cons_zero, List.set_cons_succ]
        refine wpAnyLast_ready (rs := [3, 5]) (by kernel_rfl) (by simp) ?_
        refine AllReadyL.cons (o := Oper.mk _ _ _ _ _ _) rfl (by decide) (fun K hK => ?_) ?_
        · refine call_ 24 #[.string s] (by rfl) rfl (by first | (go_simp; done) | (go_simp; rfl)) ((quotes_Inside.walk s _ HS.out).mono ?_)
          rintro e W' ⟨v, rfl, hrow, hb'⟩
          obtain ⟨A2, c2, rfl⟩ := own_slice hrow
          rw [← HNW.out] at hrow ⊢
          have hb := Aside0.mk hb'
          have RI := Aside0.mk (row_mono hrow HB.le)
          have V2 := Aside0.mk (row_one hrow)
          clear hrow hb'
          replace E := E.below hb.out
          replace D2 := D2.below hb.out
          replace HB := HB.step hb.out
          replace HZ := Aside0.mk (Nat.le_trans HZ.out hb.out.size)
          replace RM := Aside0.mk (row_below RM.out hb.out)
          replace B3 := B3.below hb.out
          refine ⟨_, rfl, ?_⟩
          refine hK.out _ _ E (fun hS => ?_)
          clear hK K hb
          try simp only [Act.put, List.setIfInBounds_toArray, List.set_cons_zero, List.set_cons_succ]
          refine wpAnyLast_ready (rs := [5]) (by kernel_rfl) (by simp) ?_
          refine AllReadyL.cons (o := Oper.mk _ _ _ _ _ _) rfl (by decide) (fun K hK => ?_) ?_
          · refine rg_alloc HB (by rfl) (#[.int .i64 0, .slice none 0 0]) 38 (by first | (go_simp; done) | (go_simp; rfl)) ?_
            intro g4 W' G4 GE_g4 B4 HBn hb
            have N1g4 := Aside0.mk (show g1 < g4 ∧ g2 < g4 by have := L1.out.1; have := L1.out.2.1; have := HZ.out; have := G4.out; omega)
            have N34 := Aside0.mk (show g3 ≠ g4 by have := B3.lt; have := G4.out; omega)
            clear HBn
            replace E := E.below hb.out
            replace D2 := D2.below hb.out
            replace HB := HB.step hb.out
            replace HZ := Aside0.mk (Nat.le_trans HZ.out hb.out.size)
            replace RM := Aside0.mk (row_below RM.out hb.out)
            replace RI := Aside0.mk (row_below RI.out hb.out)
            replace B3 := B3.below hb.out
            refine hK.out _ _ E (fun hS => ?_)
            clear hK K hb G4
            try simp only [Act.put, List.setIfInBounds_toArray, List.set_cons_zero, List.set_cons_succ]
            refine wpAnyLast_ready (rs := [6]) (by kernel_rfl) (by simp) ?_
            refine AllReadyL.cons_last (o := Oper.mk _ _ _ _ _ _) rfl (by decide) (fun K hK => ?_) ?_
            · refine rg_store HB (by rfl) B3 GE_g3 38 _ _ rfl rfl rfl (by kernel_rfl) rfl (by simp [Value.oneCell']) ?_
              intro w6 B3n HBn K6
              replace E := E.other K6 (Nat.ne_of_lt N1g3.out.1)
              replace D2 := D2.other K6 (Nat.ne_of_lt N1g3.out.2)
              replace B4 := B4.other K6 (Ne.symm N34.out)
              replace RM := Aside0.mk (row_other RM.out B3 (by decide) K6)
              replace RI := Aside0.mk (row_other RI.out B3 (by decide) K6)
              replace B3 := B3n
              replace HB := HBn
              clear B3n HBn K6 HZ
              have HZ := Aside0.mk (Nat.le_refl 0)
              refine hK.out _ _ ?_
              clear hK K
              try simp only [Act.put, List.setIfInBounds_toArray, List.set_cons_zero, List.set_cons_succ]
              refine wpAnyLast_ready (rs := [7]) (by kernel_rfl) (by simp) ?_
              refine AllReadyL.cons_last (o := Oper.mk _ _ _ _ _ _) rfl (by decide) (fun K hK => ?_) ?_
              · refine rg_store HB (by rfl) B4 GE_g4 38 _ _ rfl rfl rfl (by kernel_rfl) rfl (by simp [Value.oneCell']) ?_
                intro w7 B4n HBn K7
                replace E := E.other K7 (Nat.ne_of_lt N1g4.out.1)
                replace D2 := D2.other K7 (Nat.ne_of_lt N1g4.out.2)
                replace B3 := B3.other K7 N34.out
                replace RM := Aside0.mk (row_other RM.out B4 (by decide) K7)
                replace RI := Aside0.mk (row_other RI.out B4 (by decide) K7)
                replace B4 := B4n
                replace HB := HBn
                clear B4n HBn K7 HZ
                have HZ := Aside0.mk (Nat.le_refl 0)
                refine hK.out _ _ ?_
                clear hK K
                try simp only [Act.put, List.setIfInBounds_toArray, List.set_cons_zero, List.set_cons_succ]
                refine wpAnyLast_done (by kernel_rfl) ?_ _
                refine NoPanic.normal ?_
                go_step
                go_step
                gi_meet
                case rel => exact ⟨g3, g4, c1, c2, A1, A2, rfl, rfl, GE_g3, GE_g4, ⟨N1g3.out.1, N1g4.out.1, N34.out⟩, E, D2, B3, B4, RM, RI, HB⟩
              exact AllReadyL.nil
            exact AllReadyL.nil
          exact AllReadyL.nil
        refine AllReadyL.cons (o := Oper.mk _ _ _ _ _ _) rfl (by decide) (fun K hK => ?_) ?_
        · refine rg_alloc HB (by rfl) (#[.int .i64 0, .slice none 0 0]) 38 (by first | (go_simp; done) | (go_simp; rfl)) ?_
          intro g4 W' G4 GE_g4 B4 HBn hb
          have N1g4 := Aside0.mk (show g1 < g4 ∧ g2 < g4 by have := L1.out.1; have := L1.out.2.1; have := HZ.out; have := G4.out; omega)
          have N34 := Aside0.mk (show g3 ≠ g4 by have := B3.lt; have := G4.out; omega)
          clear HBn
          replace E := E.below hb.out
          replace D2 := D2.below hb.out
          replace HB := HB.step hb.out
          replace HZ := Aside0.mk (Nat.le_trans HZ.out hb.out.size)
          replace RM := Aside0.mk (row_below RM.out hb.out)
          replace B3 := B3.below hb.out
          refine hK.out _ _ E (fun hS => ?_)
          clear hK K hb G4
          try simp only [Act.put, List.setIfInBounds_toArray, List.set_cons_zero, List.set_cons_succ]
          refine wpAnyLast_ready (rs := [3]) (by kernel_rfl) (by simp) ?_
          refine AllReadyL.cons (o := Oper.mk _ _ _ _ _ _) rfl (by decide) (fun K hK => ?_) ?_
          · refine call_ 24 #[.string s] (by rfl) rfl (by first | (go_simp; done) | (go_simp; rfl)) ((quotes_Inside.walk s _ HS.out).mono ?_)
            rintro e W' ⟨v, rfl, hrow, hb'⟩
            obtain ⟨A2, c2, rfl⟩ := own_slice hrow
            rw [← HNW.out] at hrow ⊢
            have hb := Aside0.mk hb'
            have RI := Aside0.mk (row_mono hrow HB.le)
            have V2 := Aside0.mk (row_one hrow)
            clear hrow hb'
            replace E := E.below hb.out
            replace D2 := D2.below hb.out
            replace HB := HB.step hb.out
            replace HZ := Aside0.mk (Nat.le_trans HZ.out hb.out.size)
            replace RM := Aside0.mk (row_below RM.out hb.out)
            replace B3 := B3.below hb.out
            replace B4 := B4.below hb.out
            refine ⟨_, rfl, ?_⟩
            refine hK.out _ _ E (fun hS => ?_)
            clear hK K hb
            try simp only [Act.put, List.setIfInBounds_toArray, List.set_cons_zero, List.set_cons_succ]
            refine wpAnyLast_ready (rs := [6]) (by kernel_rfl) (by simp) ?_
            refine AllReadyL.cons_last (o := Oper.mk _ _ _ _ _ _) rfl (by decide) (fun K hK => ?_) ?_
            · refine rg_store HB (by rfl) B3 GE_g3 38 _ _ rfl rfl rfl (by kernel_rfl) rfl (by simp [Value.oneCell']) ?_
              intro w6 B3n HBn K6
              replace E := E.other K6 (Nat.ne_of_lt N1g3.out.1)
              replace D2 := D2.other K6 (Nat.ne_of_lt N1g3.out.2)
              replace B4 := B4.other K6 (Ne.symm N34.out)
              replace RM := Aside0.mk (row_other RM.out B3 (by decide) K6)
              replace RI := Aside0.mk (row_other RI.out B3 (by decide) K6)
              replace B3 := B3n
              replace HB := HBn
              clear B3n HBn K6 HZ
              have HZ := Aside0.mk (Nat.le_refl 0)
              refine hK.out _ _ ?_
              clear hK K
              try simp only [Act.put, List.setIfInBounds_toArray, List.set_cons_zero, List.set_cons_succ]
              refine wpAnyLast_ready (rs := [7]) (by kernel_rfl) (by simp) ?_
              refine AllReadyL.cons_last (o := Oper.mk _ _ _ _ _ _) rfl (by decide) (fun K hK => ?_) ?_
              · refine rg_store HB (by rfl) B4 GE_g4 38 _ _ rfl rfl rfl (by kernel_rfl) rfl (by simp [Value.oneCell']) ?_
                intro w7 B4n HBn K7
                replace E := E.other K7 (Nat.ne_of_lt N1g4.out.1)
                replace D2 := D2.other K7 (Nat.ne_of_lt N1g4.out.2)
                replace B3 := B3.other K7 N34.out
                replace RM := Aside0.mk (row_other RM.out B4 (by decide) K7)
                replace RI := Aside0.mk (row_other RI.out B4 (by decide) K7)
                replace B4 := B4n
                replace HB := HBn
                clear B4n HBn K7 HZ
                have HZ := Aside0.mk (Nat.le_refl 0)
                refine hK.out _ _ ?_
                clear hK K
                try simp only [Act.put, List.setIfInBounds_toArray, List.set_cons_zero, List.set_cons_succ]
                refine wpAnyLast_done (by kernel_rfl) ?_ _
                refine NoPanic.normal ?_
                go_step
                go_step
                gi_meet
                case rel => exact ⟨g3, g4, c1, c2, A1, A2, rfl, rfl, GE_g3, GE_g4, ⟨N1g3.out.1, N1g4.out.1, N34.out⟩, E, D2, B3, B4, RM, RI, HB⟩
              exact AllReadyL.nil
            exact AllReadyL.nil
          exact AllReadyL.nil
        exact AllReadyL.nil
      refine AllReadyL.cons (o := Oper.mk _ _ _ _ _ _) rfl (by decide) (fun K hK => ?_) ?_
      · refine rg_alloc HB (by rfl) (#[.int .i64 0, .slice none 0 0]) 38 (by first | (go_simp; done) | (go_simp; rfl)) ?_
        intro g4 W' G4 GE_g4 B4 HBn hb
        have N1g4 := Aside0.mk (show g1 < g4 ∧ g2 < g4 by have := L1.out.1; have := L1.out.2.1; have := HZ.out; have := G4.out; omega)
        have N34 := Aside0.mk (show g3 ≠ g4 by have := B3.lt; have := G4.out; omega)
        clear HBn
        replace E := E.below hb.out
        replace D2 := D2.below hb.out
        replace HB := HB.step hb.out
        replace HZ := Aside0.mk (Nat.le_trans HZ.out hb.out.size)
        replace B3 := B3.below hb.out
        refine hK.out _ _ E (fun hS => ?_)
        clear hK K hb G4
        try simp only [Act.put, List.setIfInBounds_toArray, List.set_cons_zero, List.set_cons_succ]
        refine wpAnyLast_ready (rs := [1]) (by kernel_rfl) (by simp) ?_
        refine AllReadyL.cons (o := Oper.mk _ _ _ _ _ _) rfl (by decide) (fun K hK => ?_) ?_
        · refine call_ 22 #[.string s] (by rfl) rfl (by first | (go_simp; done) | (go_simp; rfl)) ((quotes_Marks.walk s _ HS.out).mono ?_)
          rintro e W' ⟨v, rfl, hrow, hb'⟩
          obtain ⟨A1, c1, rfl⟩ := own_slice hrow
          rw [← HNW.out] at hrow ⊢
          have hb := Aside0.mk hb'
          have RM := Aside0.mk (row_mono hrow HB.le)
          have V1 := Aside0.mk (row_one hrow)
          clear hrow hb'
          replace E := E.below hb.out
          replace D2 := D2.below hb.out
          replace HB := HB.step hb.out
          replace HZ := Aside0.mk (Nat.le_trans HZ.out hb.out.size)
          replace B3 := B3.below hb.out
          replace B4 := B4.below hb.out
          refine ⟨_, rfl, ?_⟩
          refine hK.out _ _ E (fun hS => ?_)
          clear hK K hb
          try simp only [Act.put, List.setIfInBounds_toArray, List.set_cons_zero, List.set_cons_succ]
          refine wpAnyLast_ready (rs := [3]) (by kernel_rfl) (by simp) ?_
          refine AllReadyL.cons (o := Oper.mk _ _ _ _ _ _) rfl (by decide) (fun K hK => ?_) ?_
          · refine call_ 24 #[.string s] (by rfl) rfl (by first | (go_simp; done) | (go_simp; rfl)) ((quotes_Inside.walk s _ HS.out).mono ?_)
            rintro e W' ⟨v, rfl, hrow, hb'⟩
            obtain ⟨A2, c2, rfl⟩ := own_slice hrow
            rw [← HNW.out] at hrow ⊢
            have hb := Aside0.mk hb'
            have RI := Aside0.mk (row_mono hrow HB.le)
            have V2 := Aside0.mk (row_one hrow)
            clear hrow hb'
            replace E := E.below hb.out
            replace D2 := D2.below hb.out
            replace HB := HB.step hb.out
            replace HZ := Aside0.mk (Nat.le_trans HZ.out hb.out.size)
            replace RM := Aside0.mk (row_below RM.out hb.out)
            replace B3 := B3.below hb.out
            replace B4 := B4.below hb.out
            refine ⟨_, rfl, ?_⟩
            refine hK.out _ _ E (fun hS => ?_)
            clear hK K hb
            try simp only [Act.put, List.setIfInBounds_toArray, List.set_cons_zero, List.set_cons_succ]
            refine wpAnyLast_ready (rs := [6]) (by kernel_rfl) (by simp) ?_
            refine AllReadyL.cons_last (o := Oper.mk _ _ _ _ _ _) rfl (by decide) (fun K hK => ?_) ?_
            · refine rg_store HB (by rfl) B3 GE_g3 38 _ _ rfl rfl rfl (by kernel_rfl) rfl (by simp [Value.oneCell']) ?_
              intro w6 B3n HBn K6
              replace E := E.other K6 (Nat.ne_of_lt N1g3.out.1)
              replace D2 := D2.other K6 (Nat.ne_of_lt N1g3.out.2)
              replace B4 := B4.other K6 (Ne.symm N34.out)
              replace RM := Aside0.mk (row_other RM.out B3 (by decide) K6)
              replace RI := Aside0.mk (row_other RI.out B3 (by decide) K6)
              replace B3 := B3n
              replace HB := HBn
              clear B3n HBn K6 HZ
              have HZ := Aside0.mk (Nat.le_refl 0)
              refine hK.out _ _ ?_
              clear hK K
              try simp only [Act.put, List.setIfInBounds_toArray, List.set_cons_zero, List.set_cons_succ]
              refine wpAnyLast_ready (rs := [7]) (by kernel_rfl) (by simp) ?_
              refine AllReadyL.cons_last (o := Oper.mk _ _ _ _ _ _) rfl (by decide) (fun K hK => ?_) ?_
              · refine rg_store HB (by rfl) B4 GE_g4 38 _ _ rfl rfl rfl (by kernel_rfl) rfl (by simp [Value.oneCell']) ?_
                intro w7 B4n HBn K7
                replace E := E.other K7 (Nat.ne_of_lt N1g4.out.1)
                replace D2 := D2.other K7 (Nat.ne_of_lt N1g4.out.2)
                replace B3 := B3.other K7 N34.out
                replace RM := Aside0.mk (row_other RM.out B4 (by decide) K7)
                replace RI := Aside0.mk (row_other RI.out B4 (by decide) K7)
                replace B4 := B4n
                replace HB := HBn
                clear B4n HBn K7 HZ
                have HZ := Aside0.mk (Nat.le_refl 0)
                refine hK.out _ _ ?_
                clear hK K
                try simp only [Act.put, List.setIfInBounds_toArray, List.set_cons_zero, List.set_cons_succ]
                refine wpAnyLast_done (by kernel_rfl) ?_ _
                refine NoPanic.normal ?_
                go_step
                go_step
                gi_meet
                case rel => exact ⟨g3, g4, c1, c2, A1, A2, rfl, rfl, GE_g3, GE_g4, ⟨N1g3.out.1, N1g4.out.1, N34.out⟩, E, D2, B3, B4, RM, RI, HB⟩
              exact AllReadyL.nil
            exact AllReadyL.nil
          exact AllReadyL.nil
        exact AllReadyL.nil
      exact AllReadyL.nil
    refine AllReadyL.cons (o := Oper.mk _ _ _ _ _ _) rfl (by decide) (fun K hK => ?_) ?_
    · refine rg_alloc HB (by rfl) (#[.int .i64 0, .slice none 0 0]) 38 (by first | (go_simp; done) | (go_simp; rfl)) ?_
      intro g4 W' G4 GE_g4 B4 HBn hb
      have N1g4 := Aside0.mk (show g1 < g4 ∧ g2 < g4 by have := L1.out.1; have := L1.out.2.1; have := HZ.out; have := G4.out; omega)
      clear HBn
      replace E := E.below hb.out
      replace D2 := D2.below hb.out
      replace HB := HB.step hb.out
      replace HZ := Aside0.mk (Nat.le_trans HZ.out hb.out.size)
      refine hK.out _ _ E (fun hS => ?_)
      clear hK K hb G4
      try simp only [Act.put, List.setIfInBounds_toArray, List.set_cons_zero, List.set_cons_succ]
      refine wpAnyLast_ready (rs := [1, 4]) (by kernel_rfl) (by simp) ?_
      refine AllReadyL.cons (o := Oper.mk _ _ _ _ _ _) rfl (by decide) (fun K hK => ?_) ?_
      · refine call_ 22 #[.string s] (by rfl) rfl (by first | (go_simp; done) | (go_simp; rfl)) ((quotes_Marks.walk s _ HS.out).mono ?_)
        rintro e W' ⟨v, rfl, hrow, hb'⟩
        obtain ⟨A1, c1, rfl⟩ := own_slice hrow
        rw [← HNW.out] at hrow ⊢
        have hb := Aside0.mk hb'
        have RM := Aside0.mk (row_mono hrow HB.le)
        have V1 := Aside0.mk (row_one hrow)
        clear hrow hb'
        replace E := E.below hb.out
        replace D2 := D2.below hb.out
        replace HB := HB.step hb.out
        replace HZ := Aside0.mk (Nat.le_trans HZ.out hb.out.size)
        replace B4 := B4.below hb.out
        refine ⟨_, rfl, ?_⟩
        refine hK.out _ _ E (fun hS => ?_)
        clear hK K hb
        try simp only [Act.put, List.setIfInBounds_toArray, List.set_cons_zero, List.set_cons_succ]
        refine wpAnyLast_ready (rs := [3, 4]) (by kernel_rfl) (by simp) ?_
        refine AllReadyL.cons (o := Oper.mk _ _ _ _ _ _) rfl (by decide) (fun K hK => ?_) ?_
        · refine call_ 24 #[.string s] (by rfl) rfl (by first | (go_simp; done) | (go_simp; rfl)) ((quotes_Inside.walk s _ HS.out).mono ?_)
          rintro e W' ⟨v, rfl, hrow, hb'⟩
          obtain ⟨A2, c2, rfl⟩ := own_slice hrow
          rw [← HNW.out] at hrow ⊢
          have hb := Aside0.mk hb'
          have RI := Aside0.mk (row_mono hrow HB.le)
          have V2 := Aside0.mk (row_one hrow)
          clear hrow hb'
          replace E := E.below hb.out
          replace D2 := D2.below hb.out
          replace HB := HB.step hb.out
          replace HZ := Aside0.mk (Nat.le_trans HZ.out hb.out.size)
          replace RM := Aside0.mk (row_below RM.out hb.out)
          replace B4 := B4.below hb.out
          refine ⟨_, rfl, ?_⟩
          refine hK.out _ _ E (fun hS => ?_)
          clear hK K hb
          try simp only [Act.put, List.setIfInBounds_toArray, List.set_cons_zero, List.set_cons_succ]
          refine wpAnyLast_ready (rs := [4]) (by kernel_rfl) (by simp) ?_
          refine AllReadyL.cons (o := Oper.mk _ _ _ _ _ _) rfl (by decide) (fun K hK => ?_) ?_
          · refine rg_alloc HB (by rfl) (#[.int .i64 0, .slice none 0 0]) 38 (by first | (go_simp; done) | (go_simp; rfl)) ?_
            intro g3 W' G3 GE_g3 B3 HBn hb
            have N1g3 := Aside0.mk (show g1 < g3 ∧ g2 < g3 by have := L1.out.1; have := L1.out.2.1; have := HZ.out; have := G3.out; omega)
            have N34 := Aside0.mk (show g3 ≠ g4 by have := B4.lt; have := G3.out; omega)
            clear HBn
            replace E := E.below hb.out
            replace D2 := D2.below hb.out
            replace HB := HB.step hb.out
            replace HZ := Aside0.mk (Nat.le_trans HZ.out hb.out.size)
            replace RM := Aside0.mk (row_below RM.out hb.out)
            replace RI := Aside0.mk (row_below RI.out hb.out)
            replace B4 := B4.below hb.out
            refine hK.out _ _ E (fun hS => ?_)
            clear hK K hb G3
            try simp only [Act.put, List.setIfInBounds_toArray, List.set_cons_zero, List.set_cons_succ]
            refine wpAnyLast_ready (rs := [6]) (by kernel_rfl) (by simp) ?_
            refine AllReadyL.cons_last (o := Oper.mk _ _ _ _ _ _) rfl (by decide) (fun K hK => ?_) ?_
            · refine rg_store HB (by rfl) B3 GE_g3 38 _ _ rfl rfl rfl (by kernel_rfl) rfl (by simp [Value.oneCell']) ?_
              intro w6 B3n HBn K6
              replace E := E.other K6 (Nat.ne_of_lt N1g3.out.1)
              replace D2 := D2.other K6 (Nat.ne_of_lt N1g3.out.2)
              replace B4 := B4.other K6 (Ne.symm N34.out)
              replace RM := Aside0.mk (row_other RM.out B3 (by decide) K6)
              replace RI := Aside0.mk (row_other RI.out B3 (by decide) K6)
              replace B3 := B3n
              replace HB := HBn
              clear B3n HBn K6 HZ
              have HZ := Aside0.mk (Nat.le_refl 0)
              refine hK.out _ _ ?_
              clear hK K
              try simp only [Act.put, List.setIfInBounds_toArray, List.set_cons_zero, List.set_cons_succ]
              refine wpAnyLast_ready (rs := [7]) (by kernel_rfl) (by simp) ?_
              refine AllReadyL.cons_last (o := Oper.mk _ _ _ _ _ _) rfl (by decide) (fun K hK => ?_) ?_
              · refine rg_store HB (by rfl) B4 GE_g4 38 _ _ rfl rfl rfl (by kernel_rfl) rfl (by simp [Value.oneCell']) ?_
                intro w7 B4n HBn K7
                replace E := E.other K7 (Nat.ne_of_lt N1g4.out.1)
                replace D2 := D2.other K7 (Nat.ne_of_lt N1g4.out.2)
                replace B3 := B3.other K7 N34.out
                replace RM := Aside0.mk (row_other RM.out B4 (by decide) K7)
                replace RI := Aside0.mk (row_other RI.out B4 (by decide) K7)
                replace B4 := B4n
                replace HB := HBn
                clear B4n HBn K7 HZ
                have HZ := Aside0.mk (Nat.le_refl 0)
                refine hK.out _ _ ?_
                clear hK K
                try simp only [Act.put, List.setIfInBounds_toArray, List.set_cons_zero, List.set_cons_succ]
                refine wpAnyLast_done (by kernel_rfl) ?_ _
                refine NoPanic.normal ?_
                go_step
                go_step
                gi_meet
                case rel => exact ⟨g3, g4, c1, c2, A1, A2, rfl, rfl, GE_g3, GE_g4, ⟨N1g3.out.1, N1g4.out.1, N34.out⟩, E, D2, B3, B4, RM, RI, HB⟩
              exact AllReadyL.nil
            exact AllReadyL.nil
          exact AllReadyL.nil
        refine AllReadyL.cons (o := Oper.mk _ _ _ _ _ _) rfl (by decide) (fun K hK => ?_) ?_
        · refine rg_alloc HB (by rfl) (#[.int .i64 0, .slice none 0 0]) 38 (by first | (go_simp; done) | (go_simp; rfl)) ?_
          intro g3 W' G3 GE_g3 B3 HBn hb
          have N1g3 := Aside0.mk (show g1 < g3 ∧ g2 < g3 by have := L1.out.1; have := L1.out.2.1; have := HZ.out; have := G3.out; omega)
          have N34 := Aside0.mk (show g3 ≠ g4 by have := B4.lt; have := G3.out; omega)
          clear HBn
          replace E := E.below hb.out
          replace D2 := D2.below hb.out
          replace HB := HB.step hb.out
          replace HZ := Aside0.mk (Nat.le_trans HZ.out hb.out.size)
          replace RM := Aside0.mk (row_below RM.out hb.out)
          replace B4 := B4.below hb.out
          refine hK.out _ _ E (fun hS => ?_)
          clear hK K hb G3
          try simp only [Act.put, List.setIfInBounds_toArray, List.set_cons_zero, List.set_cons_succ]
          refine wpAnyLast_ready (rs := [3]) (by kernel_rfl) (by simp) ?_
          refine AllReadyL.cons (o := Oper.mk _ _ _ _ _ _) rfl (by decide) (fun K hK => ?_) ?_
          · refine call_ 24 #[.string s] (by rfl) rfl (by first | (go_simp; done) | (go_simp; rfl)) ((quotes_Inside.walk s _ HS.out).mono ?_)
            rintro e W' ⟨v, rfl, hrow, hb'⟩
            obtain ⟨A2, c2, rfl⟩ := own_slice hrow
            rw [← HNW.out] at hrow ⊢
            have hb := Aside0.mk hb'
            have RI := Aside0.mk (row_mono hrow HB.le)
            have V2 := Aside0.mk (row_one hrow)
            clear hrow hb'
            replace E := E.below hb.out
            replace D2 := D2.below hb.out
            replace HB := HB.step hb.out
            replace HZ := Aside0.mk (Nat.le_trans HZ.out hb.out.size)
            replace RM := Aside0.mk (row_below RM.out hb.out)
            replace B3 := B3.below hb.out
            replace B4 := B4.below hb.out
            refine ⟨_, rfl, ?_⟩
            refine hK.out _ _ E (fun hS => ?_)
            clear hK K hb
            try simp only [Act.put, List.setIfInBounds_toArray, List.set_cons_zero, List.set_cons_succ]
            refine wpAnyLast_ready (rs := [6]) (by kernel_rfl) (by simp) ?_
            refine AllReadyL.cons_last (o := Oper.mk _ _ _ _ _ _) rfl (by decide) (fun K hK => ?_) ?_
            · refine rg_store HB (by rfl) B3 GE_g3 38 _ _ rfl rfl rfl (by kernel_rfl) rfl (by simp [Value.oneCell']) ?_
              intro w6 B3n HBn K6
              replace E := E.other K6 (Nat.ne_of_lt N1g3.out.1)
              replace D2 := D2.other K6 (Nat.ne_of_lt N1g3.out.2)
              replace B4 := B4.other K6 (Ne.symm N34.out)
              replace RM := Aside0.mk (row_other RM.out B3 (by decide) K6)
              replace RI := Aside0.mk (row_other RI.out B3 (by decide) K6)
              replace B3 := B3n
              replace HB := HBn
              clear B3n HBn K6 HZ
              have HZ := Aside0.mk (Nat.le_refl 0)
              refine hK.out _ _ ?_
              clear hK K
              try simp only [Act.put, List.setIfInBounds_toArray, List.set_cons_zero, List.set_cons_succ]
              refine wpAnyLast_ready (rs := [7]) (by kernel_rfl) (by simp) ?_
              refine AllReadyL.cons_last (o := Oper.mk _ _ _ _ _ _) rfl (by decide) (fun K hK => ?_) ?_
              · refine rg_store HB (by rfl) B4 GE_g4 38 _ _ rfl rfl rfl (by kernel_rfl) rfl (by simp [Value.oneCell']) ?_
                intro w7 B4n HBn K7
                replace E := E.other K7 (Nat.ne_of_lt N1g4.out.1)
                replace D2 := D2.other K7 (Nat.ne_of_lt N1g4.out.2)
                replace B3 := B3.other K7 N34.out
                replace RM := Aside0.mk (row_other RM.out B4 (by decide) K7)
                replace RI := Aside0.mk (row_other RI.out B4 (by decide) K7)
                replace B4 := B4n
                replace HB := HBn
                clear B4n HBn K7 HZ
                have HZ := Aside0.mk (Nat.le_refl 0)
                refine hK.out _ _ ?_
                clear hK K
                try simp only [Act.put, List.setIfInBounds_toArray, List.set_cons_zero, List.set_cons_succ]
                refine wpAnyLast_done (by kernel_rfl) ?_ _
                refine NoPanic.normal ?_
                go_step
                go_step
                gi_meet
                case rel => exact ⟨g3, g4, c1, c2, A1, A2, rfl, rfl, GE_g3, GE_g4, ⟨N1g3.out.1, N1g4.out.1, N34.out⟩, E, D2, B3, B4, RM, RI, HB⟩
              exact AllReadyL.nil
            exact AllReadyL.nil
          exact AllReadyL.nil
        exact AllReadyL.nil
      refine AllReadyL.cons (o := Oper.mk _ _ _ _ _ _) rfl (by decide) (fun K hK => ?_) ?_
      · refine rg_alloc HB (by rfl) (#[.int .i64 0, .slice none 0 0]) 38 (by first | (go_simp; done) | (go_simp; rfl)) ?_
        intro g3 W' G3 GE_g3 B3 HBn hb
        have N1g3 := Aside0.mk (show g1 < g3 ∧ g2 < g3 by have := L1.out.1; have := L1.out.2.1; have := HZ.out; have := G3.out; omega)
        have N34 := Aside0.mk (show g3 ≠ g4 by have := B4.lt; have := G3.out; omega)
        clear HBn
        replace E := E.below hb.out
        replace D2 := D2.below hb.out
        replace HB := HB.step hb.out
        replace HZ := Aside0.mk (Nat.le_trans HZ.out hb.out.size)
        replace B4 := B4.below hb.out
        refine hK.out _ _ E (fun hS => ?_)
        clear hK K hb G3
        try simp only [Act.put, List.setIfInBounds_toArray, List.set_cons_zero, List.set_cons_succ]
        refine wpAnyLast_ready (rs := [1]) (by kernel_rfl) (by simp) ?_
        refine AllReadyL.cons (o := Oper.mk _ _ _ _ _ _) rfl (by decide) (fun K hK => ?_) ?_
        · refine call_ 22 #[.string s] (by rfl) rfl (by first | (go_simp; done) | (go_simp; rfl)) ((quotes_Marks.walk s _ HS.out).mono ?_)
          rintro e W' ⟨v, rfl, hrow, hb'⟩
          obtain ⟨A1, c1, rfl⟩ := own_slice hrow
          rw [← HNW.out] at hrow ⊢
          have hb := Aside0.mk hb'
          have RM := Aside0.mk (row_mono hrow HB.le)
          have V1 := Aside0.mk (row_one hrow)
          clear hrow hb'
          replace E := E.below hb.out
          replace D2 := D2.below hb.out
          replace HB := HB.step hb.out
          replace HZ := Aside0.mk (Nat.le_trans HZ.out hb.out.size)
          replace B3 := B3.below hb.out
          replace B4 := B4.below hb.out
          refine ⟨_, rfl, ?_⟩
          refine hK.out _ _ E (fun hS => ?_)
          clear hK K hb
          try simp only [Act.put, List.setIfInBounds_toArray, List.set_cons_zero, List.set_cons_succ]
          refine wpAnyLast_ready (rs := [3]) (by kernel_rfl) (by simp) ?_
          refine AllReadyL.cons (o := Oper.mk _ _ _ _ _ _) rfl (by decide) (fun K hK => ?_) ?_
          · refine call_ 24 #[.string s] (by rfl) rfl (by first | (go_simp; done) | (go_simp; rfl)) ((quotes_Inside.walk s _ HS.out).mono ?_)
            rintro e W' ⟨v, rfl, hrow, hb'⟩
            obtain ⟨A2, c2, rfl⟩ := own_slice hrow
            rw [← HNW.out] at hrow ⊢
            have hb := Aside0.mk hb'
            have RI := Aside0.mk (row_mono hrow HB.le)
            have V2 := Aside0.mk (row_one hrow)
            clear hrow hb'
            replace E := E.below hb.out
            replace D2 := D2.below hb.out
            replace HB := HB.step hb.out
            replace HZ := Aside0.mk (Nat.le_trans HZ.out hb.out.size)
            replace RM := Aside0.mk (row_below RM.out hb.out)
            replace B3 := B3.below hb.out
            replace B4 := B4.below hb.out
            refine ⟨_, rfl, ?_⟩
            refine hK.out _ _ E (fun hS => ?_)
            clear hK K hb
            try simp only [Act.put, List.setIfInBounds_toArray, List.set_cons_zero, List.set_cons_succ]
            refine wpAnyLast_ready (rs := [6]) (by kernel_rfl) (by simp) ?_
            refine AllReadyL.cons_last (o := Oper.mk _ _ _ _ _ _) rfl (by decide) (fun K hK => ?_) ?_
            · refine rg_store HB (by rfl) B3 GE_g3 38 _ _ rfl rfl rfl (by kernel_rfl) rfl (by simp [Value.oneCell']) ?_
              intro w6 B3n HBn K6
              replace E := E.other K6 (Nat.ne_of_lt N1g3.out.1)
              replace D2 := D2.other K6 (Nat.ne_of_lt N1g3.out.2)
              replace B4 := B4.other K6 (Ne.symm N34.out)
              replace RM := Aside0.mk (row_other RM.out B3 (by decide) K6)
              replace RI := Aside0.mk (row_other RI.out B3 (by decide) K6)
              replace B3 := B3n
              replace HB := HBn
              clear B3n HBn K6 HZ
              have HZ := Aside0.mk (Nat.le_refl 0)
              refine hK.out _ _ ?_
              clear hK K
              try simp only [Act.put, List.setIfInBounds_toArray, List.set_cons_zero, List.set_cons_succ]
              refine wpAnyLast_ready (rs := [7]) (by kernel_rfl) (by simp) ?_
              refine AllReadyL.cons_last (o := Oper.mk _ _ _ _ _ _) rfl (by decide) (fun K hK => ?_) ?_
              · refine rg_store HB (by rfl) B4 GE_g4 38 _ _ rfl rfl rfl (by kernel_rfl) rfl (by simp [Value.oneCell']) ?_
                intro w7 B4n HBn K7
                replace E := E.other K7 (Nat.ne_of_lt N1g4.out.1)
                replace D2 := D2.other K7 (Nat.ne_of_lt N1g4.out.2)
                replace B3 := B3.other K7 N34.out
                replace RM := Aside0.mk (row_other RM.out B4 (by decide) K7)
                replace RI := Aside0.mk (row_other RI.out B4 (by decide) K7)
                replace B4 := B4n
                replace HB := HBn
                clear B4n HBn K7 HZ
                have HZ := Aside0.mk (Nat.le_refl 0)
                refine hK.out _ _ ?_
                clear hK K
                try simp only [Act.put, List.setIfInBounds_toArray, List.set_cons_zero, List.set_cons_succ]
                refine wpAnyLast_done (by kernel_rfl) ?_ _
                refine NoPanic.normal ?_
                go_step
                go_step
                gi_meet
                case rel => exact ⟨g3, g4, c1, c2, A1, A2, rfl, rfl, GE_g3, GE_g4, ⟨N1g3.out.1, N1g4.out.1, N34.out⟩, E, D2, B3, B4, RM, RI, HB⟩
              exact AllReadyL.nil
            exact AllReadyL.nil
          exact AllReadyL.nil
        exact AllReadyL.nil
      exact AllReadyL.nil
    exact AllReadyL.nil
  case rest =>
    obtain ⟨g3, g4, c1, c2, A1, A2, rfl, rfl, GE_g3, GE_g4, N134, E1, E2, B3, B4, RM, RI, HB⟩ := hcut
    have r1 := Kd.R_reads' (show Kd.R (Kd.int .u64) 64 wc w.heap.size (fun _ => True) (.slice A1 nw c1) (wordsOf s.size (mkq s)) from Kd.R_of_own (by rw [wordsOf_length, ← HNW.out]; exact RM.out) (fun _ _ => trivial))
    have r2 := Kd.R_reads' (show Kd.R (Kd.int .u64) 64 wc w.heap.size (fun _ => True) (.slice A2 nw c2) (wordsOf s.size (insS s)) from Kd.R_of_own (by rw [wordsOf_length, ← HNW.out]; exact RI.out) (fun _ _ => trivial))
    have hN : ∀ q, (wordsOf s.size q).length = nw := fun q => by rw [wordsOf_length, HNW.out]
    have Q := Aside0.mk (show MtA s nw w wc g1 g2 g3 g4 A1 A2 c1 c2 from { b1 := E1, b2 := E2, b3 := B3, b4 := B4, hN := hN, C1 := (by have := r1.2.2; rwa [hN] at this), q1 := r1.2.1, C2 := (by have := r2.2.2; rwa [hN] at this), q2 := r2.2.1, hb := HB, ge2 := GE_g2.out })
    have HTC := Aside0.mk (HT.out.step HB.out)
    have GE2 : Aside0 (w.heap.size ≤ g2) := ⟨GE_g2.out⟩
    clear r1 r2 hN E1 E2 B3 B4 RM RI HB GE_g3 GE_g4 N134 L12 HT
    have z1 := Q.out.b1.cell (i := 0) rfl
    have z3 := Q.out.b3.cell (i := 0) rfl
    have z4 := Q.out.b4.cell (i := 0) rfl
    gi_wp2
    gi_loopw [5] (fun v5 wr => ∃ i : Nat, v5 = .int .i64 i ∧ Aside0 (i ≤ s.size) ∧ Aside0 (∀ j, j < i → bt s (j : Int) = 92 → insS s j = true) ∧ Aside0 (BelowH wc wr)) (fun v5 _ => s.size - (intOf v5).toNat)
    case atStart => exact ⟨0, rfl, ⟨Nat.zero_le _⟩, ⟨fun j hj => absurd hj (Nat.not_lt_zero _)⟩, ⟨BelowH.refl wc⟩⟩
    case round =>
      clear z1 z3 z4
      obtain ⟨i, rfl, HI, HNB, HBr⟩ := hrel
      obtain ⟨wo, rfl⟩ : ∃ wo : World, wo = wr := ⟨_, rfl⟩
      have z1 := (Q.out.b1.below HBr.out.out).cell (i := 0) rfl
      by_cases hi : i < s.size
      · have t1 : decide ((i : Int) < (s.size : Int)) = true := decide_eq_true (by omega)
        have t2 : decide (i < s.size) = true := decide_eq_true hi
        have hk1 : (0 : Int) ≤ (i : Int) := by omega
        have hk2 : (i : Int) < (s.size : Int) := by omega
        have hby : ∀ h : i < s.size, ((s[i]'h).toNat : Int) = bt s (i : Int) := fun h => by have := bt_at s (i : Int) (by rw [Int.toNat_natCast]; exact h); simpa using this
        have HII := Aside0.mk hi
        have HWi : Aside0 (wrap64 ((i : Int) + 1) = ((i + 1 : Nat) : Int)) := ⟨by have := HS2.out; unfold wrap64; omega⟩
        have z3a := (Q.out.b3.below HBr.out.out).cell (i := 0) rfl
        have z3b := (Q.out.b3.below HBr.out.out).cell (i := 1) rfl
        have z4a := (Q.out.b4.below HBr.out.out).cell (i := 0) rfl
        have z4b := (Q.out.b4.below HBr.out.out).cell (i := 1) rfl
        have GI : Aside0 (bitmap_Get.f (s.size : Int) (wordsOf s.size (insS s)) (i : Int) = some (insS s i)) := ⟨MtF.mt_get_eq s.size (insS s) (by have := HS2.out; omega) i hi⟩
        have GM : Aside0 (bitmap_Get.f (s.size : Int) (wordsOf s.size (mkq s)) (i : Int) = some (mkq s i)) := ⟨MtF.mt_get_eq s.size (mkq s) (by have := HS2.out; omega) i hi⟩
        by_cases h92 : bt s (i : Int) = 92
        · have e1 : (bt s (i : Int) == 92) = true := beq_iff_eq.mpr h92
          have e2 : decide (bt s (i : Int) = 92) = true := decide_eq_true h92
          have HM : Aside0 (mkq s i = false) := ⟨by unfold mkq; rw [h92]; rfl⟩
          rw [HM.out] at GM
          by_cases hin : insS s i = true
          · rw [hin] at GI
            have HIN := Aside0.mk hin
            clear hi h92 hin
            gi_wp2_with (first
              | (gi_at_call 36; refine (callsIn_of HF (Q.out.getI HBr.out _ true GI.out)).mono ?_; rintro e w4 ⟨rfl, hb⟩; have HBn := Aside0.mk (HBr.out.step hb); clear HBr hb z1 z3a z3b z4a z4b; have HBr := HBn; clear HBn))
            go_roundw
            case rel => exact ⟨i + 1, by rw [HWi.out], ⟨HII.out⟩, ⟨fun j hj h => by
              rcases Nat.lt_succ_iff_lt_or_eq.1 hj with hj | rfl
              · exact HNB.out j hj h
              · exact HIN.out⟩, HBr⟩
            case measure => have := HII.out; rw [HWi.out]; simp [intOf]; omega
          · have hin2 : insS s i = false := by simpa using hin
            rw [hin2] at GI
            have TK := Aside0.mk trivial
            clear hi h92 hin hin2
            gi_wp2_with (first
              | (gi_at_call 36; clear TK; refine (callsIn_of HF (Q.out.getI HBr.out _ false GI.out)).mono ?_; rintro e w4 ⟨rfl, hb⟩; have HBn := Aside0.mk (HBr.out.step hb); clear HBr hb z1 z3a z3b z4a z4b; have HBr := HBn; clear HBn; have z3a := (Q.out.b3.below HBr.out.out).cell (i := 0) rfl; have z3b := (Q.out.b3.below HBr.out.out).cell (i := 1) rfl)
              | (gi_at_call 36; refine (callsIn_of HF (Q.out.get HBr.out _ false GM.out)).mono ?_; rintro e w5 ⟨rfl, hb⟩; have HBn := Aside0.mk (HBr.out.step hb); clear HBr hb z3a z3b; have HBr := HBn; clear HBn; have b2 := Q.out.b2.below HBr.out.out; have HB := Q.out.hb.step HBr.out.out)
              | ((with_reducible refine gate_In (Op.store 4 (.tmp 2) (.const (.bool true))) rfl ?_); refine ev_store1In (i := 0) HB b2 GE2 rfl 4 _ _ rfl rfl (.bool true) rfl (by simp) (by kernel_rfl) rfl ?_; intro w30 B30 HB30 K_w30 KO_w30))
            refine leaves_marksS (S := fun A => Blk A g2 #[.bool true] 4 ∧ BelowH w A) (fun A D' hs h1 h2 => ?_) [] w30 ⟨B30, HB30⟩ (Marks.nil (m := w.heap.size) (W := w30)) fun A hA => ⟨_, results_cell1 rfl _ _ g2 4 _ _ rfl hA.1 Tryd.underlying4 rfl, rfl, hA.2.out⟩
            have hg := grownBy_putObj' A D' (.deferred none)
            have hr2 : ∀ r, some D' = some r → ∃ o : Obj, A.heap[r]? = some o ∧ o.isCells = false := fun r e => by
              cases e
              exact ⟨_, h2, rfl⟩
            exact ⟨hs.1.kept hg hr2, hs.2.kept hg (Nat.le_trans (Nat.le_refl _) h1) (fun r e => by cases e; exact Nat.le_refl _)⟩
        · have e1 : (bt s (i : Int) == 92) = false := beq_eq_false_iff_ne.mpr h92
          have e2 : decide (bt s (i : Int) = 92) = false := decide_eq_false h92
          have H92 := Aside0.mk h92
          clear hi h92
          gi_wp2
          go_roundw
          case rel => exact ⟨i + 1, by rw [HWi.out], ⟨HII.out⟩, ⟨fun j hj h => by
            rcases Nat.lt_succ_iff_lt_or_eq.1 hj with hj | rfl
            · exact HNB.out j hj h
            · exact absurd h H92.out⟩, HBr⟩
          case measure => have := HII.out; rw [HWi.out]; simp [intOf]; omega
      · have t1 : decide ((i : Int) < (s.size : Int)) = false := decide_eq_false (by omega)
        have t2 : decide (i < s.size) = false := decide_eq_false hi
        have NB : Aside0 (NoBs s) := ⟨fun j hj h => HNB.out j (by have := HI.out; omega) h⟩
        have HTW : Aside0 (minT t = t) := ⟨by rw [HTT.out]; exact minT_twice s NB.out⟩
        have HBK : Aside0 (∀ j, j < t.size → blq t j = false) := ⟨fun j hj => by rw [HTT.out] at hj ⊢; exact min_noblank (minT_of s) NB.out j hj⟩
        have HEQ : Aside0 ((textsL s).map (extT s) = (textsL t).map (extT t)) := ⟨by rw [HTT.out]; exact ext_same s NB.out⟩
        have MFt : Aside0 (∀ W, Calls Tryd.prog 46 #[.string t] W fun e w' => e = .returned (.string t) ∧ Below W.heap.size W w') := ⟨fun W => marks_Minify.calls (67 * t.size + 68) t t W (by have h := MtF.mt_minify_eq t (by have := HTS.out; have := HS2.out; omega) (67 * t.size + 68) (by omega); rwa [HTW.out] at h)⟩
        obtain ⟨nt, hnt⟩ : ∃ nt, nt = nwords t.size := ⟨_, rfl⟩
        have HNT := Aside0.mk hnt
        have BKt : Aside0 (∀ W, Calls Tryd.prog 42 #[.string t] W fun e w' => ∃ (A : Option Addr) (c : Nat), e = .returned (.agg #[.int .i64 t.size, .slice A nt c]) ∧ (∀ W2, Below w'.heap.size w' W2 → TabOk W2 → Calls Tryd.prog 47 #[.agg #[.int .i64 t.size, .slice A nt c], .int .i64 0] W2 fun e w2 => e = .returned (.int .i64 (-1)) ∧ Below W2.heap.size W2 w2) ∧ Below W.heap.size W w') := ⟨fun W => by
          have hz : t.size ≤ 1048576 := by have := HTS.out; have := HS2.out; omega
          refine (marks_Blanks.calls (67 * t.size + 68) t (t.size : Int) (wordsOf t.size (blq t)) W (MtF.mt_blanks_eq t hz _ (by omega))).mono ?_
          rintro e w' ⟨v, rfl, hR, hb⟩
          obtain ⟨A, c, rfl⟩ := Kd.R_slice hR
          have h3 := Kd.R_reads' hR
          have hl : (wordsOf t.size (blq t)).length = nt := by rw [wordsOf_length, HNT.out]
          refine ⟨A, c, by rw [hl], fun W2 hb2 hT2 => ?_, hb⟩
          have h4 := bitmap_Next.calls (t.size + 5) (t.size : Int) A c (wordsOf t.size (blq t)) 0 (-1) W2 hT2 (Kd.C_below h3.2.2 hb2) h3.2.1 (MtF.mt_next_none t.size (blq t) hz HBK.out _ (by omega))
          rwa [hl] at h4⟩
        clear hi hnt HNB HI
        gi_upto_region 12 with (first
          | (gi_at_call 46; refine (callsIn_of HF (MFs.out _)).mono ?_; rintro e w6 ⟨rfl, hb⟩; have HB := HBr.out.step hb; clear HBr hb z1)
          | ((with_reducible refine gate_dstIn (N := 6) rfl ?_); refine ev_allocIn HB rfl rfl (#[.string ⟨#[]⟩]) 9 ?hr ?_; (case hr => first | (go_simp; done) | (go_simp; rfl)); intro g6 w7 G_g6 GE_g6 B_g6 HBn K_g6 KO_w7; clear HB; have HB := HBn; clear HBn)
          | ((with_reducible refine gate_In (Op.store 9 (.tmp 6) (.tmp 54)) rfl ?_); refine ev_store1In (i := 0) HB B_g6 GE_g6 rfl 9 _ _ rfl rfl (.string t) rfl (by simp) (by kernel_rfl) rfl ?_; intro w8 B8 HBn K_w8 KO_w8; clear HB; have HB := HBn; clear HBn))
        have B6 := B8.below (below_drew (Below.refl _ _))
        have HBn := HB.step (below_drew (Below.refl _ _))
        clear HB B8 B_g6 K_g6 K_w8 KO_w7 KO_w8 G_g6
        have HB := HBn
        clear HBn
        refine wpIn_region_last_wide HF (S := fun W' => Blk W' g6 #[.string t] 9) (ds := []) (by kernel_rfl) B6 (fun hS => ?_)
        refine wpAnyLast_take (i := 0) (oi := Oper.mk _ _ _ _ _ _) rfl (by kernel_rfl) (by kernel_rfl) (by kernel_rfl) (by kernel_rfl) (by kernel_rfl) (fun _ _ _ h => h) (rg_load1 (by rfl) (fun _ hS => hS.cell (i := 0) rfl) 9 _ rfl rfl (fun _ => by simp [isAgg, run_underlying Tryd.underlying9])) hS ?_
        try simp only [Act.put, List.setIfInBounds_toArray, List.set_cons_zero, List.set_cons_succ]
        refine wpAnyLast_take (i := 2) (oi := Oper.mk _ _ _ _ _ _) rfl (by kernel_rfl) (by kernel_rfl) (by kernel_rfl) (by kernel_rfl) (by kernel_rfl) (fun _ _ _ h => h) (rg_load1 (by rfl) (fun _ hS => hS.cell (i := 0) rfl) 9 _ rfl rfl (fun _ => by simp [isAgg, run_underlying Tryd.underlying9])) hS ?_
        try simp only [Act.put, List.setIfInBounds_toArray, List.set_cons_zero, List.set_cons_succ]
        refine wpAnyLast_ready (rs := [1]) (by kernel_rfl) (by simp) ?_
        refine AllReadyL.cons (o := Oper.mk _ _ _ _ _ _) rfl (by decide) (fun K hK => ?_) ?_
        · refine rg_call (by rfl) _ _ (.string t) (by first | (go_simp; done) | (go_simp; rfl)) (MFt.out _) ?_
          intro W' hb
          have B6n := B6.below hb.out
          have HBn := HB.step hb.out
          clear B6 HB
          have B6 := B6n
          have HB := HBn
          clear B6n HBn
          refine hK.out _ _ B6 (fun hS => ?_)
          clear hK K hb
          try simp only [Act.put, List.setIfInBounds_toArray, List.set_cons_zero, List.set_cons_succ]
          refine' wpAnyLast_take (i := 3) (oi := Oper.mk _ _ _ _ _ _) rfl (by kernel_rfl) (by kernel_rfl) (by kernel_rfl) (by kernel_rfl) (by kernel_rfl) (fun _ _ _ h => h) (Or.inl ⟨by rfl, ?hy1⟩) hS ?rest1
          case hy1 => (intro w hSw; (try dsimp only at hSw); first | (go_simp; done) | (go_simp; with_reducible rfl))
          try simp only [Act.put, List.setIfInBounds_toArray, List.set_cons_zero, List.set_cons_succ]
          refine' wpAnyLast_take (i := 4) (oi := Oper.mk _ _ _ _ _ _) rfl (by kernel_rfl) (by kernel_rfl) (by kernel_rfl) (by kernel_rfl) (by kernel_rfl) (fun _ _ _ h => h) (Or.inl ⟨by rfl, ?hy2⟩) hS ?rest2
          case hy2 => (intro w hSw; (try dsimp only at hSw); first | (go_simp; done) | (go_simp; with_reducible rfl))
          try simp only [Act.put, List.setIfInBounds_toArray, List.set_cons_zero, List.set_cons_succ]
          refine wpAnyLast_take (i := 5) (oi := Oper.mk _ _ _ _ _ _) rfl (by kernel_rfl) (by kernel_rfl) (by kernel_rfl) (by kernel_rfl) (by kernel_rfl) (fun _ _ _ h => h) (rg_load1 (by rfl) (fun _ hS => hS.cell (i := 0) rfl) 9 _ rfl rfl (fun _ => by simp [isAgg, run_underlying Tryd.underlying9])) hS ?_
          try simp only [Act.put, List.setIfInBounds_toArray, List.set_cons_zero, List.set_cons_succ]
          refine wpAnyLast_ready (rs := [6]) (by kernel_rfl) (by simp) ?_
          refine AllReadyL.cons (o := Oper.mk _ _ _ _ _ _) rfl (by decide) (fun K hK => ?_) ?_
          · refine call_ 42 #[.string t] (by rfl) rfl (by first | (go_simp; done) | (go_simp; rfl)) ((BKt.out _).mono ?_)
            rintro e W' ⟨A5, c5, rfl, hnx, hb'⟩
            have HNX := Aside0.mk hnx
            have hb := Aside0.mk hb'
            have B6n := B6.below hb.out
            have HBn := HB.step hb.out
            clear B6 HB hnx hb'
            have B6 := B6n
            have HB := HBn
            clear B6n HBn
            refine ⟨_, rfl, ?_⟩
            refine hK.out _ _ B6 (fun hS => ?_)
            clear hK K hb
            try simp only [Act.put, List.setIfInBounds_toArray, List.set_cons_zero, List.set_cons_succ]
            refine wpAnyLast_ready (rs := [7]) (by kernel_rfl) (by simp) ?_
            refine AllReadyL.cons (o := Oper.mk _ _ _ _ _ _) rfl (by decide) (fun K hK => ?_) ?_
            · refine rg_call (by rfl) _ _ (.int .i64 (-1)) (by first | (go_simp; done) | (go_simp; rfl)) (HNX.out _ (Below.refl _ _) (HTC.out.step HB.out)) ?_
              intro W' hb
              have B6n := B6.below hb.out
              have HBn := HB.step hb.out
              clear B6 HB HNX
              have B6 := B6n
              have HB := HBn
              clear B6n HBn
              refine hK.out _ _ B6 (fun hS => ?_)
              clear hK K hb
              try simp only [Act.put, List.setIfInBounds_toArray, List.set_cons_zero, List.set_cons_succ]
              refine' wpAnyLast_take (i := 8) (oi := Oper.mk _ _ _ _ _ _) rfl (by kernel_rfl) (by kernel_rfl) (by kernel_rfl) (by kernel_rfl) (by kernel_rfl) (fun _ _ _ h => h) (Or.inl ⟨by rfl, ?hy3⟩) hS ?rest3
              case hy3 => (intro w hSw; (try dsimp only at hSw); first | (go_simp; done) | (go_simp; with_reducible rfl))
              try simp only [Act.put, List.setIfInBounds_toArray, List.set_cons_zero, List.set_cons_succ]
              refine' wpAnyLast_take (i := 9) (oi := Oper.mk _ _ _ _ _ _) rfl (by kernel_rfl) (by kernel_rfl) (by kernel_rfl) (by kernel_rfl) (by kernel_rfl) (fun _ _ _ h => h) (Or.inl ⟨by rfl, ?hy4⟩) hS ?rest4
              case hy4 => (intro w hSw; (try dsimp only at hSw); first | (go_simp; done) | (go_simp; with_reducible rfl))
              try simp only [Act.put, List.setIfInBounds_toArray, List.set_cons_zero, List.set_cons_succ]
              refine wpAnyLast_done (by kernel_rfl) ?_ _
              refine NoPanic.normal ?_
              obtain ⟨wB, rfl⟩ : ∃ wB : World, wB = W' := ⟨_, rfl⟩
              have QB := Aside0.mk (And.intro (Q.out.b1.below HB.out) (And.intro (Q.out.b2.below HB.out) (And.intro B6 (And.intro (HTC.out.step HB.out) (Q.out.hb.step HB.out)))))
              clear HB B6
              have HB := BelowH.refl wB
              gi_wp2_with (first
                | ((with_reducible refine gate_dstIn (N := 7) rfl ?_); refine ev_allocIn HB rfl rfl (#[.slice none 0 0]) 59 ?hr ?_; (case hr => first | (go_simp; done) | (go_simp; rfl)); intro g7 w40 G_g7 GE_g7 B_g7 HBn K_g7 KO_w40; clear HB; have HB := HBn; clear HBn)
                | (((with_reducible refine gate_dstIn (N := 8) rfl ?_); refine ev_allocIn HB rfl rfl (#[.slice none 0 0]) 59 ?hr ?_; (case hr => first | (go_simp; done) | (go_simp; rfl)); intro g8 w41 G_g8 GE_g8 B_g8 HBn K_g8 KO_w41; clear HB; have HB := HBn; clear HBn); have z1 := (QB.out.1.below HB.out).cell (i := 0) rfl)
                | (gi_at_call 32; refine (callsIn_of HF (quotes_Texts.calls s _ HS.out)).mono ?_; rintro e w42 ⟨h3, h1, rfl, hO⟩; have HOa := Aside0.mk hO; have HBn := HB.step hO.hb.out; clear HB hO z1; have HB := HBn; clear HBn))
              obtain ⟨Aa, capa, hB3, hC, hcap⟩ := HOa.out.out
              have B7 := (B_g7.below K_g8.out).below HOa.out.hb.out
              have B8 := B_g8.below HOa.out.hb.out
              have LH1 := HOa.out.b1.lt
              have P0 := (QB.out.2.2.2.1.step HB.out).pos
              have PGa : Aside0 (0 < w42.heap.size ∧ h1 < w42.heap.size ∧ wB.heap.size ≤ g7 ∧ g7 < w42.heap.size ∧ g8 < w42.heap.size ∧ wB.heap.size ≤ w42.heap.size ∧ 0 < wB.heap.size ∧ wB.heap.size ≤ g8) := ⟨⟨P0, LH1, GE_g7.out, B7.lt, B8.lt, HB.le, QB.out.2.2.2.1.pos, GE_g8.out⟩⟩
              have NGa : Aside0 (g7 ≠ g8) := ⟨by have := B_g7.lt; have := G_g8.out; omega⟩
              have NHa : Aside0 (h1 ≠ g7) := ⟨fun e => by
                have a1 := HOa.out.b1.out
                have a2 := B7.out
                rw [e, a2] at a1
                simp at a1⟩
              have NHc : Aside0 (h1 ≠ g8) := ⟨fun e => by
                have a1 := HOa.out.b1.out
                have a2 := B8.out
                rw [e, a2] at a1
                simp at a1⟩
              have HBWa := HB
              have H0 : GrI 9 59 [] [] (.slice none 0 0) wB g7 g8 w42.heap.size [] w42 := ⟨⟨_, B7, World.ownsRow_nil w42 0 _ 1, fun b hb => by cases hb⟩, ⟨B8, World.ownsRow_nil w42 0 _ 1, fun b hb => by cases hb⟩, HB, Nat.le_refl _⟩
              clear HB B_g7 B_g8 K_g7 K_g8 KO_w40 KO_w41 G_g7 G_g8 B7 B8
              refine wpIn_rangeFunc_O hro (by decide) (gf := 67) (lb := #[.pointer (some ⟨h3, 0, none⟩), .pointer (some ⟨h1, 0, none⟩)]) rfl f2 (enters_of Tryd.func67 (by kernel_rfl) rfl)
                (quotes_Texts_1.stops F HF (9 - 1) (by decide) h3 h1 s (by have := HS2.out; have := HTS.out; omega) Aa capa w42 hB3 hC hcap HOa.out.b1 (QB.out.2.2.2.1.step HBWa.out)) Keep2.trans (fun W l o o' hl ho hc hw => Keep2.putObj P0 LH1 W l o o' hl ho hc hw) (Below.refl _ _) (fun _ => rfl)
                (fun X pre W => GrI 9 59 (pre.map (extT s)) ([]) (.slice none 0 0) wB g7 g8 w42.heap.size X W) (fun _ _ _ => False)
                (fun X pre A B row hs hg hr => hs.kept HBWa.le hg hr)
                (fun _ _ _ _ _ hs _ _ => hs)
                (fun X pre A k h hk => h.more hk)
                (fun X pre A C hX h ht => h.turned hX ht PGa.out.2.2.2.1 PGa.out.2.2.2.2.1 HBWa.le)
                H0
                (fun x a' W => ∃ gb, w42.heap.size ≤ gb ∧ Blk W gb #[.int .i64 ((x.1 : Nat) : Int), .int .i64 ((x.2 : Nat) : Int)] 30 ∧ a' = { tmps := #[.string s, .pointer (some ⟨g1, 0, none⟩), .pointer (some ⟨g2, 0, none⟩), .pointer (some ⟨g3, 0, none⟩), .pointer (some ⟨g4, 0, none⟩), .int .i64 i, .pointer (some ⟨g6, 0, none⟩), .pointer (some ⟨g7, 0, none⟩), .pointer (some ⟨g8, 0, none⟩), .func (.func 67) #[] #[.pointer (some ⟨h3, 0, none⟩), .pointer (some ⟨h1, 0, none⟩)], .pointer (some ⟨gb, 0, none⟩), undef, undef, .bool true, .bool false, u15, u16, u17, u18, .pointer (some ⟨g3, 0, none⟩), .int .i64 s.size, .string s, .int .i64 s.size, .bool false, .bool false, .pointer (some ⟨g4, 0, none⟩), .int .i64 s.size, .string s, .int .i64 s.size, .bool false, .bool false, .int .i64 i, .string s, .int .i64 s.size, .bool false, u35, u36, u37, u38, u39, u40, u41, u42, u43, u44, u45, u46, u47, u48, u49, u50, u51, u52, .string s, .string t, .string t, .string t, .string t, .bool false, .bool false, .string t, .agg #[.int .i64 t.size, .slice A5 nt c5], .int .i64 (-1), .bool false, .bool false, .string s, .func (.func 67) #[] #[.pointer (some ⟨h3, 0, none⟩), .pointer (some ⟨h1, 0, none⟩)], .func (.func 67) #[] #[.pointer (some ⟨h3, 0, none⟩), .pointer (some ⟨h1, 0, none⟩)], .bool false, .func (.func 67) #[] #[.pointer (some ⟨h3, 0, none⟩), .pointer (some ⟨h1, 0, none⟩)], .agg #[.int .i64 ((x.1 : Nat) : Int), .int .i64 ((x.2 : Nat) : Int)], undef, undef, undef, undef, undef, undef, undef, undef, undef, undef, undef, undef, undef, undef, undef, undef, undef, undef, undef, undef, undef, undef, undef, undef, undef, undef, undef, undef, undef, undef, undef, undef, undef, undef, undef, undef, undef, undef, undef, undef, undef, undef, undef, undef, undef, undef, undef, undef, undef, undef, undef, undef, undef, undef, undef, undef, undef, undef, undef, undef, undef], defers := [] })
                (fun x a' pre A B row hs hg hr => by
                  obtain ⟨gb, h1, h2, h3⟩ := hs
                  exact ⟨gb, h1, h2.kept hg (fun r e => (hr r e).2), h3⟩)
                ?asga ?boda ?dona ?stoa
              case asga =>
                intro X l pre x W K hX hIx hsp hK
                have hI := hIx
                have SZ := Aside0.mk hI.sz
                have HXA := Aside0.mk hX
                have HB := BelowH.refl W
                clear hX hsp
                have hz : ∀ t : Array Value, (((#[70] : Array Tmp).zip (spanEnc x)).foldl (fun t (p, v) => t.setIfInBounds p v) t) = t.setIfInBounds 70 (.agg #[.int .i64 ((x.1 : Nat) : Int), .int .i64 ((x.2 : Nat) : Int)]) := fun t => by simp [spanEnc]
                rw [hz]
                simp only [List.setIfInBounds_toArray, List.set_cons_succ, List.set_cons_zero]
                clear hz
                gi_wp2_with (first
                  | ((with_reducible refine gate_dstIn (N := 10) rfl ?_); refine ev_allocIn HB rfl rfl (#[.int .i64 0, .int .i64 0]) 30 ?hr ?_; (case hr => first | (go_simp; done) | (go_simp; rfl)); intro gb w15 G_gb GE_gb B_gb HBn K_gb KO_w15; clear HB; have HB := HBn; clear HBn)
                  | ((with_reducible refine gate_In (Op.store 30 (.tmp 10) (.tmp 70)) rfl ?_); refine ev_storeIn HB B_gb GE_gb rfl 30 _ _ rfl rfl rfl (by kernel_rfl) rfl (by simp [Value.oneCell']) ?_; intro w16 B16 HBn K_w16 KO_w16; clear HB; have HB := HBn; clear HBn))
                have hKO := KO_w15.out.trans KO_w16.out
                have q := PGa.out
                have Z := SZ.out
                refine hK _ _ (hKO.from _) (fun k hk => HB.out.block k (HXA.out k hk).2) ⟨HB.out.block 0 (by omega), HB.out.block h1 (by omega), HB.le⟩ (hI.below HB.out) ⟨gb, Nat.le_trans SZ.out GE_gb.out, B16, rfl⟩
              case boda =>
                rintro X l pre x a' W hX hl ⟨r, hr⟩ hIx ⟨gb, hgb, BX, rfl⟩ hsp
                have hI := hIx
                obtain ⟨sp1, sp2, sp3⟩ : 0 ≤ x.1 ∧ x.1 ≤ x.2 ∧ x.2 ≤ s.size := ⟨Nat.zero_le _, ((texts_spans s).1 pre x hsp).le, ((texts_spans s).1 pre x hsp).hi⟩
                have hlen : Aside0 ((pre.map (extT s)).length + 1 ≤ 1048577) := ⟨by
                  have h1 := hsp.length_le
                  have h2 := texts_len s
                  have h3 := HS2.out
                  have h4 := HTS.out
                  rw [List.length_append, List.length_singleton] at h1
                  rw [List.length_map]
                  omega⟩
                have HXA := Aside0.mk hX
                have SZ := Aside0.mk hI.sz
                clear hr hl hX hsp
                obtain ⟨f, hf⟩ : ∃ f : Int, f = ((x.1 : Nat) : Int) := ⟨_, rfl⟩
                obtain ⟨u, hu⟩ : ∃ u : Int, u = ((x.2 : Nat) : Int) := ⟨_, rfl⟩
                have HEX : Aside0 ((s).extract f.toNat u.toNat = extT s x) := ⟨by rw [hf, hu, Int.toNat_natCast, Int.toNat_natCast]; rfl⟩
                have e0 : (0 : Int) ≤ f := by omega
                have e1 : f ≤ u := by omega
                have e2 : u ≤ (s.size : Int) := by omega
                have e3 : (0 : Int) ≤ u := by omega
                rw [← hf, ← hu] at BX
                rw [← hf, ← hu]
                clear hf hu sp1 sp2 sp3
                have d1 : decide (f < 0) = false := decide_eq_false (by omega)
                have d2 : decide (u < f) = false := decide_eq_false (by omega)
                have d3 : decide ((s.size : Int) < u) = false := decide_eq_false (by omega)
                have kx0 := BX.cell (i := 0) rfl
                have kx1 := BX.cell (i := 1) rfl
                have k1 := (QB.out.1.below hI.hb.out).cell (i := 0) rfl
                have G0 := Aside0.mk hI
                have X0 := Aside0.mk BX
                clear hI BX
                gi_upto_region 22 with (fail)
                have hdr : Aside0 (Below W.heap.size W W.drew) := ⟨below_drew (Below.refl _ _)⟩
                have HBD := hdr
                have G := Aside0.mk (G0.out.below hdr.out)
                have XB := Aside0.mk (X0.out.below hdr.out)
                clear G0 X0 hdr kx0 kx1 k1
                obtain ⟨va, BV, _⟩ := G.out.g
                refine wpIn_region_last_drew HF (S := fun W' => Blk W' g7 #[va] 59 ∧ Blk W' g1 #[.string s] 9 ∧ Blk W' gb #[.int .i64 f, .int .i64 u] 30) (ds := [8, 9]) (by kernel_rfl) (by kernel_rfl) ⟨BV, QB.out.1.below G.out.hb.out, XB.out⟩ (fun hS => ?_)
                refine wpAnyLast_take (i := 0) (oi := Oper.mk _ _ _ _ _ _) rfl (by kernel_rfl) (by kernel_rfl) (by kernel_rfl) (by kernel_rfl) (by kernel_rfl) (fun _ _ _ h => h) (rg_load1 (by rfl) (fun _ hS => hS.1.cell (i := 0) rfl) 59 _ rfl rfl (fun _ => by simp [isAgg, run_underlying Tryd.underlying59])) hS ?_
                try simp only [Act.put, List.setIfInBounds_toArray, List.set_cons_zero, List.set_cons_succ]
                refine wpAnyLast_take (i := 1) (oi := Oper.mk _ _ _ _ _ _) rfl (by kernel_rfl) (by kernel_rfl) (by kernel_rfl) (by kernel_rfl) (by kernel_rfl) (fun _ _ _ h => h) (rg_load1 (by rfl) (fun _ hS => hS.2.1.cell (i := 0) rfl) 9 _ rfl rfl (fun _ => by simp [isAgg, run_underlying Tryd.underlying9])) hS ?_
                try simp only [Act.put, List.setIfInBounds_toArray, List.set_cons_zero, List.set_cons_succ]
                refine' wpAnyLast_take (i := 2) (oi := Oper.mk _ _ _ _ _ _) rfl (by kernel_rfl) (by kernel_rfl) (by kernel_rfl) (by kernel_rfl) (by kernel_rfl) (fun _ _ _ h => h) (Or.inl ⟨by rfl, ?hy5⟩) hS ?rest5
                case hy5 => (intro w hSw; (try dsimp only at hSw); first | (go_simp; done) | (go_simp; with_reducible rfl))
                try simp only [Act.put, List.setIfInBounds_toArray, List.set_cons_zero, List.set_cons_succ]
                refine wpAnyLast_take (i := 3) (oi := Oper.mk _ _ _ _ _ _) rfl (by kernel_rfl) (by kernel_rfl) (by kernel_rfl) (by kernel_rfl) (by kernel_rfl) (fun _ _ _ h => h) (rg_load1 (by rfl) (fun _ hS => hS.2.2.cell (i := 0) rfl) 3 _ rfl rfl (fun _ => by simp [isAgg, run_underlying Tryd.underlying3])) hS ?_
                try simp only [Act.put, List.setIfInBounds_toArray, List.set_cons_zero, List.set_cons_succ]
                refine' wpAnyLast_take (i := 4) (oi := Oper.mk _ _ _ _ _ _) rfl (by kernel_rfl) (by kernel_rfl) (by kernel_rfl) (by kernel_rfl) (by kernel_rfl) (fun _ _ _ h => h) (Or.inl ⟨by rfl, ?hy6⟩) hS ?rest6
                case hy6 => (intro w hSw; (try dsimp only at hSw); first | (go_simp; done) | (go_simp; with_reducible rfl))
                try simp only [Act.put, List.setIfInBounds_toArray, List.set_cons_zero, List.set_cons_succ]
                refine wpAnyLast_take (i := 5) (oi := Oper.mk _ _ _ _ _ _) rfl (by kernel_rfl) (by kernel_rfl) (by kernel_rfl) (by kernel_rfl) (by kernel_rfl) (fun _ _ _ h => h) (rg_load1 (by rfl) (fun _ hS => hS.2.2.cell (i := 1) rfl) 3 _ rfl rfl (fun _ => by simp [isAgg, run_underlying Tryd.underlying3])) hS ?_
                try simp only [Act.put, List.setIfInBounds_toArray, List.set_cons_zero, List.set_cons_succ]
                refine' wpAnyLast_take (i := 6) (oi := Oper.mk _ _ _ _ _ _) rfl (by kernel_rfl) (by kernel_rfl) (by kernel_rfl) (by kernel_rfl) (by kernel_rfl) (fun _ _ _ h => h) (Or.inl ⟨by rfl, ?hy7⟩) hS ?rest7
                case hy7 => (intro w hSw; (try dsimp only at hSw); first | (go_simp; done) | (go_simp; with_reducible rfl))
                try simp only [Act.put, List.setIfInBounds_toArray, List.set_cons_zero, List.set_cons_succ]
                refine wpAnyLast_ready (rs := [7]) (by kernel_rfl) (by simp) ?_
                refine AllReadyL.cons (o := Oper.mk _ _ _ _ _ _) rfl (by decide) (fun K hK => ?_) ?_
                · refine rg_lit G.out.hb (by rfl) (.string ((s).extract f.toNat u.toNat)) 9 (by first | (go_simp; done) | (go_simp; rfl)) ?_
                  intro gl W' BN HBx hb
                  have Gn := Aside0.mk (G.out.below hb.out)
                  have XBn := Aside0.mk (XB.out.below hb.out)
                  have BVn := BV.below hb.out
                  have HBDn := Aside0.mk (HBD.out.trans (hb.out.mono HBD.out.size))
                  clear HBx G XB BV HBD
                  have G := Gn
                  have XB := XBn
                  have BV := BVn
                  have HBD := HBDn
                  clear Gn XBn BVn HBDn
                  refine hK.out _ _ ⟨BV, QB.out.1.below G.out.hb.out, XB.out⟩ (fun hS => ?_)
                  clear hK K hb
                  try simp only [Act.put, List.setIfInBounds_toArray, List.set_cons_zero, List.set_cons_succ]
                  refine wpAnyLast_ready (rs := [8]) (by kernel_rfl) (by simp) ?_
                  refine AllReadyL.cons_last (o := Oper.mk _ _ _ _ _ _) rfl (by decide) (fun K hK => ?_) ?_
                  · obtain ⟨v2, BV2, RV2, hgrow⟩ := G.out.grow (by decide) NGa.out PGa.out.2.2.2.1 PGa.out.2.2.1 (fun k hk => Nat.lt_of_lt_of_le (HXA.out k hk).2 HBD.out.size) (fun k hk => (HXA.out k hk).1) (u := extT s x)
                    obtain rfl : v2 = va := blk_same BV2 BV
                    refine rg_append2 (by rfl) _ _ 59 9 (.string ⟨#[]⟩) 16 (by rfl) Tryd.underlying59 (by kernel_rfl) rfl (by decide) v2 (pre.map (extT s)).length _ RV2 (by rfl) ⟨gl, 0, none⟩ 1 1 [.string ((s).extract f.toNat u.toNat)] (by rfl) rfl (by decide) (lit_news BN) (lit_one rfl) (by have := hlen.out; omega) ?_
                    intro v3 w50 hA
                    have hA2 := hA.out
                    rw [HEX.out] at hA2
                    obtain ⟨⟨BG, hone⟩, _⟩ := hgrow v3 w50 w50 hA2
                    have HFIN := Aside0.mk hgrow
                    have HA2 := Aside0.mk hA2
                    have HONE := Aside0.mk hone
                    clear hgrow hA hA2 BV2 RV2 hone
                    refine hK.out _ _ ?_
                    clear hK K
                    try simp only [Act.put, List.setIfInBounds_toArray, List.set_cons_zero, List.set_cons_succ]
                    refine wpAnyLast_ready (rs := [9]) (by kernel_rfl) (by simp) ?_
                    refine AllReadyL.cons_last (o := Oper.mk _ _ _ _ _ _) rfl (by decide) (fun K hK => ?_) ?_
                    · refine rg_put1 (by rfl) BG 59 _ _ rfl rfl v3 rfl (by simp) (by kernel_rfl) HONE.out ?_
                      intro w51 B51 hg51
                      obtain ⟨GN, hXk, hlow, hsz, hKO⟩ := (HFIN.out v3 w50 w51 HA2.out).2 B51 hg51.out
                      have FIN := Aside0.mk (And.intro GN (And.intro hXk (And.intro hlow (And.intro hsz hKO))))
                      clear GN hXk hlow hsz hKO B51 hg51 BG
                      refine hK.out _ _ ?_
                      clear hK K
                      try simp only [Act.put, List.setIfInBounds_toArray, List.set_cons_zero, List.set_cons_succ]
                      refine wpAnyLast_done (by kernel_rfl) ?_ _
                      refine Straight.normal ?_
                      have q := PGa.out
                      have nh := NHa.out
                      refine ⟨((keepsOthers_below HBD.out).trans FIN.out.2.2.2.2).from _, fun k hk => (FIN.out.2.1 k hk).trans (HBD.out.block k (HXA.out k hk).2), ⟨(FIN.out.2.2.1 0 (by omega) (by omega)).trans (HBD.out.block 0 (by have := SZ.out; omega)), (FIN.out.2.2.1 h1 (by omega) nh).trans (HBD.out.block h1 (by have := SZ.out; omega)), Nat.le_trans HBD.out.size FIN.out.2.2.2.1⟩, ?_⟩
                      have FE := FIN.out.1
                      rw [show pre.map (extT s) ++ [extT s x] = (pre ++ [x]).map (extT s) from (by rw [List.map_append]; rfl)] at FE
                      exact FE
                    exact AllReadyL.nil
                  exact AllReadyL.nil
                exact AllReadyL.nil
              case dona =>
                rintro D X ys W hD hX rfl hI hK
                obtain ⟨va, B7, R7, _⟩ := hI.g
                have B8 := hI.f.1
                have HB := hI.hb
                have z6 := (QB.out.2.2.1.below HB.out).cell (i := 0) rfl
                have R7A := Aside0.mk R7
                have hDa := Aside0.mk (And.intro hD hK)
                have SZD := Aside0.mk hI.sz
                clear hX hD hK hI R7
                gi_wp2_with (first
                  | (gi_at_call 32; refine (callsIn_of HF (quotes_Texts.calls t _ (by have := HTS.out; have := HS2.out; omega))).mono ?_; rintro e wE ⟨j3, j1, rfl, hO⟩; have HOb := Aside0.mk hO; have HBn := HB.step hO.hb.out; have B7n := B7.below hO.hb.out; have B8n := B8.below hO.hb.out; have R7n := Aside0.mk (row_below R7A.out hO.hb.out); have KD := Aside0.mk ((hO.hb.out.block D (Array.getElem?_eq_some_iff.1 hDa.out.2).1).trans hDa.out.2); clear HB hO z6 B7 B8 R7A; have HB := HBn; have B7 := B7n; have B8 := B8n; have R7A := R7n; clear HBn B7n B8n R7n))
                obtain ⟨Ab, capb, hB3, hC, hcap⟩ := HOb.out.out
                have LH1 := HOb.out.b1.lt
                have P0 := (QB.out.2.2.2.1.step HB.out).pos
                have PGb : Aside0 (0 < wE.heap.size ∧ j1 < wE.heap.size ∧ wB.heap.size ≤ g8 ∧ g8 < wE.heap.size ∧ g7 < wE.heap.size ∧ wB.heap.size ≤ wE.heap.size ∧ D < wE.heap.size ∧ D ≠ g8 ∧ 0 < wB.heap.size) := ⟨⟨P0, LH1, PGa.out.2.2.2.2.2.2.2, B8.lt, B7.lt, HB.le, (Array.getElem?_eq_some_iff.1 KD.out).1, by have h1 := hDa.out.1; have h2 := PGa.out.2.2.2.2.1; omega, QB.out.2.2.2.1.pos⟩⟩
                have NGb : Aside0 (g8 ≠ g7) := ⟨Ne.symm NGa.out⟩
                have NHb : Aside0 (j1 ≠ g8) := ⟨fun e => by
                  have a1 := HOb.out.b1.out
                  have a2 := B8.out
                  rw [e, a2] at a1
                  simp at a1⟩
                have HBWb := HB
                have H0 : GrI 9 59 [] ((textsL s).map (extT s)) va wB g8 g7 wE.heap.size [] wE := ⟨⟨_, B8, World.ownsRow_nil wE 0 _ 1, fun b hb => by cases hb⟩, ⟨B7, R7A.out, fun b hb => (World.ownsRow.lt R7A.out b hb).2⟩, HB, Nat.le_refl _⟩
                clear HB B7 B8 R7A
                refine wpIn_rangeFunc_O hro (by decide) (gf := 67) (lb := #[.pointer (some ⟨j3, 0, none⟩), .pointer (some ⟨j1, 0, none⟩)]) rfl f2 (enters_of Tryd.func67 (by kernel_rfl) rfl)
                  (quotes_Texts_1.stops F HF (9 - 1) (by decide) j3 j1 t (by have := HS2.out; have := HTS.out; omega) Ab capb wE hB3 hC hcap HOb.out.b1 (QB.out.2.2.2.1.step HBWb.out)) Keep2.trans (fun W l o o' hl ho hc hw => Keep2.putObj P0 LH1 W l o o' hl ho hc hw) (Below.refl _ _) (fun _ => rfl)
                  (fun X pre W => GrI 9 59 (pre.map (extT t)) ((textsL s).map (extT s)) (va) wB g8 g7 wE.heap.size X W ∧ W.heap[D]? = some (.deferred (some []))) (fun _ _ _ => False)
                  (fun X pre A B row hs hg hr => ⟨hs.1.kept HBWb.le hg hr, (hg.block D (Array.getElem?_eq_some_iff.1 hs.2).1 (fun e => by have h := (hr D e.symm).1; have q := PGb.out; omega)).trans hs.2⟩)
                  (fun _ _ _ _ _ hs _ _ => hs)
                  (fun X pre A k h hk => ⟨h.1.more hk, h.2⟩)
                  (fun X pre A C hX h ht => ⟨h.1.turned hX ht PGb.out.2.2.2.1 PGb.out.2.2.2.2.1 HBWb.le, (ht.block D (Array.getElem?_eq_some_iff.1 h.2).1 (not_mem_above hX PGb.out.2.2.2.2.2.2.1)).trans h.2⟩)
                  ⟨H0, KD.out⟩
                  (fun x a' W => ∃ gb, wE.heap.size ≤ gb ∧ Blk W gb #[.int .i64 ((x.1 : Nat) : Int), .int .i64 ((x.2 : Nat) : Int)] 30 ∧ a' = { tmps := #[.string s, .pointer (some ⟨g1, 0, none⟩), .pointer (some ⟨g2, 0, none⟩), .pointer (some ⟨g3, 0, none⟩), .pointer (some ⟨g4, 0, none⟩), .int .i64 i, .pointer (some ⟨g6, 0, none⟩), .pointer (some ⟨g7, 0, none⟩), .pointer (some ⟨g8, 0, none⟩), .func (.func 67) #[] #[.pointer (some ⟨h3, 0, none⟩), .pointer (some ⟨h1, 0, none⟩)], undef, .func (.func 67) #[] #[.pointer (some ⟨j3, 0, none⟩), .pointer (some ⟨j1, 0, none⟩)], .pointer (some ⟨gb, 0, none⟩), .bool true, .bool false, u15, u16, u17, u18, .pointer (some ⟨g3, 0, none⟩), .int .i64 s.size, .string s, .int .i64 s.size, .bool false, .bool false, .pointer (some ⟨g4, 0, none⟩), .int .i64 s.size, .string s, .int .i64 s.size, .bool false, .bool false, .int .i64 i, .string s, .int .i64 s.size, .bool false, u35, u36, u37, u38, u39, u40, u41, u42, u43, u44, u45, u46, u47, u48, u49, u50, u51, u52, .string s, .string t, .string t, .string t, .string t, .bool false, .bool false, .string t, .agg #[.int .i64 t.size, .slice A5 nt c5], .int .i64 (-1), .bool false, .bool false, .string s, .func (.func 67) #[] #[.pointer (some ⟨h3, 0, none⟩), .pointer (some ⟨h1, 0, none⟩)], .func (.func 67) #[] #[.pointer (some ⟨h3, 0, none⟩), .pointer (some ⟨h1, 0, none⟩)], .bool false, .func (.func 67) #[] #[.pointer (some ⟨h3, 0, none⟩), .pointer (some ⟨h1, 0, none⟩)], undef, undef, undef, undef, undef, undef, undef, undef, undef, undef, undef, undef, undef, undef, undef, undef, undef, undef, undef, undef, undef, undef, undef, undef, undef, undef, undef, .string t, .func (.func 67) #[] #[.pointer (some ⟨j3, 0, none⟩), .pointer (some ⟨j1, 0, none⟩)], .func (.func 67) #[] #[.pointer (some ⟨j3, 0, none⟩), .pointer (some ⟨j1, 0, none⟩)], .bool false, .func (.func 67) #[] #[.pointer (some ⟨j3, 0, none⟩), .pointer (some ⟨j1, 0, none⟩)], .agg #[.int .i64 ((x.1 : Nat) : Int), .int .i64 ((x.2 : Nat) : Int)], undef, undef, undef, undef, undef, undef, undef, undef, undef, undef, undef, undef, undef, undef, undef, undef, undef, undef, undef, undef, undef, undef, undef, undef, undef, undef, undef, undef, undef], defers := [] })
                  (fun x a' pre A B row hs hg hr => by
                    obtain ⟨gb, h1, h2, h3⟩ := hs
                    exact ⟨gb, h1, h2.kept hg (fun r e => (hr r e).2), h3⟩)
                  ?asgb ?bodb ?donb ?stob
                case asgb =>
                  intro X l pre x W K hX hIx hsp hK
                  obtain ⟨hI, hDD⟩ := hIx
                  have SZ := Aside0.mk hI.sz
                  have HXA := Aside0.mk hX
                  have HB := BelowH.refl W
                  clear hX hsp
                  have hz : ∀ t : Array Value, (((#[102] : Array Tmp).zip (spanEnc x)).foldl (fun t (p, v) => t.setIfInBounds p v) t) = t.setIfInBounds 102 (.agg #[.int .i64 ((x.1 : Nat) : Int), .int .i64 ((x.2 : Nat) : Int)]) := fun t => by simp [spanEnc]
                  rw [hz]
                  simp only [List.setIfInBounds_toArray, List.set_cons_succ, List.set_cons_zero]
                  clear hz
                  gi_wp2_with (first
                    | ((with_reducible refine gate_dstIn (N := 12) rfl ?_); refine ev_allocIn HB rfl rfl (#[.int .i64 0, .int .i64 0]) 30 ?hr ?_; (case hr => first | (go_simp; done) | (go_simp; rfl)); intro gb w15 G_gb GE_gb B_gb HBn K_gb KO_w15; clear HB; have HB := HBn; clear HBn)
                    | ((with_reducible refine gate_In (Op.store 30 (.tmp 12) (.tmp 102)) rfl ?_); refine ev_storeIn HB B_gb GE_gb rfl 30 _ _ rfl rfl rfl (by kernel_rfl) rfl (by simp [Value.oneCell']) ?_; intro w16 B16 HBn K_w16 KO_w16; clear HB; have HB := HBn; clear HBn))
                  have hKO := KO_w15.out.trans KO_w16.out
                  have q := PGb.out
                  have Z := SZ.out
                  refine hK _ _ (hKO.from _) (fun k hk => HB.out.block k (HXA.out k hk).2) ⟨HB.out.block 0 (by omega), HB.out.block j1 (by omega), HB.le⟩ (⟨hI.below HB.out, (HB.out.block D (Array.getElem?_eq_some_iff.1 hDD).1).trans hDD⟩) ⟨gb, Nat.le_trans SZ.out GE_gb.out, B16, rfl⟩
                case bodb =>
                  rintro X l pre x a' W hX hl ⟨r, hr⟩ hIx ⟨gb, hgb, BX, rfl⟩ hsp
                  obtain ⟨hI, hDD⟩ := hIx
                  obtain ⟨sp1, sp2, sp3⟩ : 0 ≤ x.1 ∧ x.1 ≤ x.2 ∧ x.2 ≤ t.size := ⟨Nat.zero_le _, ((texts_spans t).1 pre x hsp).le, ((texts_spans t).1 pre x hsp).hi⟩
                  have hlen : Aside0 ((pre.map (extT t)).length + 1 ≤ 1048577) := ⟨by
                    have h1 := hsp.length_le
                    have h2 := texts_len t
                    have h3 := HS2.out
                    have h4 := HTS.out
                    rw [List.length_append, List.length_singleton] at h1
                    rw [List.length_map]
                    omega⟩
                  have HXA := Aside0.mk hX
                  have SZ := Aside0.mk hI.sz
                  clear hr hl hX hsp
                  obtain ⟨f, hf⟩ : ∃ f : Int, f = ((x.1 : Nat) : Int) := ⟨_, rfl⟩
                  obtain ⟨u, hu⟩ : ∃ u : Int, u = ((x.2 : Nat) : Int) := ⟨_, rfl⟩
                  have HEX : Aside0 ((t).extract f.toNat u.toNat = extT t x) := ⟨by rw [hf, hu, Int.toNat_natCast, Int.toNat_natCast]; rfl⟩
                  have e0 : (0 : Int) ≤ f := by omega
                  have e1 : f ≤ u := by omega
                  have e2 : u ≤ (t.size : Int) := by omega
                  have e3 : (0 : Int) ≤ u := by omega
                  rw [← hf, ← hu] at BX
                  rw [← hf, ← hu]
                  clear hf hu sp1 sp2 sp3
                  have d1 : decide (f < 0) = false := decide_eq_false (by omega)
                  have d2 : decide (u < f) = false := decide_eq_false (by omega)
                  have d3 : decide ((t.size : Int) < u) = false := decide_eq_false (by omega)
                  have kx0 := BX.cell (i := 0) rfl
                  have kx1 := BX.cell (i := 1) rfl
                  have k1 := (QB.out.2.2.1.below hI.hb.out).cell (i := 0) rfl
                  have G0 := Aside0.mk hI
                  have X0 := Aside0.mk BX
                  have HDD := Aside0.mk hDD
                  clear hDD
                  clear hI BX
                  gi_upto_region 30 with (fail)
                  have hdr : Aside0 (Below W.heap.size W W.drew) := ⟨below_drew (Below.refl _ _)⟩
                  have HBD := hdr
                  have G := Aside0.mk (G0.out.below hdr.out)
                  have XB := Aside0.mk (X0.out.below hdr.out)
                  clear G0 X0 hdr kx0 kx1 k1
                  obtain ⟨va, BV, _⟩ := G.out.g
                  refine wpIn_region_last_drew HF (S := fun W' => Blk W' g8 #[va] 59 ∧ Blk W' g6 #[.string t] 9 ∧ Blk W' gb #[.int .i64 f, .int .i64 u] 30) (ds := [8, 9]) (by kernel_rfl) (by kernel_rfl) ⟨BV, QB.out.2.2.1.below G.out.hb.out, XB.out⟩ (fun hS => ?_)
                  refine wpAnyLast_take (i := 0) (oi := Oper.mk _ _ _ _ _ _) rfl (by kernel_rfl) (by kernel_rfl) (by kernel_rfl) (by kernel_rfl) (by kernel_rfl) (fun _ _ _ h => h) (rg_load1 (by rfl) (fun _ hS => hS.1.cell (i := 0) rfl) 59 _ rfl rfl (fun _ => by simp [isAgg, run_underlying Tryd.underlying59])) hS ?_
                  try simp only [Act.put, List.setIfInBounds_toArray, List.set_cons_zero, List.set_cons_succ]
                  refine wpAnyLast_take (i := 1) (oi := Oper.mk _ _ _ _ _ _) rfl (by kernel_rfl) (by kernel_rfl) (by kernel_rfl) (by kernel_rfl) (by kernel_rfl) (fun _ _ _ h => h) (rg_load1 (by rfl) (fun _ hS => hS.2.1.cell (i := 0) rfl) 9 _ rfl rfl (fun _ => by simp [isAgg, run_underlying Tryd.underlying9])) hS ?_
                  try simp only [Act.put, List.setIfInBounds_toArray, List.set_cons_zero, List.set_cons_succ]
                  refine' wpAnyLast_take (i := 2) (oi := Oper.mk _ _ _ _ _ _) rfl (by kernel_rfl) (by kernel_rfl) (by kernel_rfl) (by kernel_rfl) (by kernel_rfl) (fun _ _ _ h => h) (Or.inl ⟨by rfl, ?hy8⟩) hS ?rest8
                  case hy8 => (intro w hSw; (try dsimp only at hSw); first | (go_simp; done) | (go_simp; with_reducible rfl))
                  try simp only [Act.put, List.setIfInBounds_toArray, List.set_cons_zero, List.set_cons_succ]
                  refine wpAnyLast_take (i := 3) (oi := Oper.mk _ _ _ _ _ _) rfl (by kernel_rfl) (by kernel_rfl) (by kernel_rfl) (by kernel_rfl) (by kernel_rfl) (fun _ _ _ h => h) (rg_load1 (by rfl) (fun _ hS => hS.2.2.cell (i := 0) rfl) 3 _ rfl rfl (fun _ => by simp [isAgg, run_underlying Tryd.underlying3])) hS ?_
                  try simp only [Act.put, List.setIfInBounds_toArray, List.set_cons_zero, List.set_cons_succ]
                  refine' wpAnyLast_take (i := 4) (oi := Oper.mk _ _ _ _ _ _) rfl (by kernel_rfl) (by kernel_rfl) (by kernel_rfl) (by kernel_rfl) (by kernel_rfl) (fun _ _ _ h => h) (Or.inl ⟨by rfl, ?hy9⟩) hS ?rest9
                  case hy9 => (intro w hSw; (try dsimp only at hSw); first | (go_simp; done) | (go_simp; with_reducible rfl))
                  try simp only [Act.put, List.setIfInBounds_toArray, List.set_cons_zero, List.set_cons_succ]
                  refine wpAnyLast_take (i := 5) (oi := Oper.mk _ _ _ _ _ _) rfl (by kernel_rfl) (by kernel_rfl) (by kernel_rfl) (by kernel_rfl) (by kernel_rfl) (fun _ _ _ h => h) (rg_load1 (by rfl) (fun _ hS => hS.2.2.cell (i := 1) rfl) 3 _ rfl rfl (fun _ => by simp [isAgg, run_underlying Tryd.underlying3])) hS ?_
                  try simp only [Act.put, List.setIfInBounds_toArray, List.set_cons_zero, List.set_cons_succ]
                  refine' wpAnyLast_take (i := 6) (oi := Oper.mk _ _ _ _ _ _) rfl (by kernel_rfl) (by kernel_rfl) (by kernel_rfl) (by kernel_rfl) (by kernel_rfl) (fun _ _ _ h => h) (Or.inl ⟨by rfl, ?hy10⟩) hS ?rest10
                  case hy10 => (intro w hSw; (try dsimp only at hSw); first | (go_simp; done) | (go_simp; with_reducible rfl))
                  try simp only [Act.put, List.setIfInBounds_toArray, List.set_cons_zero, List.set_cons_succ]
                  refine wpAnyLast_ready (rs := [7]) (by kernel_rfl) (by simp) ?_
                  refine AllReadyL.cons (o := Oper.mk _ _ _ _ _ _) rfl (by decide) (fun K hK => ?_) ?_
                  · refine rg_lit G.out.hb (by rfl) (.string ((t).extract f.toNat u.toNat)) 9 (by first | (go_simp; done) | (go_simp; rfl)) ?_
                    intro gl W' BN HBx hb
                    have Gn := Aside0.mk (G.out.below hb.out)
                    have XBn := Aside0.mk (XB.out.below hb.out)
                    have BVn := BV.below hb.out
                    have HBDn := Aside0.mk (HBD.out.trans (hb.out.mono HBD.out.size))
                    clear HBx G XB BV HBD
                    have G := Gn
                    have XB := XBn
                    have BV := BVn
                    have HBD := HBDn
                    clear Gn XBn BVn HBDn
                    refine hK.out _ _ ⟨BV, QB.out.2.2.1.below G.out.hb.out, XB.out⟩ (fun hS => ?_)
                    clear hK K hb
                    try simp only [Act.put, List.setIfInBounds_toArray, List.set_cons_zero, List.set_cons_succ]
                    refine wpAnyLast_ready (rs := [8]) (by kernel_rfl) (by simp) ?_
                    refine AllReadyL.cons_last (o := Oper.mk _ _ _ _ _ _) rfl (by decide) (fun K hK => ?_) ?_
                    · obtain ⟨v2, BV2, RV2, hgrow⟩ := G.out.grow (by decide) NGb.out PGb.out.2.2.2.1 PGb.out.2.2.1 (fun k hk => Nat.lt_of_lt_of_le (HXA.out k hk).2 HBD.out.size) (fun k hk => (HXA.out k hk).1) (u := extT t x)
                      obtain rfl : v2 = va := blk_same BV2 BV
                      refine rg_append2 (by rfl) _ _ 59 9 (.string ⟨#[]⟩) 16 (by rfl) Tryd.underlying59 (by kernel_rfl) rfl (by decide) v2 (pre.map (extT t)).length _ RV2 (by rfl) ⟨gl, 0, none⟩ 1 1 [.string ((t).extract f.toNat u.toNat)] (by rfl) rfl (by decide) (lit_news BN) (lit_one rfl) (by have := hlen.out; omega) ?_
                      intro v3 w50 hA
                      have hA2 := hA.out
                      rw [HEX.out] at hA2
                      obtain ⟨⟨BG, hone⟩, _⟩ := hgrow v3 w50 w50 hA2
                      have HFIN := Aside0.mk hgrow
                      have HA2 := Aside0.mk hA2
                      have HONE := Aside0.mk hone
                      clear hgrow hA hA2 BV2 RV2 hone
                      refine hK.out _ _ ?_
                      clear hK K
                      try simp only [Act.put, List.setIfInBounds_toArray, List.set_cons_zero, List.set_cons_succ]
                      refine wpAnyLast_ready (rs := [9]) (by kernel_rfl) (by simp) ?_
                      refine AllReadyL.cons_last (o := Oper.mk _ _ _ _ _ _) rfl (by decide) (fun K hK => ?_) ?_
                      · refine rg_put1 (by rfl) BG 59 _ _ rfl rfl v3 rfl (by simp) (by kernel_rfl) HONE.out ?_
                        intro w51 B51 hg51
                        obtain ⟨GN, hXk, hlow, hsz, hKO⟩ := (HFIN.out v3 w50 w51 HA2.out).2 B51 hg51.out
                        have FIN := Aside0.mk (And.intro GN (And.intro hXk (And.intro hlow (And.intro hsz hKO))))
                        clear GN hXk hlow hsz hKO B51 hg51 BG
                        refine hK.out _ _ ?_
                        clear hK K
                        try simp only [Act.put, List.setIfInBounds_toArray, List.set_cons_zero, List.set_cons_succ]
                        refine wpAnyLast_done (by kernel_rfl) ?_ _
                        refine Straight.normal ?_
                        have q := PGb.out
                        have nh := NHb.out
                        refine ⟨((keepsOthers_below HBD.out).trans FIN.out.2.2.2.2).from _, fun k hk => (FIN.out.2.1 k hk).trans (HBD.out.block k (HXA.out k hk).2), ⟨(FIN.out.2.2.1 0 (by omega) (by omega)).trans (HBD.out.block 0 (by have := SZ.out; omega)), (FIN.out.2.2.1 j1 (by omega) nh).trans (HBD.out.block j1 (by have := SZ.out; omega)), Nat.le_trans HBD.out.size FIN.out.2.2.2.1⟩, ?_⟩
                        have FE := FIN.out.1
                        rw [show pre.map (extT t) ++ [extT t x] = (pre ++ [x]).map (extT t) from (by rw [List.map_append]; rfl)] at FE
                        exact ⟨FE, (FIN.out.2.2.1 D (by omega) (by omega)).trans ((HBD.out.block D (Array.getElem?_eq_some_iff.1 HDD.out).1).trans HDD.out)⟩
                      exact AllReadyL.nil
                    exact AllReadyL.nil
                  exact AllReadyL.nil
                case donb =>
                  rintro D2 X ys W2 hD2 hX rfl ⟨hI, hDD⟩ hK2
                  obtain ⟨vb, B8, R8, _⟩ := hI.g
                  obtain ⟨B7, R7, _⟩ := hI.f
                  have HB := QB.out.2.2.2.2.step hI.hb.out
                  have b2 := QB.out.2.1.below hI.hb.out
                  rw [← HEQ.out] at R8
                  obtain ⟨la, hla⟩ : ∃ la, la = (textsL s).map (extT s) := ⟨_, rfl⟩
                  have HLA : Aside0 (la.length ≤ 1099511627776) := ⟨by
                    have h1 := texts_len s
                    have h2 := HS2.out
                    rw [hla, List.length_map]
                    omega⟩
                  rw [← hla] at R7 R8
                  clear hla
                  obtain ⟨A7, c7, rfl⟩ := own_slice R7
                  obtain ⟨A8, c8, rfl⟩ := own_slice R8
                  have HSM : Aside0 (Calls Tryd.prog 48 #[.slice A7 la.length c7, .slice A8 la.length c8] W2 fun e w' => e = .returned (.bool true) ∧ Below W2.heap.size W2 w') := ⟨by
                    have h7 : Kd.R Kd.string 9 W2 0 (fun _ => True) (.slice A7 la.length c7) la := Kd.R_of_own R7 (fun _ _ => trivial)
                    have h8 : Kd.R Kd.string 9 W2 0 (fun _ => True) (.slice A8 la.length c8) la := Kd.R_of_own R8 (fun _ _ => trivial)
                    have r7 := Kd.R_reads' h7
                    have r8 := Kd.R_reads' h8
                    refine (quarryref00_SameTexts.calls (la.length + 1) A7 c7 la A8 c8 la true W2 r7.2.2 r7.2.1 r8.2.2 r8.2.1 (MtF.mt_sametexts_refl la (by have := HLA.out; omega) _ (by omega))).mono ?_
                    rintro e w' ⟨rfl, ⟨nd, rfl⟩⟩
                    exact ⟨rfl, pw_below_drewN (Below.refl _ _) nd⟩⟩
                  have k7 := B7.cell (i := 0) rfl
                  have k8 := B8.cell (i := 0) rfl
                  have HM := Aside0.mk (Marks.cons (Marks.cons (Marks.nil (m := w42.heap.size) (W := W2)) hDa.out.1 hDD (List.not_mem_nil)) (Nat.le_trans (by have h1 := SZD.out; have h2 := HOb.out.hb.le; omega) hD2) hK2 (by rw [List.mem_singleton]; have := PGb.out.2.2.2.2.2.2.1; omega))
                  clear hX hD2 hK2 hDD hI R7 R8 B7 B8
                  gi_wp2_with (first
                    | (gi_at_call 48; refine (callsIn_of HF HSM.out).mono ?_; rintro e w60 ⟨rfl, hb⟩; have HBn := HB.step hb; have b2n := b2.below hb; have HMn := Aside0.mk (HM.out.below hb); clear HB b2 HM hb k7 k8; have HB := HBn; have b2 := b2n; have HM := HMn; clear HBn b2n HMn)
                    | ((with_reducible refine gate_In (Op.store 4 (.tmp 2) (.tmp 131)) rfl ?_); refine ev_store1In (i := 0) HB b2 GE2 rfl 4 _ _ rfl rfl (.bool true) rfl (by simp) (by kernel_rfl) rfl ?_; intro w30 B30 HB30 K_w30 KO_w30))
                  refine leaves_marksS (S := fun A => Blk A g2 #[.bool true] 4 ∧ BelowH w A) (fun A D' hs h1 h2 => ?_) [D2, D] w30 ⟨B30, HB30⟩ (HM.out.others KO_w30.out) fun A hA => ⟨_, results_cell1 rfl _ _ g2 4 _ _ rfl hA.1 Tryd.underlying4 rfl, rfl, hA.2.out⟩
                  have hg := grownBy_putObj' A D' (.deferred none)
                  have hr2 : ∀ r, some D' = some r → ∃ o : Obj, A.heap[r]? = some o ∧ o.isCells = false := fun r e => by
                    cases e
                    exact ⟨_, h2, rfl⟩
                  exact ⟨hs.1.kept hg hr2, hs.2.kept hg (Nat.le_trans (Nat.le_trans QB.out.2.2.2.2.le PGa.out.2.2.2.2.2.1) h1) (fun r e => by cases e; exact Nat.le_refl _)⟩
                case stob =>
                  intro D2 c pre W hD hp hf
                  exact hf.elim
              case stoa =>
                intro D2 c pre W hD hp hf
                exact hf.elim
            exact AllReadyL.nil
          exact AllReadyL.nil
        exact AllReadyL.nil
def quarrylaw08_MarksTwice.f (a0 : ByteArray) : Option Bool := if a0.size ≤ 1048576 then some true else none
theorem quarrylaw08_MarksTwice.calls (a0 : ByteArray) (r : Bool) (w : World) (hT : TabOk w) (h : quarrylaw08_MarksTwice.f a0 = some r) :
    Calls Tryd.prog 13 #[.string a0] w fun e w' => e = .returned (.bool r) ∧ Below w.heap.size w w' := by
  unfold quarrylaw08_MarksTwice.f at h
  by_cases hs : a0.size ≤ 1048576
  case neg => rw [if_neg hs] at h; cases h
  rw [if_pos hs] at h
  cases h
  exact quarrylaw08_MarksTwice.true_ a0 hs w hT
def quarrylaw08_MarksTwice.Pure : Prop := ∀ (a0 : ByteArray), a0.size ≤ 1048576 → quarrylaw08_MarksTwice.f a0 = some true
theorem quarrylaw08_MarksTwice.walk (P : quarrylaw08_MarksTwice.Pure) (a0 : ByteArray) (w : World) (hT : TabOk w) (w0 : a0.size ≤ 1048576) :
    Calls Tryd.prog 13 #[.string a0] w fun e w' => e = .returned (.bool true) ∧ Below w.heap.size w w' :=
  quarrylaw08_MarksTwice.calls a0 true w hT (P a0 w0)
end


end Go.Proofs.YtadcgjmhhodnoaaDoor.PT
