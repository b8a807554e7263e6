-- Written by a program (myprint.py, over the kit's print) for this claim. Not trusted: Lean checks it.
import Derived.Test.YtagcilcdgckbeaaDoorMh
import Derived.Test.YtagcilcdgckbeaaDoorPKx0
import Derived.Test.YtagcilcdgckbeaaDoorPKx3
import Derived.Test.YtagcilcdgckbeaaDoorPKx4
import Derived.Test.YtagcilcdgckbeaaDoorPKx7
-- Written by a program (myprint.py, over the kit's print) for this claim. Not trusted: Lean checks it.
namespace Go.Proofs.YtagcilcdgckbeaaDoor.PK
open Go.RowKit Go.Proofs.YtagcilcdgckbeaaDoorW.PrintWords Go.Proofs.YtagcilcdgckbeaaDoorW.PrintLast Go.Proofs.YtagcilcdgckbeaaDoorW.PrintMore
attribute [local go_sem] max2_int min2_int max_two min_two max_three min_three max_four min_four   -- for this text's walks alone
set_option linter.unusedVariables false
set_option linter.unusedSimpArgs false

/-! ### quarryref00_SameBits: function 8 -/
mutual
def quarryref00_SameBits.j0 : Nat → Bool → Int → List Int → Int → List Int → Option (Bool)
  | 0, _, _, _, _, _ => none
  | k + 1, x19, x135000, x135001, x136000, x136001 => if x19 = true then (some false) else (quarryref00_SameBits.l0 k 0 x135000 x135001 x136000 x136001)
def quarryref00_SameBits.l0 : Nat → Int → Int → List Int → Int → List Int → Option (Bool)
  | 0, _, _, _, _, _ => none
  | k + 1, x5, x135000, x135001, x136000, x136001 => if x5 < (x135001.length : Int) then (if 0 ≤ x5 then (if x5 < (x136001.length : Int) then (if (rd x135001 x5) = (rd x136001 x5) then (quarryref00_SameBits.l0 k (wrap64 (x5 + 1)) x135000 x135001 x136000 x136001) else (some false)) else (none)) else (none)) else (some true)
end
def quarryref00_SameBits.f (k : Nat) (a0_0 : Int) (l0_1 : List Int) (a1_0 : Int) (l1_1 : List Int) : Option (Bool) := if a0_0 = a1_0 then (quarryref00_SameBits.j0 k ((l0_1.length : Int) != (l1_1.length : Int)) a0_0 l0_1 a1_0 l1_1) else (quarryref00_SameBits.j0 k true a0_0 l0_1 a1_0 l1_1)
theorem quarryref00_SameBits.mono_l : ∀ k, (∀ y0 y1 y2 y3 y4, LeO (quarryref00_SameBits.j0 k y0 y1 y2 y3 y4) (quarryref00_SameBits.j0 (k + 1) y0 y1 y2 y3 y4)) ∧ (∀ y0 y1 y2 y3 y4, LeO (quarryref00_SameBits.l0 k y0 y1 y2 y3 y4) (quarryref00_SameBits.l0 (k + 1) y0 y1 y2 y3 y4))
  | 0 => ⟨fun _ _ _ _ _ r h => by simp [quarryref00_SameBits.j0] at h, fun _ _ _ _ _ r h => by simp [quarryref00_SameBits.l0] at h⟩
  | k + 1 => by
    obtain ⟨ih0, ih1⟩ := quarryref00_SameBits.mono_l k
    refine ⟨?_, ?_⟩
    · intro y0 y1 y2 y3 y4
      unfold quarryref00_SameBits.j0
      repeat' first
      | (with_reducible exact ih0 _ _ _ _ _)
      | (with_reducible exact ih1 _ _ _ _ _)
      | (with_reducible exact LeO.refl _)
      | (with_reducible exact LeO.none _)
      | (with_reducible refine LeO.ite ?_ ?_)
      | (with_reducible refine LeO.bind ?_ (fun _ => ?_))
      | exact ih0 _ _ _ _ _
      | exact ih1 _ _ _ _ _
      | exact LeO.none _
      | refine LeO.ite ?_ ?_
      | refine LeO.bind ?_ (fun _ => ?_)
    · intro y0 y1 y2 y3 y4
      unfold quarryref00_SameBits.l0
      repeat' first
      | (with_reducible exact ih0 _ _ _ _ _)
      | (with_reducible exact ih1 _ _ _ _ _)
      | (with_reducible exact LeO.refl _)
      | (with_reducible exact LeO.none _)
      | (with_reducible refine LeO.ite ?_ ?_)
      | (with_reducible refine LeO.bind ?_ (fun _ => ?_))
      | exact ih0 _ _ _ _ _
      | exact ih1 _ _ _ _ _
      | exact LeO.none _
      | refine LeO.ite ?_ ?_
      | refine LeO.bind ?_ (fun _ => ?_)
theorem quarryref00_SameBits.mono : ∀ a0 a1 a2 a3 k, LeO (quarryref00_SameBits.f k a0 a1 a2 a3) (quarryref00_SameBits.f (k + 1) a0 a1 a2 a3) := by
  intro a0 a1 a2 a3 k
  obtain ⟨ih0, ih1⟩ := quarryref00_SameBits.mono_l k
  unfold quarryref00_SameBits.f
  repeat' first
      | (with_reducible exact ih0 _ _ _ _ _)
      | (with_reducible exact ih1 _ _ _ _ _)
      | (with_reducible exact LeO.refl _)
      | (with_reducible exact LeO.none _)
      | (with_reducible refine LeO.ite ?_ ?_)
      | (with_reducible refine LeO.bind ?_ (fun _ => ?_))
      | exact ih0 _ _ _ _ _
      | exact ih1 _ _ _ _ _
      | exact LeO.none _
      | refine LeO.ite ?_ ?_
      | refine LeO.bind ?_ (fun _ => ?_)
set_option maxHeartbeats 8000000 in
set_option maxRecDepth 100000 in
theorem quarryref00_SameBits.calls (k : Nat) (a0_0 : Int) (A0_1 : Option Addr) (c0_1 : Nat) (l0_1 : List Int) (a1_0 : Int) (A1_1 : Option Addr) (c1_1 : Nat) (l1_1 : List Int) (r : Bool) (w : World) (hr0_1 : Kd.C (Kd.int .u64) w A0_1 l0_1.length l0_1) (hc0_1 : l0_1.length ≤ c0_1) (hr1_1 : Kd.C (Kd.int .u64) w A1_1 l1_1.length l1_1) (hc1_1 : l1_1.length ≤ c1_1) (h : quarryref00_SameBits.f k a0_0 l0_1 a1_0 l1_1 = some r) :
    Calls Tryd.prog 8 #[.agg #[.int .i64 a0_0, .slice A0_1 l0_1.length c0_1], .agg #[.int .i64 a1_0, .slice A1_1 l1_1.length c1_1]] w fun e w' => e = .returned (.bool r) ∧ Below w.heap.size w w' := by
  have hu27 := Tryd.underlying27
  have HR0_1 := Aside0.mk hr0_1
  have HC0_1 := Aside0.mk hc0_1
  clear hr0_1 hc0_1
  have HR1_1 := Aside0.mk hr1_1
  have HC1_1 := Aside0.mk hc1_1
  clear hr1_1 hc1_1
  have HB := Aside0.mk (Below.refl w.heap.size w)
  have H : (if a0_0 = a1_0 then (quarryref00_SameBits.j0 k ((l0_1.length : Int) != (l1_1.length : Int)) a0_0 l0_1 a1_0 l1_1) else (quarryref00_SameBits.j0 k true a0_0 l0_1 a1_0 l1_1)) = some r := h
  clear h
  have HC3 := Aside0.mk H
  clear H
  go_enter Tryd.func8, Tryd.ntmps8
  go_upto_region 1 with (first | ((with_reducible refine gate_dst (N := 2) rfl ?_); (try (refine gate_guard (by rfl) ?_; dsimp only)); refine box_event ?hg (N := 2) ?hd (cs := #[.int .i64 a0_0, .slice A0_1 l0_1.length c0_1]) (t := 27) ?hr ?_; (case hd => rfl); (case hg => rfl); (case hr => first | (go_simp; done) | (go_simp; rfl)); intro gb134 hg w4 hbox hb; have n0_ := Aside0.mk (below_step (by repeat (first | (with_reducible first | exact HB.out | apply below_alloc | apply pw_below_drewN | apply below_drew1) | exact HB.out)) hb); have n1_ := Aside0.mk (hbox); have n2_ := Aside0.mk ((by rw [hg]; exact (below_size (by repeat (first | (with_reducible first | exact HB.out | apply below_alloc | apply pw_below_drewN | apply below_drew1) | exact HB.out))) : w.heap.size ≤ gb134)); have n3_ := Aside0.mk ((by rw [hg]; exact (below_size (by repeat (first | (with_reducible first | exact HB.out | apply below_alloc | apply pw_below_drewN | apply below_drew1) | exact HB.out))) : w.heap.size ≤ gb134)); clear HB; have HB := n0_; have BK134 := n1_; have GW134 := n2_; have GE134 := n3_; clear n0_ n1_ n2_ n3_; clear hb hbox hg) | ((with_reducible refine gate_dst (N := 3) rfl ?_); (try (refine gate_guard (by rfl) ?_; dsimp only)); refine box_event ?hg (N := 3) ?hd (cs := #[.int .i64 a1_0, .slice A1_1 l1_1.length c1_1]) (t := 27) ?hr ?_; (case hd => rfl); (case hg => rfl); (case hr => first | (go_simp; done) | (go_simp; rfl)); intro gb135 hg w5 hbox hb; have n0_ := Aside0.mk (blk_below (g := gb134) (o := .cells #[.int .i64 a0_0, .slice A0_1 l0_1.length c0_1] 27 (0, 0)) (by (with_reducible repeat (first | refine blk_drewN ?_ _ | refine blk_drew ?_ | refine blk_alloc ?_ _)); exact BK134.out) hb); have n1_ := Aside0.mk (below_step (by repeat (first | (with_reducible first | exact HB.out | apply below_alloc | apply pw_below_drewN | apply below_drew1 | refine below_set ?_ GE134.out) | exact HB.out)) hb); have n2_ := Aside0.mk (hbox); have n3_ := Aside0.mk ((by rw [hg]; exact (below_size (by repeat (first | (with_reducible first | exact HB.out | apply below_alloc | apply pw_below_drewN | apply below_drew1 | refine below_set ?_ GE134.out) | exact HB.out))) : w.heap.size ≤ gb135)); have n4_ := Aside0.mk ((by rw [hg]; exact (below_size (by repeat (first | (with_reducible first | exact HB.out | apply below_alloc | apply pw_below_drewN | apply below_drew1 | refine below_set ?_ GE134.out) | exact HB.out))) : w.heap.size ≤ gb135)); have n5_ := Aside0.mk ((by rw [hg]; exact Nat.ne_of_lt (blk_lt (g := gb134) (o := .cells #[.int .i64 a0_0, .slice A0_1 l0_1.length c0_1] 27 (0, 0)) (by (with_reducible repeat (first | refine blk_drewN ?_ _ | refine blk_drew ?_ | refine blk_alloc ?_ _)); exact BK134.out)) : gb134 ≠ gb135)); have n6_ := Aside0.mk ((by rw [hg]; exact Nat.ne_of_gt (blk_lt (g := gb134) (o := .cells #[.int .i64 a0_0, .slice A0_1 l0_1.length c0_1] 27 (0, 0)) (by (with_reducible repeat (first | refine blk_drewN ?_ _ | refine blk_drew ?_ | refine blk_alloc ?_ _)); exact BK134.out)) : gb135 ≠ gb134)); clear BK134; clear HB; have BK134 := n0_; have HB := n1_; have BK135 := n2_; have GW135 := n3_; have GE135 := n4_; have NB134_135 := n5_; have NB135_134 := n6_; clear n0_ n1_ n2_ n3_ n4_ n5_ n6_; clear hb hbox hg))
  repeat (go_quiet (first | ((with_reducible refine gate_dst (N := 2) rfl ?_); (try (refine gate_guard (by rfl) ?_; dsimp only)); refine box_event ?hg (N := 2) ?hd (cs := #[.int .i64 a0_0, .slice A0_1 l0_1.length c0_1]) (t := 27) ?hr ?_; (case hd => rfl); (case hg => rfl); (case hr => first | (go_simp; done) | (go_simp; rfl)); intro gb134 hg w4 hbox hb; have n0_ := Aside0.mk (below_step (by repeat (first | (with_reducible first | exact HB.out | apply below_alloc | apply pw_below_drewN | apply below_drew1) | exact HB.out)) hb); have n1_ := Aside0.mk (hbox); have n2_ := Aside0.mk ((by rw [hg]; exact (below_size (by repeat (first | (with_reducible first | exact HB.out | apply below_alloc | apply pw_below_drewN | apply below_drew1) | exact HB.out))) : w.heap.size ≤ gb134)); have n3_ := Aside0.mk ((by rw [hg]; exact (below_size (by repeat (first | (with_reducible first | exact HB.out | apply below_alloc | apply pw_below_drewN | apply below_drew1) | exact HB.out))) : w.heap.size ≤ gb134)); clear HB; have HB := n0_; have BK134 := n1_; have GW134 := n2_; have GE134 := n3_; clear n0_ n1_ n2_ n3_; clear hb hbox hg) | ((with_reducible refine gate_dst (N := 3) rfl ?_); (try (refine gate_guard (by rfl) ?_; dsimp only)); refine box_event ?hg (N := 3) ?hd (cs := #[.int .i64 a1_0, .slice A1_1 l1_1.length c1_1]) (t := 27) ?hr ?_; (case hd => rfl); (case hg => rfl); (case hr => first | (go_simp; done) | (go_simp; rfl)); intro gb135 hg w5 hbox hb; have n0_ := Aside0.mk (blk_below (g := gb134) (o := .cells #[.int .i64 a0_0, .slice A0_1 l0_1.length c0_1] 27 (0, 0)) (by (with_reducible repeat (first | refine blk_drewN ?_ _ | refine blk_drew ?_ | refine blk_alloc ?_ _)); exact BK134.out) hb); have n1_ := Aside0.mk (below_step (by repeat (first | (with_reducible first | exact HB.out | apply below_alloc | apply pw_below_drewN | apply below_drew1 | refine below_set ?_ GE134.out) | exact HB.out)) hb); have n2_ := Aside0.mk (hbox); have n3_ := Aside0.mk ((by rw [hg]; exact (below_size (by repeat (first | (with_reducible first | exact HB.out | apply below_alloc | apply pw_below_drewN | apply below_drew1 | refine below_set ?_ GE134.out) | exact HB.out))) : w.heap.size ≤ gb135)); have n4_ := Aside0.mk ((by rw [hg]; exact (below_size (by repeat (first | (with_reducible first | exact HB.out | apply below_alloc | apply pw_below_drewN | apply below_drew1 | refine below_set ?_ GE134.out) | exact HB.out))) : w.heap.size ≤ gb135)); have n5_ := Aside0.mk ((by rw [hg]; exact Nat.ne_of_lt (blk_lt (g := gb134) (o := .cells #[.int .i64 a0_0, .slice A0_1 l0_1.length c0_1] 27 (0, 0)) (by (with_reducible repeat (first | refine blk_drewN ?_ _ | refine blk_drew ?_ | refine blk_alloc ?_ _)); exact BK134.out)) : gb134 ≠ gb135)); have n6_ := Aside0.mk ((by rw [hg]; exact Nat.ne_of_gt (blk_lt (g := gb134) (o := .cells #[.int .i64 a0_0, .slice A0_1 l0_1.length c0_1] 27 (0, 0)) (by (with_reducible repeat (first | refine blk_drewN ?_ _ | refine blk_drew ?_ | refine blk_alloc ?_ _)); exact BK134.out)) : gb135 ≠ gb134)); clear BK134; clear HB; have BK134 := n0_; have HB := n1_; have BK135 := n2_; have GW135 := n3_; have GE135 := n4_; have NB134_135 := n5_; have NB135_134 := n6_; clear n0_ n1_ n2_ n3_ n4_ n5_ n6_; clear hb hbox hg)); go_upto_region 1 with (first | ((with_reducible refine gate_dst (N := 2) rfl ?_); (try (refine gate_guard (by rfl) ?_; dsimp only)); refine box_event ?hg (N := 2) ?hd (cs := #[.int .i64 a0_0, .slice A0_1 l0_1.length c0_1]) (t := 27) ?hr ?_; (case hd => rfl); (case hg => rfl); (case hr => first | (go_simp; done) | (go_simp; rfl)); intro gb134 hg w4 hbox hb; have n0_ := Aside0.mk (below_step (by repeat (first | (with_reducible first | exact HB.out | apply below_alloc | apply pw_below_drewN | apply below_drew1) | exact HB.out)) hb); have n1_ := Aside0.mk (hbox); have n2_ := Aside0.mk ((by rw [hg]; exact (below_size (by repeat (first | (with_reducible first | exact HB.out | apply below_alloc | apply pw_below_drewN | apply below_drew1) | exact HB.out))) : w.heap.size ≤ gb134)); have n3_ := Aside0.mk ((by rw [hg]; exact (below_size (by repeat (first | (with_reducible first | exact HB.out | apply below_alloc | apply pw_below_drewN | apply below_drew1) | exact HB.out))) : w.heap.size ≤ gb134)); clear HB; have HB := n0_; have BK134 := n1_; have GW134 := n2_; have GE134 := n3_; clear n0_ n1_ n2_ n3_; clear hb hbox hg) | ((with_reducible refine gate_dst (N := 3) rfl ?_); (try (refine gate_guard (by rfl) ?_; dsimp only)); refine box_event ?hg (N := 3) ?hd (cs := #[.int .i64 a1_0, .slice A1_1 l1_1.length c1_1]) (t := 27) ?hr ?_; (case hd => rfl); (case hg => rfl); (case hr => first | (go_simp; done) | (go_simp; rfl)); intro gb135 hg w5 hbox hb; have n0_ := Aside0.mk (blk_below (g := gb134) (o := .cells #[.int .i64 a0_0, .slice A0_1 l0_1.length c0_1] 27 (0, 0)) (by (with_reducible repeat (first | refine blk_drewN ?_ _ | refine blk_drew ?_ | refine blk_alloc ?_ _)); exact BK134.out) hb); have n1_ := Aside0.mk (below_step (by repeat (first | (with_reducible first | exact HB.out | apply below_alloc | apply pw_below_drewN | apply below_drew1 | refine below_set ?_ GE134.out) | exact HB.out)) hb); have n2_ := Aside0.mk (hbox); have n3_ := Aside0.mk ((by rw [hg]; exact (below_size (by repeat (first | (with_reducible first | exact HB.out | apply below_alloc | apply pw_below_drewN | apply below_drew1 | refine below_set ?_ GE134.out) | exact HB.out))) : w.heap.size ≤ gb135)); have n4_ := Aside0.mk ((by rw [hg]; exact (below_size (by repeat (first | (with_reducible first | exact HB.out | apply below_alloc | apply pw_below_drewN | apply below_drew1 | refine below_set ?_ GE134.out) | exact HB.out))) : w.heap.size ≤ gb135)); have n5_ := Aside0.mk ((by rw [hg]; exact Nat.ne_of_lt (blk_lt (g := gb134) (o := .cells #[.int .i64 a0_0, .slice A0_1 l0_1.length c0_1] 27 (0, 0)) (by (with_reducible repeat (first | refine blk_drewN ?_ _ | refine blk_drew ?_ | refine blk_alloc ?_ _)); exact BK134.out)) : gb134 ≠ gb135)); have n6_ := Aside0.mk ((by rw [hg]; exact Nat.ne_of_gt (blk_lt (g := gb134) (o := .cells #[.int .i64 a0_0, .slice A0_1 l0_1.length c0_1] 27 (0, 0)) (by (with_reducible repeat (first | refine blk_drewN ?_ _ | refine blk_drew ?_ | refine blk_alloc ?_ _)); exact BK134.out)) : gb135 ≠ gb134)); clear BK134; clear HB; have BK134 := n0_; have HB := n1_; have BK135 := n2_; have GW135 := n3_; have GE135 := n4_; have NB134_135 := n5_; have NB135_134 := n6_; clear n0_ n1_ n2_ n3_ n4_ n5_ n6_; clear hb hbox hg)))
  (try simp only [Act.put, List.setIfInBounds_toArray, List.set_cons_zero, List.set_cons_succ])
  go_cut [19] (fun v19 wc => ∃ (kq : Nat) (x19_2 : Bool), v19 = .bool x19_2 ∧ Aside0 (quarryref00_SameBits.j0 kq x19_2 a0_0 l0_1 a1_0 l1_1 = some r) ∧ Aside0 (kq ≤ k) ∧ Aside0 (wc.heap[gb134]? = some (.cells #[.int .i64 a0_0, (.slice A0_1 l0_1.length c0_1)] 27 (0, 0))) ∧ Aside0 (wc.heap[gb135]? = some (.cells #[.int .i64 a1_0, (.slice A1_1 l1_1.length c1_1)] 27 (0, 0))) ∧ Aside0 (Below w.heap.size w wc))
  case first =>
    have H := HC3.out
    clear HC3
    by_cases c6 : a0_0 = a1_0
    · rw [if_pos c6] at H
      have c6b0 : (a0_0 == a1_0) = true := beq_iff_eq.mpr c6
      have c6b1 : (a0_0 != a1_0) = false := bne_eq_false_iff_eq.mpr c6
      clear c6
      (first | rw [c6b0] | (simp only [i64_w, i32_w]; rw [c6b0]) | skip)
      have H' := Aside0.mk H
      clear H
      have hnb7 := NB134_135.out
      have hnc7 := NB135_134.out
      have hcz8_0 : w5.cell? ⟨gb134, 0, none⟩ = some (.int .i64 a0_0) := (blk_cell BK134.out 0).trans rfl
      have hcz8_1 : w5.cell? ⟨gb134, 1, none⟩ = some (.slice A0_1 l0_1.length c0_1) := (blk_cell BK134.out 1).trans rfl
      have hfz8_0 := blk_frozen BK134.out 0
      have hfz8_1 := blk_frozen BK134.out 1
      have hcz9_0 : w5.cell? ⟨gb135, 0, none⟩ = some (.int .i64 a1_0) := (blk_cell BK135.out 0).trans rfl
      have hcz9_1 : w5.cell? ⟨gb135, 1, none⟩ = some (.slice A1_1 l1_1.length c1_1) := (blk_cell BK135.out 1).trans rfl
      have hfz9_0 := blk_frozen BK135.out 0
      have hfz9_1 := blk_frozen BK135.out 1
      go_wp2
      repeat (go_quiet (fail); try go_wp2)
      go_meet
      case rel => exact ⟨_, (((l0_1.length : Int) != (l1_1.length : Int))), (by first | rfl | (simp; done) | (simp [*]; done)), H', ⟨by first | omega | exact Nat.le_refl _⟩, ⟨by (with_reducible repeat (first | refine blk_drewN ?_ _ | refine blk_drew ?_ | refine blk_alloc ?_ _)); exact BK134.out⟩, ⟨by (with_reducible repeat (first | refine blk_drewN ?_ _ | refine blk_drew ?_ | refine blk_alloc ?_ _)); exact BK135.out⟩, ⟨by repeat (first | (with_reducible first | exact HB.out | apply below_alloc | apply pw_below_drewN | apply below_drew1 | refine below_set ?_ GE134.out | refine below_set ?_ GE135.out) | exact HB.out)⟩⟩
    · rw [if_neg c6] at H
      have c6b0 : (a0_0 == a1_0) = false := beq_eq_false_iff_ne.mpr c6
      have c6b1 : (a0_0 != a1_0) = true := bne_iff_ne.mpr c6
      (first | rw [c6b0] | (simp only [i64_w, i32_w]; rw [c6b0]) | skip)
      have H' := Aside0.mk H
      clear H
      have hnb10 := NB134_135.out
      have hnc10 := NB135_134.out
      have hcz11_0 : w5.cell? ⟨gb134, 0, none⟩ = some (.int .i64 a0_0) := (blk_cell BK134.out 0).trans rfl
      have hcz11_1 : w5.cell? ⟨gb134, 1, none⟩ = some (.slice A0_1 l0_1.length c0_1) := (blk_cell BK134.out 1).trans rfl
      have hfz11_0 := blk_frozen BK134.out 0
      have hfz11_1 := blk_frozen BK134.out 1
      have hcz12_0 : w5.cell? ⟨gb135, 0, none⟩ = some (.int .i64 a1_0) := (blk_cell BK135.out 0).trans rfl
      have hcz12_1 : w5.cell? ⟨gb135, 1, none⟩ = some (.slice A1_1 l1_1.length c1_1) := (blk_cell BK135.out 1).trans rfl
      have hfz12_0 := blk_frozen BK135.out 0
      have hfz12_1 := blk_frozen BK135.out 1
      go_wp2
      repeat (go_quiet (fail); try go_wp2)
      go_meet
      case rel => exact ⟨_, (true), (by first | rfl | (simp; done) | (simp [*]; done)), H', ⟨by first | omega | exact Nat.le_refl _⟩, ⟨by (with_reducible repeat (first | refine blk_drewN ?_ _ | refine blk_drew ?_ | refine blk_alloc ?_ _)); exact BK134.out⟩, ⟨by (with_reducible repeat (first | refine blk_drewN ?_ _ | refine blk_drew ?_ | refine blk_alloc ?_ _)); exact BK135.out⟩, ⟨by repeat (first | (with_reducible first | exact HB.out | apply below_alloc | apply pw_below_drewN | apply below_drew1 | refine below_set ?_ GE134.out | refine below_set ?_ GE135.out) | exact HB.out)⟩⟩
  case rest =>
    clear HC3
    try clear c1
    try clear p2
    try clear c6
    try clear c6b0
    try clear c6b1
    try clear c7
    try clear c8
    try clear c10
    try clear hcz11_0
    try clear hcz11_1
    try clear hcz12_0
    try clear hcz12_1
    try clear hcz8_0
    try clear hcz8_1
    try clear hcz9_0
    try clear hcz9_1
    try clear hfz11_0
    try clear hfz11_1
    try clear hfz12_0
    try clear hfz12_1
    try clear hfz8_0
    try clear hfz8_1
    try clear hfz9_0
    try clear hfz9_1
    obtain ⟨kq, x19_2, rfl, HA, HJ2, BK134, BK135, HB⟩ := hcut
    cases kq with
    | zero => exact absurd HA.out (by simp [quarryref00_SameBits.j0])
    | succ kj2 =>
      have H := HA.out
      clear HA
      simp only [quarryref00_SameBits.j0] at H
      by_cases c13 : x19_2 = true
      · subst c13
        have H1 : (some false) = some r := by rw [if_pos rfl] at H; exact H
        clear H
        have H := H1
        clear H1
        obtain rfl := Option.some.inj H
        go_wp2
        repeat (go_quiet (fail); try go_wp2)
        go_ret
        exact ⟨by first | rfl | (simp [errW_none, errW_some] <;> rfl) | (simp [*, errW_none, errW_some] <;> rfl), by repeat (first | (with_reducible first | exact HB.out | apply below_alloc | apply pw_below_drewN | apply below_drew1 | refine below_set ?_ GE134.out | refine below_set ?_ GE135.out) | exact HB.out)⟩
      · replace c13 := Bool.eq_false_iff.mpr c13
        subst c13
        have H1 : (quarryref00_SameBits.l0 kj2 0 a0_0 l0_1 a1_0 l1_1) = some r := by rw [if_neg (show ¬ (false = true) by decide)] at H; exact H
        clear H
        have H := H1
        clear H1
        have H' := Aside0.mk H
        clear H
        go_wp2
        repeat (go_quiet (fail); try go_wp2)
        go_loopg [5] kj2 (fun kq v5 w' => ∃ (x5_2 : Int), v5 = .int .i64 x5_2 ∧ Aside0 (quarryref00_SameBits.l0 kq x5_2 a0_0 l0_1 a1_0 l1_1 = some r) ∧ Aside0 (kq ≤ kj2) ∧ Aside0 (w'.heap[gb134]? = some (.cells #[.int .i64 a0_0, (.slice A0_1 l0_1.length c0_1)] 27 (0, 0))) ∧ Aside0 (w'.heap[gb135]? = some (.cells #[.int .i64 a1_0, (.slice A1_1 l1_1.length c1_1)] 27 (0, 0))) ∧ Aside0 (Below w.heap.size w w'))
        case atStart => exact ⟨(0), (by first | rfl | (simp; done) | (simp [*]; done)), H', ⟨Nat.le_refl _⟩, ⟨by (with_reducible repeat (first | refine blk_drewN ?_ _ | refine blk_drew ?_ | refine blk_alloc ?_ _)); exact BK134.out⟩, ⟨by (with_reducible repeat (first | refine blk_drewN ?_ _ | refine blk_drew ?_ | refine blk_alloc ?_ _)); exact BK135.out⟩, ⟨by repeat (first | (with_reducible first | exact HB.out | apply below_alloc | apply pw_below_drewN | apply below_drew1 | refine below_set ?_ GE134.out | refine below_set ?_ GE135.out) | exact HB.out)⟩⟩
        case round =>
          clear H'
          try clear c1
          try clear p2
          try clear c6
          try clear c6b0
          try clear c6b1
          try clear c7
          try clear c8
          try clear c10
          try clear c13
          try clear hcz11_0
          try clear hcz11_1
          try clear hcz12_0
          try clear hcz12_1
          try clear hcz8_0
          try clear hcz8_1
          try clear hcz9_0
          try clear hcz9_1
          try clear hfz11_0
          try clear hfz11_1
          try clear hfz12_0
          try clear hfz12_1
          try clear hfz8_0
          try clear hfz8_1
          try clear hfz9_0
          try clear hfz9_1
          try clear p2
          obtain ⟨x5_2, rfl, HA, HK2, BK134, BK135, HB⟩ := hrel
          cases gk with
          | zero => exact absurd HA.out (by simp [quarryref00_SameBits.l0])
          | succ k2 =>
            have H := HA.out
            clear HA
            simp only [quarryref00_SameBits.l0] at H
            by_cases c14 : x5_2 < (l0_1.length : Int)
            · rw [if_pos c14] at H
              have c14b0 : decide (x5_2 < (l0_1.length : Int)) = true := decide_eq_true c14
              clear c14
              by_cases c15 : 0 ≤ x5_2
              · rw [if_pos c15] at H
                have c15b0 : decide (0 ≤ x5_2) = true := decide_eq_true c15
                clear c15
                by_cases c16 : x5_2 < (l1_1.length : Int)
                · rw [if_pos c16] at H
                  have c16b0 : decide (x5_2 < (l1_1.length : Int)) = true := decide_eq_true c16
                  clear c16
                  by_cases c17 : (rd l0_1 x5_2) = (rd l1_1 x5_2)
                  · rw [if_pos c17] at H
                    have c17b0 : ((rd l0_1 x5_2) == (rd l1_1 x5_2)) = true := beq_iff_eq.mpr c17
                    have c17b1 : ((rd l0_1 x5_2) != (rd l1_1 x5_2)) = false := bne_eq_false_iff_eq.mpr c17
                    clear c17
                    have H' := Aside0.mk H
                    clear H
                    have hnb18 := NB134_135.out
                    have hnc18 := NB135_134.out
                    have hcz19_0 : wr.cell? ⟨gb134, 0, none⟩ = some (.int .i64 a0_0) := (blk_cell BK134.out 0).trans rfl
                    have hcz19_1 : wr.cell? ⟨gb134, 1, none⟩ = some (.slice A0_1 l0_1.length c0_1) := (blk_cell BK134.out 1).trans rfl
                    have hfz19_0 := blk_frozen BK134.out 0
                    have hfz19_1 := blk_frozen BK134.out 1
                    have p136 : 0 ≤ (x5_2 : Int) := of_decide_eq_true (by first | (with_reducible assumption) | assumption)
                    have q136 : x5_2 < (l0_1.length : Int) := of_decide_eq_true (by first | (with_reducible assumption) | assumption)
                    obtain ⟨ad136, e136, hx136_0⟩ := Kd.at_int HR0_1.out x5_2 p136 q136
                    cases e136
                    replace hx136_0 := (HB.out.cell (World.block_lt_of_cell? w _ hx136_0)).trans hx136_0
                    replace p136 := eq_true p136
                    replace q136 := eq_true q136
                    have hcz20_0 : wr.cell? ⟨gb135, 0, none⟩ = some (.int .i64 a1_0) := (blk_cell BK135.out 0).trans rfl
                    have hcz20_1 : wr.cell? ⟨gb135, 1, none⟩ = some (.slice A1_1 l1_1.length c1_1) := (blk_cell BK135.out 1).trans rfl
                    have hfz20_0 := blk_frozen BK135.out 0
                    have hfz20_1 := blk_frozen BK135.out 1
                    have p137 : 0 ≤ (x5_2 : Int) := of_decide_eq_true (by first | (with_reducible assumption) | assumption)
                    have q137 : x5_2 < (l1_1.length : Int) := of_decide_eq_true (by first | (with_reducible assumption) | assumption)
                    obtain ⟨ad137, e137, hx137_0⟩ := Kd.at_int HR1_1.out x5_2 p137 q137
                    cases e137
                    replace hx137_0 := (HB.out.cell (World.block_lt_of_cell? w _ hx137_0)).trans hx137_0
                    replace p137 := eq_true p137
                    replace q137 := eq_true q137
                    go_wp2
                    repeat (go_quiet (fail); try go_wp2)
                    go_roundg k2
                    case measure => have := HJ2.out; have := HK2.out; omega
                    case rel => exact ⟨(wrap64 (x5_2 + 1)), (by first | rfl | (simp; done) | (simp [*]; done)), H', ⟨by have := HJ2.out; have := HK2.out; omega⟩, ⟨by (with_reducible repeat (first | refine blk_drewN ?_ _ | refine blk_drew ?_ | refine blk_alloc ?_ _)); exact BK134.out⟩, ⟨by (with_reducible repeat (first | refine blk_drewN ?_ _ | refine blk_drew ?_ | refine blk_alloc ?_ _)); exact BK135.out⟩, ⟨by repeat (first | (with_reducible first | exact HB.out | apply below_alloc | apply pw_below_drewN | apply below_drew1 | refine below_set ?_ GE134.out | refine below_set ?_ GE135.out) | exact HB.out)⟩⟩
                  · rw [if_neg c17] at H
                    have c17b0 : ((rd l0_1 x5_2) == (rd l1_1 x5_2)) = false := beq_eq_false_iff_ne.mpr c17
                    have c17b1 : ((rd l0_1 x5_2) != (rd l1_1 x5_2)) = true := bne_iff_ne.mpr c17
                    obtain rfl := Option.some.inj H
                    have hnb21 := NB134_135.out
                    have hnc21 := NB135_134.out
                    have hcz22_0 : wr.cell? ⟨gb134, 0, none⟩ = some (.int .i64 a0_0) := (blk_cell BK134.out 0).trans rfl
                    have hcz22_1 : wr.cell? ⟨gb134, 1, none⟩ = some (.slice A0_1 l0_1.length c0_1) := (blk_cell BK134.out 1).trans rfl
                    have hfz22_0 := blk_frozen BK134.out 0
                    have hfz22_1 := blk_frozen BK134.out 1
                    have p136 : 0 ≤ (x5_2 : Int) := of_decide_eq_true (by first | (with_reducible assumption) | assumption)
                    have q136 : x5_2 < (l0_1.length : Int) := of_decide_eq_true (by first | (with_reducible assumption) | assumption)
                    obtain ⟨ad136, e136, hx136_0⟩ := Kd.at_int HR0_1.out x5_2 p136 q136
                    cases e136
                    replace hx136_0 := (HB.out.cell (World.block_lt_of_cell? w _ hx136_0)).trans hx136_0
                    replace p136 := eq_true p136
                    replace q136 := eq_true q136
                    have hcz23_0 : wr.cell? ⟨gb135, 0, none⟩ = some (.int .i64 a1_0) := (blk_cell BK135.out 0).trans rfl
                    have hcz23_1 : wr.cell? ⟨gb135, 1, none⟩ = some (.slice A1_1 l1_1.length c1_1) := (blk_cell BK135.out 1).trans rfl
                    have hfz23_0 := blk_frozen BK135.out 0
                    have hfz23_1 := blk_frozen BK135.out 1
                    have p137 : 0 ≤ (x5_2 : Int) := of_decide_eq_true (by first | (with_reducible assumption) | assumption)
                    have q137 : x5_2 < (l1_1.length : Int) := of_decide_eq_true (by first | (with_reducible assumption) | assumption)
                    obtain ⟨ad137, e137, hx137_0⟩ := Kd.at_int HR1_1.out x5_2 p137 q137
                    cases e137
                    replace hx137_0 := (HB.out.cell (World.block_lt_of_cell? w _ hx137_0)).trans hx137_0
                    replace p137 := eq_true p137
                    replace q137 := eq_true q137
                    go_wp2
                    repeat (go_quiet (fail); try go_wp2)
                    go_ret
                    exact ⟨by first | rfl | (simp [errW_none, errW_some] <;> rfl) | (simp [*, errW_none, errW_some] <;> rfl), by repeat (first | (with_reducible first | exact HB.out | apply below_alloc | apply pw_below_drewN | apply below_drew1 | refine below_set ?_ GE134.out | refine below_set ?_ GE135.out) | exact HB.out)⟩
                · rw [if_neg c16] at H
                  exact absurd H (by simp)
              · rw [if_neg c15] at H
                exact absurd H (by simp)
            · rw [if_neg c14] at H
              have c14b0 : decide (x5_2 < (l0_1.length : Int)) = false := decide_eq_false c14
              clear c14
              obtain rfl := Option.some.inj H
              have hnb24 := NB134_135.out
              have hnc24 := NB135_134.out
              have hcz25_0 : wr.cell? ⟨gb134, 0, none⟩ = some (.int .i64 a0_0) := (blk_cell BK134.out 0).trans rfl
              have hcz25_1 : wr.cell? ⟨gb134, 1, none⟩ = some (.slice A0_1 l0_1.length c0_1) := (blk_cell BK134.out 1).trans rfl
              have hfz25_0 := blk_frozen BK134.out 0
              have hfz25_1 := blk_frozen BK134.out 1
              go_wp2
              repeat (go_quiet (fail); try go_wp2)
              go_ret
              exact ⟨by first | rfl | (simp [errW_none, errW_some] <;> rfl) | (simp [*, errW_none, errW_some] <;> rfl), by repeat (first | (with_reducible first | exact HB.out | apply below_alloc | apply pw_below_drewN | apply below_drew1 | refine below_set ?_ GE134.out | refine below_set ?_ GE135.out) | exact HB.out)⟩

/-! ### quarryref00_CopyInts: function 9 -/
def quarryref00_CopyInts.l0 : Nat → List Int → List Int → Int → Option (List Int)
  | 0, _, _, _ => none
  | k + 1, x0, x3, x4 => if x4 < (x0.length : Int) then (if 0 ≤ x4 then (if x3.length < 17592186044416 then (quarryref00_CopyInts.l0 k x0 (x3 ++ [rd x0 x4]) (wrap64 (x4 + 1))) else (none)) else (none)) else (some x3)
def quarryref00_CopyInts.f (k : Nat) (l0 : List Int) : Option (List Int) := quarryref00_CopyInts.l0 k l0 ([] : List Int) 0
theorem quarryref00_CopyInts.mono_l : ∀ k, (∀ y0 y1 y2, LeO (quarryref00_CopyInts.l0 k y0 y1 y2) (quarryref00_CopyInts.l0 (k + 1) y0 y1 y2))
  | 0 => fun _ _ _ r h => by simp [quarryref00_CopyInts.l0] at h
  | k + 1 => by
    have ih0 := quarryref00_CopyInts.mono_l k
    · intro y0 y1 y2
      unfold quarryref00_CopyInts.l0
      repeat' first
      | (with_reducible exact ih0 _ _ _)
      | (with_reducible exact LeO.refl _)
      | (with_reducible exact LeO.none _)
      | (with_reducible refine LeO.ite ?_ ?_)
      | (with_reducible refine LeO.bind ?_ (fun _ => ?_))
      | exact ih0 _ _ _
      | exact LeO.none _
      | refine LeO.ite ?_ ?_
      | refine LeO.bind ?_ (fun _ => ?_)
theorem quarryref00_CopyInts.mono : ∀ a0 k, LeO (quarryref00_CopyInts.f k a0) (quarryref00_CopyInts.f (k + 1) a0) := by
  intro a0 k
  have ih0 := quarryref00_CopyInts.mono_l k
  unfold quarryref00_CopyInts.f
  repeat' first
      | (with_reducible exact ih0 _ _ _)
      | (with_reducible exact LeO.refl _)
      | (with_reducible exact LeO.none _)
      | (with_reducible refine LeO.ite ?_ ?_)
      | (with_reducible refine LeO.bind ?_ (fun _ => ?_))
      | exact ih0 _ _ _
      | exact LeO.none _
      | refine LeO.ite ?_ ?_
      | refine LeO.bind ?_ (fun _ => ?_)
set_option maxHeartbeats 8000000 in
set_option maxRecDepth 100000 in
theorem quarryref00_CopyInts.calls (k : Nat) (A0 : Option Addr) (c0 : Nat) (l0 : List Int) (r : List Int) (w : World) (hr0 : Kd.C (Kd.int .i64) w A0 l0.length l0) (hc0 : l0.length ≤ c0) (h : quarryref00_CopyInts.f k l0 = some r) :
    Calls Tryd.prog 9 #[.slice A0 l0.length c0] w fun e w' => ∃ v0_ : Value, e = .returned (v0_) ∧ Kd.R (Kd.int .i64) 3 w' w.heap.size (fun _ => True) v0_ r ∧ Below w.heap.size w w' := by
  have HR0 := Aside0.mk hr0
  have HC0 := Aside0.mk hc0
  clear hr0 hc0
  have HB := Aside0.mk (Below.refl w.heap.size w)
  have H : (quarryref00_CopyInts.l0 k l0 ([] : List Int) 0) = some r := h
  clear h
  have H' := Aside0.mk H
  clear H
  go_enter Tryd.func9, Tryd.ntmps9
  go_wp2
  go_loopg [3, 4] k (fun kq v3 v4 w' => ∃ (x3_1 : List Int) (x4_1 : Int), v4 = .int .i64 x4_1 ∧ Aside0 (quarryref00_CopyInts.l0 kq l0 x3_1 x4_1 = some r) ∧ Aside0 (kq ≤ k) ∧ Aside0 (Kd.R (Kd.int .i64) 3 w' w.heap.size (fun _ => True) v3 x3_1) ∧ Aside0 (Below w.heap.size w w'))
  case atStart => exact ⟨(([] : List Int)), (0), (by first | rfl | (simp; done) | (simp [*]; done)), H', ⟨Nat.le_refl _⟩, ⟨by first | exact Kd.R_nil _ _ _ _ _ | exact Kd.N_nil _ _ _ _ _ | exact Kd.V_nil _ _ _ _ _ | exact Kd.Q_nil _ _ _ _ _ | exact Kd.S_nil _ _ _ _ _⟩, ⟨by repeat (first | (with_reducible first | exact HB.out | apply below_alloc | apply pw_below_drewN | apply below_drew1) | exact HB.out)⟩⟩
  case round =>
    clear H'
    obtain ⟨x3_1, x4_1, rfl, HA, HK1, HO_3, HB⟩ := hrel
    cases gk with
    | zero => exact absurd HA.out (by simp [quarryref00_CopyInts.l0])
    | succ k1 =>
      have H := HA.out
      clear HA
      simp only [quarryref00_CopyInts.l0] at H
      by_cases c2 : x4_1 < (l0.length : Int)
      · rw [if_pos c2] at H
        have c2b0 : decide (x4_1 < (l0.length : Int)) = true := decide_eq_true c2
        clear c2
        by_cases c3 : 0 ≤ x4_1
        · rw [if_pos c3] at H
          have c3b0 : decide (0 ≤ x4_1) = true := decide_eq_true c3
          clear c3
          by_cases c4 : x3_1.length < 17592186044416
          · rw [if_pos c4] at H
            have LMc4 := Aside0.mk c4
            clear c4
            obtain ⟨y139, hy139⟩ : ∃ y_ : List Int, y_ = (x3_1 ++ [rd l0 x4_1]) := ⟨_, rfl⟩
            replace H : (quarryref00_CopyInts.l0 k1 l0 y139 (wrap64 (x4_1 + 1))) = some r := by first | (rw [hy139]; with_reducible exact H) | (have H2_ := (Option.bind_some _ _).symm.trans H; rw [hy139]; with_reducible exact H2_) | (have H2_ := (Option.bind_some _ _).symm.trans H; with_reducible exact H2_) | with_reducible exact H | (rw [hy139]; exact H) | exact H
            have Ny139 := Aside0.mk hy139
            clear hy139
            have H' := Aside0.mk H
            clear H
            have p138 : 0 ≤ (x4_1 : Int) := of_decide_eq_true (by first | (with_reducible assumption) | assumption)
            have q138 : x4_1 < (l0.length : Int) := of_decide_eq_true (by first | (with_reducible assumption) | assumption)
            obtain ⟨ad138, e138, hx138_0⟩ := Kd.at_int HR0.out x4_1 p138 q138
            cases e138
            replace hx138_0 := (HB.out.cell (World.block_lt_of_cell? w _ hx138_0)).trans hx138_0
            replace p138 := eq_true p138
            replace q138 := eq_true q138
            go_wp2_with (first | ((with_reducible refine gate_builtin (b := .append) (xs := #[.tmp 11, .tmp 16]) rfl ?_); at_builtin; refine Kd.R_append (Kd.int .i64) (w0 := w) w.heap.size rfl (.tmp 11) (.tmp 16) 23 3 (.int .i64 0) 8 rfl Tryd.underlying23 info3 rfl (by decide) (by omega) u3 x3_1 (rd l0 x4_1) [.int .i64 (rd l0 x4_1)] (fun _ => True) (fun _ => False) rfl rfl ?aP (fun _ hk => hk.elim) ?aF ?aO ?aB ?aS ?aL ?_; (case aP => exact rfl); (case aB => exact (by repeat (first | (with_reducible first | exact HB.out | apply below_alloc | apply pw_below_drewN | apply below_drew1) | exact HB.out))); (case aF => exact (fun _ _ => trivial)); (case aO => exact (by (with_reducible repeat (first | apply Kd.R_alloc | apply Kd.R_drewN | apply Kd.R_drew)); exact HO_3.out)); (case aS => exact (below_size (by repeat (first | (with_reducible first | exact HB.out | apply below_alloc | apply pw_below_drewN | apply below_drew1) | exact HB.out)))); (case aL => have := LMc4.out; omega); intro v140 w5 ho hb hg hat; rw [← Ny139.out] at ho; have n0_ := Aside0.mk (hb); have n1_ := Aside0.mk (ho); clear HB; clear HO_3; have HB := n0_; have HO141 := n1_; clear n0_ n1_; clear ho hb hg hat))
            go_roundg k1
            case measure => have := HK1.out; omega
            case rel => exact ⟨(y139), (wrap64 (x4_1 + 1)), (by first | rfl | (simp; done) | (simp [*]; done)), H', ⟨by have := HK1.out; omega⟩, ⟨by (with_reducible repeat (first | apply Kd.R_alloc | apply Kd.R_drewN | apply Kd.R_drew)); exact HO141.out⟩, ⟨by repeat (first | (with_reducible first | exact HB.out | apply below_alloc | apply pw_below_drewN | apply below_drew1) | exact HB.out)⟩⟩
          · rw [if_neg c4] at H
            exact absurd H (by simp)
        · rw [if_neg c3] at H
          exact absurd H (by simp)
      · rw [if_neg c2] at H
        have c2b0 : decide (x4_1 < (l0.length : Int)) = false := decide_eq_false c2
        clear c2
        obtain rfl := Option.some.inj H
        go_wp2
        go_ret
        exact ⟨_, by first | rfl | (simp [errW_none, errW_some] <;> rfl) | (simp [*, errW_none, errW_some] <;> rfl), by (with_reducible repeat (first | apply Kd.R_alloc | apply Kd.R_drewN | apply Kd.R_drew)); exact HO_3.out, by repeat (first | (with_reducible first | exact HB.out | apply below_alloc | apply pw_below_drewN | apply below_drew1) | exact HB.out)⟩

/-! ### quarryref00_CopyBits: function 10 -/
def quarryref00_CopyBits.l0 : Nat → List Int → Int → Int → List Int → Option (Int × List Int)
  | 0, _, _, _, _ => none
  | k + 1, x3, x4, x143000, x143001 => if x4 < (x143001.length : Int) then (if 0 ≤ x4 then (if x3.length < 17592186044416 then (quarryref00_CopyBits.l0 k (x3 ++ [rd x143001 x4]) (wrap64 (x4 + 1)) x143000 x143001) else (none)) else (none)) else (some (x143000, x3))
def quarryref00_CopyBits.f (k : Nat) (a0_0 : Int) (l0_1 : List Int) : Option (Int × List Int) := quarryref00_CopyBits.l0 k ([] : List Int) 0 a0_0 l0_1
theorem quarryref00_CopyBits.mono_l : ∀ k, (∀ y0 y1 y2 y3, LeO (quarryref00_CopyBits.l0 k y0 y1 y2 y3) (quarryref00_CopyBits.l0 (k + 1) y0 y1 y2 y3))
  | 0 => fun _ _ _ _ r h => by simp [quarryref00_CopyBits.l0] at h
  | k + 1 => by
    have ih0 := quarryref00_CopyBits.mono_l k
    · intro y0 y1 y2 y3
      unfold quarryref00_CopyBits.l0
      repeat' first
      | (with_reducible exact ih0 _ _ _ _)
      | (with_reducible exact LeO.refl _)
      | (with_reducible exact LeO.none _)
      | (with_reducible refine LeO.ite ?_ ?_)
      | (with_reducible refine LeO.bind ?_ (fun _ => ?_))
      | exact ih0 _ _ _ _
      | exact LeO.none _
      | refine LeO.ite ?_ ?_
      | refine LeO.bind ?_ (fun _ => ?_)
theorem quarryref00_CopyBits.mono : ∀ a0 a1 k, LeO (quarryref00_CopyBits.f k a0 a1) (quarryref00_CopyBits.f (k + 1) a0 a1) := by
  intro a0 a1 k
  have ih0 := quarryref00_CopyBits.mono_l k
  unfold quarryref00_CopyBits.f
  repeat' first
      | (with_reducible exact ih0 _ _ _ _)
      | (with_reducible exact LeO.refl _)
      | (with_reducible exact LeO.none _)
      | (with_reducible refine LeO.ite ?_ ?_)
      | (with_reducible refine LeO.bind ?_ (fun _ => ?_))
      | exact ih0 _ _ _ _
      | exact LeO.none _
      | refine LeO.ite ?_ ?_
      | refine LeO.bind ?_ (fun _ => ?_)
set_option maxHeartbeats 8000000 in
set_option maxRecDepth 100000 in
theorem quarryref00_CopyBits.calls (k : Nat) (a0_0 : Int) (A0_1 : Option Addr) (c0_1 : Nat) (l0_1 : List Int) (r1 : Int) (r2 : List Int) (w : World) (hr0_1 : Kd.C (Kd.int .u64) w A0_1 l0_1.length l0_1) (hc0_1 : l0_1.length ≤ c0_1) (h : quarryref00_CopyBits.f k a0_0 l0_1 = some (r1, r2)) :
    Calls Tryd.prog 10 #[.agg #[.int .i64 a0_0, .slice A0_1 l0_1.length c0_1]] w fun e w' => ∃ v1_ : Value, e = .returned (.agg #[.int .i64 r1, v1_]) ∧ Kd.R (Kd.int .u64) 41 w' w.heap.size (fun _ => True) v1_ r2 ∧ Below w.heap.size w w' := by
  have hu27 := Tryd.underlying27
  have HR0_1 := Aside0.mk hr0_1
  have HC0_1 := Aside0.mk hc0_1
  clear hr0_1 hc0_1
  have HB := Aside0.mk (Below.refl w.heap.size w)
  have H : (quarryref00_CopyBits.l0 k ([] : List Int) 0 a0_0 l0_1) = some (r1, r2) := h
  clear h
  have H' := Aside0.mk H
  clear H
  go_enter Tryd.func10, Tryd.ntmps10
  go_wp2_with (first | ((with_reducible refine gate_dst (N := 1) rfl ?_); refine box_event ?hg (N := 1) ?hd (cs := #[.int .i64 a0_0, .slice A0_1 l0_1.length c0_1]) (t := 27) ?hr ?_; (case hd => rfl); (case hg => rfl); (case hr => first | (go_simp; done) | (go_simp; rfl)); intro gb142 hg w2 hbox hb; have n0_ := Aside0.mk (below_step (by repeat (first | (with_reducible first | exact HB.out | apply below_alloc | apply pw_below_drewN | apply below_drew1) | exact HB.out)) hb); have n1_ := Aside0.mk (hbox); have n2_ := Aside0.mk ((by rw [hg]; exact (below_size (by repeat (first | (with_reducible first | exact HB.out | apply below_alloc | apply pw_below_drewN | apply below_drew1) | exact HB.out))) : w.heap.size ≤ gb142)); have n3_ := Aside0.mk ((by rw [hg]; exact (below_size (by repeat (first | (with_reducible first | exact HB.out | apply below_alloc | apply pw_below_drewN | apply below_drew1) | exact HB.out))) : w.heap.size ≤ gb142)); clear HB; have HB := n0_; have BK142 := n1_; have GW142 := n2_; have GE142 := n3_; clear n0_ n1_ n2_ n3_; clear hb hbox hg) | ((with_reducible refine gate_dst (N := 2) rfl ?_); refine box_event ?hg (N := 2) ?hd (cs := #[.int .i64 0, .slice none 0 0]) (t := 27) ?hr ?_; (case hd => rfl); (case hg => rfl); (case hr => first | (go_simp; done) | (go_simp; rfl)); intro gb143 hg w3 hbox hb; have n0_ := Aside0.mk (blk_below (g := gb142) (o := .cells #[.int .i64 a0_0, .slice A0_1 l0_1.length c0_1] 27 (0, 0)) (by (with_reducible repeat (first | refine blk_drewN ?_ _ | refine blk_drew ?_ | refine blk_alloc ?_ _)); exact BK142.out) hb); have n1_ := Aside0.mk (below_step (by repeat (first | (with_reducible first | exact HB.out | apply below_alloc | apply pw_below_drewN | apply below_drew1 | refine below_set ?_ GE142.out) | exact HB.out)) hb); have n2_ := Aside0.mk (hbox); have n3_ := Aside0.mk ((by rw [hg]; exact (below_size (by repeat (first | (with_reducible first | exact HB.out | apply below_alloc | apply pw_below_drewN | apply below_drew1 | refine below_set ?_ GE142.out) | exact HB.out))) : w.heap.size ≤ gb143)); have n4_ := Aside0.mk ((by rw [hg]; exact (below_size (by repeat (first | (with_reducible first | exact HB.out | apply below_alloc | apply pw_below_drewN | apply below_drew1 | refine below_set ?_ GE142.out) | exact HB.out))) : w.heap.size ≤ gb143)); have n5_ := Aside0.mk ((by rw [hg]; exact Nat.ne_of_lt (blk_lt (g := gb142) (o := .cells #[.int .i64 a0_0, .slice A0_1 l0_1.length c0_1] 27 (0, 0)) (by (with_reducible repeat (first | refine blk_drewN ?_ _ | refine blk_drew ?_ | refine blk_alloc ?_ _)); exact BK142.out)) : gb142 ≠ gb143)); have n6_ := Aside0.mk ((by rw [hg]; exact Nat.ne_of_gt (blk_lt (g := gb142) (o := .cells #[.int .i64 a0_0, .slice A0_1 l0_1.length c0_1] 27 (0, 0)) (by (with_reducible repeat (first | refine blk_drewN ?_ _ | refine blk_drew ?_ | refine blk_alloc ?_ _)); exact BK142.out)) : gb143 ≠ gb142)); clear BK142; clear HB; have BK142 := n0_; have HB := n1_; have BK143 := n2_; have GW143 := n3_; have GE143 := n4_; have NB142_143 := n5_; have NB143_142 := n6_; clear n0_ n1_ n2_ n3_ n4_ n5_ n6_; clear hb hbox hg))
  go_loopg [3, 4] k (fun kq v3 v4 w' => ∃ (x3_1 : List Int) (x4_1 : Int), v4 = .int .i64 x4_1 ∧ Aside0 (quarryref00_CopyBits.l0 kq x3_1 x4_1 a0_0 l0_1 = some (r1, r2)) ∧ Aside0 (kq ≤ k) ∧ Aside0 (Kd.R (Kd.int .u64) 41 w' w.heap.size (fun _ => True) v3 x3_1) ∧ Aside0 (w'.heap[gb142]? = some (.cells #[.int .i64 a0_0, (.slice A0_1 l0_1.length c0_1)] 27 (0, 0))) ∧ Aside0 (w'.heap[gb143]? = some (.cells #[.int .i64 0, (.slice none 0 0)] 27 (0, 0))) ∧ Aside0 (Below w.heap.size w w'))
  case atStart => exact ⟨(([] : List Int)), (0), (by first | rfl | (simp; done) | (simp [*]; done)), H', ⟨Nat.le_refl _⟩, ⟨by first | exact Kd.R_nil _ _ _ _ _ | exact Kd.N_nil _ _ _ _ _ | exact Kd.V_nil _ _ _ _ _ | exact Kd.Q_nil _ _ _ _ _ | exact Kd.S_nil _ _ _ _ _⟩, ⟨by (with_reducible repeat (first | refine blk_drewN ?_ _ | refine blk_drew ?_ | refine blk_alloc ?_ _)); exact BK142.out⟩, ⟨by (with_reducible repeat (first | refine blk_drewN ?_ _ | refine blk_drew ?_ | refine blk_alloc ?_ _)); exact BK143.out⟩, ⟨by repeat (first | (with_reducible first | exact HB.out | apply below_alloc | apply pw_below_drewN | apply below_drew1 | refine below_set ?_ GE142.out | refine below_set ?_ GE143.out) | exact HB.out)⟩⟩
  case round =>
    clear H'
    try clear c1
    try clear p2
    obtain ⟨x3_1, x4_1, rfl, HA, HK1, HO_3, BK142, BK143, HB⟩ := hrel
    cases gk with
    | zero => exact absurd HA.out (by simp [quarryref00_CopyBits.l0])
    | succ k1 =>
      have H := HA.out
      clear HA
      simp only [quarryref00_CopyBits.l0] at H
      by_cases c4 : x4_1 < (l0_1.length : Int)
      · rw [if_pos c4] at H
        have c4b0 : decide (x4_1 < (l0_1.length : Int)) = true := decide_eq_true c4
        clear c4
        by_cases c5 : 0 ≤ x4_1
        · rw [if_pos c5] at H
          have c5b0 : decide (0 ≤ x4_1) = true := decide_eq_true c5
          clear c5
          by_cases c6 : x3_1.length < 17592186044416
          · rw [if_pos c6] at H
            have LMc6 := Aside0.mk c6
            clear c6
            obtain ⟨y145, hy145⟩ : ∃ y_ : List Int, y_ = (x3_1 ++ [rd l0_1 x4_1]) := ⟨_, rfl⟩
            replace H : (quarryref00_CopyBits.l0 k1 y145 (wrap64 (x4_1 + 1)) a0_0 l0_1) = some (r1, r2) := by first | (rw [hy145]; with_reducible exact H) | (have H2_ := (Option.bind_some _ _).symm.trans H; rw [hy145]; with_reducible exact H2_) | (have H2_ := (Option.bind_some _ _).symm.trans H; with_reducible exact H2_) | with_reducible exact H | (rw [hy145]; exact H) | exact H
            have Ny145 := Aside0.mk hy145
            clear hy145
            have H' := Aside0.mk H
            clear H
            have hnb7 := NB142_143.out
            have hnc7 := NB143_142.out
            have hcz8_0 : wr.cell? ⟨gb142, 0, none⟩ = some (.int .i64 a0_0) := (blk_cell BK142.out 0).trans rfl
            have hcz8_1 : wr.cell? ⟨gb142, 1, none⟩ = some (.slice A0_1 l0_1.length c0_1) := (blk_cell BK142.out 1).trans rfl
            have hfz8_0 := blk_frozen BK142.out 0
            have hfz8_1 := blk_frozen BK142.out 1
            have p144 : 0 ≤ (x4_1 : Int) := of_decide_eq_true (by first | (with_reducible assumption) | assumption)
            have q144 : x4_1 < (l0_1.length : Int) := of_decide_eq_true (by first | (with_reducible assumption) | assumption)
            obtain ⟨ad144, e144, hx144_0⟩ := Kd.at_int HR0_1.out x4_1 p144 q144
            cases e144
            replace hx144_0 := (HB.out.cell (World.block_lt_of_cell? w _ hx144_0)).trans hx144_0
            replace p144 := eq_true p144
            replace q144 := eq_true q144
            go_wp2_with (first | ((with_reducible refine gate_builtin (b := .append) (xs := #[.tmp 12, .tmp 18]) rfl ?_); at_builtin; refine Kd.R_append (Kd.int .u64) (w0 := w) w.heap.size rfl (.tmp 12) (.tmp 18) 25 41 (.int .u64 0) 8 rfl Tryd.underlying25 info41 rfl (by decide) (by omega) u3 x3_1 (rd l0_1 x4_1) [.int .u64 (rd l0_1 x4_1)] (fun _ => True) (fun _ => False) rfl rfl ?aP (fun _ hk => hk.elim) ?aF ?aO ?aB ?aS ?aL ?_; (case aP => exact rfl); (case aB => exact (by repeat (first | (with_reducible first | exact HB.out | apply below_alloc | apply pw_below_drewN | apply below_drew1 | refine below_set ?_ GE142.out | refine below_set ?_ GE143.out) | exact HB.out))); (case aF => exact (fun _ _ => trivial)); (case aO => exact (by (with_reducible repeat (first | apply Kd.R_alloc | apply Kd.R_drewN | apply Kd.R_drew)); exact HO_3.out)); (case aS => exact (below_size (by repeat (first | (with_reducible first | exact HB.out | apply below_alloc | apply pw_below_drewN | apply below_drew1 | refine below_set ?_ GE142.out | refine below_set ?_ GE143.out) | exact HB.out)))); (case aL => have := LMc6.out; omega); intro v146 w9 ho hb hg hat; rw [← Ny145.out] at ho; have n0_ := Aside0.mk (blk_grown (g := gb142) (o := .cells #[.int .i64 a0_0, .slice (some ad144) l0_1.length c0_1] 27 (0, 0)) (by (with_reducible repeat (first | refine blk_drewN ?_ _ | refine blk_drew ?_ | refine blk_alloc ?_ _)); exact BK142.out) hg (Kd.R_ne HO_3.out BK142.out (by decide))); have n1_ := Aside0.mk (blk_grown (g := gb143) (o := .cells #[.int .i64 0, .slice none 0 0] 27 (0, 0)) (by (with_reducible repeat (first | refine blk_drewN ?_ _ | refine blk_drew ?_ | refine blk_alloc ?_ _)); exact BK143.out) hg (Kd.R_ne HO_3.out BK143.out (by decide))); have n2_ := Aside0.mk (hb); have n3_ := Aside0.mk (ho); clear BK142; clear BK143; clear HB; clear HO_3; have BK142 := n0_; have BK143 := n1_; have HB := n2_; have HO147 := n3_; clear n0_ n1_ n2_ n3_; clear ho hb hg hat))
            go_roundg k1
            case measure => have := HK1.out; omega
            case rel => exact ⟨(y145), (wrap64 (x4_1 + 1)), (by first | rfl | (simp; done) | (simp [*]; done)), H', ⟨by have := HK1.out; omega⟩, ⟨by (with_reducible repeat (first | apply Kd.R_alloc | apply Kd.R_drewN | apply Kd.R_drew)); exact HO147.out⟩, ⟨by (with_reducible repeat (first | refine blk_drewN ?_ _ | refine blk_drew ?_ | refine blk_alloc ?_ _)); exact BK142.out⟩, ⟨by (with_reducible repeat (first | refine blk_drewN ?_ _ | refine blk_drew ?_ | refine blk_alloc ?_ _)); exact BK143.out⟩, ⟨by repeat (first | (with_reducible first | exact HB.out | apply below_alloc | apply pw_below_drewN | apply below_drew1 | refine below_set ?_ GE142.out | refine below_set ?_ GE143.out) | exact HB.out)⟩⟩
          · rw [if_neg c6] at H
            exact absurd H (by simp)
        · rw [if_neg c5] at H
          exact absurd H (by simp)
      · rw [if_neg c4] at H
        have c4b0 : decide (x4_1 < (l0_1.length : Int)) = false := decide_eq_false c4
        clear c4
        simp only [Option.some.injEq, Prod.mk.injEq] at H
        obtain ⟨rfl, rfl⟩ := H
        have hnb10 := NB142_143.out
        have hnc10 := NB143_142.out
        have hcz11_0 : wr.cell? ⟨gb142, 0, none⟩ = some (.int .i64 a0_0) := (blk_cell BK142.out 0).trans rfl
        have hcz11_1 : wr.cell? ⟨gb142, 1, none⟩ = some (.slice A0_1 l0_1.length c0_1) := (blk_cell BK142.out 1).trans rfl
        have hfz11_0 := blk_frozen BK142.out 0
        have hfz11_1 := blk_frozen BK142.out 1
        obtain ⟨Ao12, co12, eo12⟩ := Kd.R_slice HO_3.out
        subst eo12
        have hcz13_0 : wr.cell? ⟨gb143, 0, none⟩ = some (.int .i64 0) := (blk_cell BK143.out 0).trans rfl
        have hcz13_1 : wr.cell? ⟨gb143, 1, none⟩ = some (.slice none 0 0) := (blk_cell BK143.out 1).trans rfl
        have hfz13_0 := blk_frozen BK143.out 0
        have hfz13_1 := blk_frozen BK143.out 1
        go_wp2
        refine bodyPost_ret (results_cell_row rfl _ _ gb143 27 #[.int .i64 a0_0, .slice Ao12 x3_1.length co12] (0, 0) _ rfl (by (with_reducible repeat (first | refine blk_drewN ?_ _ | refine blk_drew ?_ | refine blk_alloc ?_ _)); refine blk_put (cs := #[.int .i64 a0_0, .slice none 0 0]) ?_ 1 _ rfl; (with_reducible repeat (first | refine blk_drewN ?_ _ | refine blk_drew ?_ | refine blk_alloc ?_ _)); refine blk_put (cs := #[.int .i64 0, .slice none 0 0]) ?_ 0 _ rfl; (with_reducible repeat (first | refine blk_drewN ?_ _ | refine blk_drew ?_ | refine blk_alloc ?_ _)); exact BK143.out) Tryd.underlying27 rfl (by kernel_rfl)) rfl ?_
        exact ⟨_, by first | rfl | (simp [errW_none, errW_some] <;> rfl) | (simp [*, errW_none, errW_some] <;> rfl), by (with_reducible repeat (first | apply Kd.R_alloc | apply Kd.R_drewN | apply Kd.R_drew)); exact Kd.R_mono (Kd.R_far (p := ⟨gb143, 1, none⟩) (Kd.R_far (p := ⟨gb143, 0, none⟩) (Kd.R_types HO_3.out BK143.out (by decide)) (fun _ hk => hk.2) (.int .i64 a0_0)) (fun _ hk => hk.2) (.slice Ao12 x3_1.length co12)) (fun _ hk => trivial), by repeat (first | (with_reducible first | exact HB.out | apply below_alloc | apply pw_below_drewN | apply below_drew1 | refine below_set ?_ GE142.out | refine below_set ?_ GE143.out) | exact HB.out)⟩

/-! ### quarrykit_mark: function 19 -/
def quarrykit_mark.f (a0 : Int) (a1 : Int) : Option (Int) := some (wrap64 ((wrap64 (1000003 * (wrap64 (a0 + 7)))) + a1))
set_option maxHeartbeats 8000000 in
set_option maxRecDepth 100000 in
theorem quarrykit_mark.calls (a0 : Int) (a1 : Int) (r : Int) (w : World) (h : quarrykit_mark.f a0 a1 = some r) :
    Calls Tryd.prog 19 #[.int .i64 a0, .int .i64 a1] w fun e w' => e = .returned (.int .i64 r) ∧ Drawn0 w w' := by
  have H : (some (wrap64 ((wrap64 (1000003 * (wrap64 (a0 + 7)))) + a1))) = some r := h
  clear h
  obtain rfl := Option.some.inj H
  go_enter Tryd.func19, Tryd.ntmps19
  go_wp2
  go_ret
  exact ⟨by first | rfl | (simp; done) | (simp [*]; done), by repeat (first | exact Drawn0.refl _ | apply Drawn0.step)⟩

end Go.Proofs.YtagcilcdgckbeaaDoor.PK
-- Written by a program (myprint.py, over the kit's print) for this claim. Not trusted: Lean checks it.
namespace Go.Proofs.YtagcilcdgckbeaaDoor.PK
open Go.RowKit Go.Proofs.YtagcilcdgckbeaaDoorW.PrintWords Go.Proofs.YtagcilcdgckbeaaDoorW.PrintLast Go.Proofs.YtagcilcdgckbeaaDoorW.PrintMore
attribute [local go_sem] max2_int min2_int max_two min_two max_three min_three max_four min_four   -- for this text's walks alone
set_option linter.unusedVariables false
set_option linter.unusedSimpArgs false

/-! ### quarrykit_ApartInts: function 11 -/
section
open Go.Proofs.YtagcilcdgckbeaaDoorQ Go.Proofs.YtagcilcdgckbeaaDoorM
namespace ApInts
def mkJ (k i : Int) : Int := wrap64 ((wrap64 (1000003 * (wrap64 (k + 7)))) + i)
def mkw (k i : Nat) : Value := Value.int .i64 (mkJ (k : Int) (i : Int))
theorem mkv_one (k i : Nat) : (mkw k i).oneCell' = true := rfl
theorem mark_callsI (k i : Int) (w : World) : Calls Tryd.prog 19 #[.int .i64 k, .int .i64 i] w fun e w' => e = .returned (.int .i64 (mkJ k i)) ∧ Below w.heap.size w w' := by
  go_enter Tryd.func19, Tryd.ntmps19
  go_wp2
  go_ret
  refine ⟨?_, by repeat (first | exact Below.refl _ _ | apply below_drew | apply pw_below_drewN)⟩
  unfold mkJ
  first | rfl | (simp; done) | (simp [i64_w])
/-- Marked up to the place i of the row k. -/
def Qh1 (N : Nat) (v : Nat → Value) (n : Nat → Nat) (w : World) (gl : Nat) (curL : Array Value) (k i : Nat) (W : World) : Prop :=
  ∃ c, ApW 3 23 N v n w gl curL v n c c W ∧ ∀ a j, (a < k ∨ (a = k ∧ j < i)) → c a j = mkw a j
/-- The first k have grown. -/
def Qh2 (N : Nat) (v : Nat → Value) (n : Nat → Nat) (w : World) (gl : Nat) (curL : Array Value) (k : Nat) (v5 : Value) (W : World) : Prop :=
  ∃ gv m, ApW 3 23 N v n w gl curL gv m mkw mkw W ∧ (∀ a, a < k → m a = n a + 64) ∧ (∀ a, k ≤ a → a < N → gv a = v a ∧ m a = n a) ∧ RowF W 23 v5 k gv ∧ ∀ b, v5.ownBlock = some b → w.heap.size ≤ b
/-- The one of number k has grown by i. -/
def Qh2i (N : Nat) (v : Nat → Value) (n : Nat → Nat) (w : World) (gl : Nat) (curL : Array Value) (k : Nat) (v5 : Value) (i : Nat) (v7 : Value) (W : World) : Prop :=
  ∃ gv m, ApW 3 23 N v n w gl curL gv m mkw mkw W ∧ (∀ a, a < k → m a = n a + 64) ∧ (∀ a, k < a → a < N → gv a = v a ∧ m a = n a) ∧ gv k = v7 ∧ m k = n k + i ∧ RowF W 23 v5 k gv ∧ ∀ b, v5.ownBlock = some b → w.heap.size ≤ b
/-- Each that has grown begins as it was. -/
def Qh4 (N : Nat) (v : Nat → Value) (n : Nat → Nat) (w : World) (gl : Nat) (curL : Array Value) (v5 : Value) (W : World) : Prop :=
  ∃ gv m d, ApW 3 23 N v n w gl curL gv m mkw d W ∧ (∀ a, a < N → n a ≤ m a ∧ ∀ j, j < n a → d a j = mkw a j) ∧ RowF W 23 v5 N gv ∧ ∀ b, v5.ownBlock = some b → w.heap.size ≤ b
/-- Beside them a row of its own. -/
def Qh4i (N : Nat) (v : Nat → Value) (n : Nat → Nat) (w : World) (gl : Nat) (curL : Array Value) (v5 : Value) (p : Nat) (v12 : Value) (W : World) : Prop :=
  ∃ gv m d, ApW 3 23 N v n w gl curL gv m mkw d W ∧ (∀ a, a < N → n a ≤ m a ∧ ∀ j, j < n a → d a j = mkw a j) ∧ RowF W 23 v5 N gv ∧ (∀ b, v5.ownBlock = some b → w.heap.size ≤ b) ∧
    (∃ f, RowF W 3 v12 p f ∧ ∀ j, j < p → (f j).oneCell' = true) ∧ ∀ b, v12.ownBlock = some b → w.heap.size ≤ b ∧ ∀ a, a < N → (gv a).ownBlock ≠ some b
section
variable {N : Nat} {v : Nat → Value} {n : Nat → Nat} {w : World} {gl : Nat} {curL : Array Value} {W W' : World} {k i : Nat} {v5 v7 v12 : Value}
theorem hesI : (3 : Nat) ≠ 23 := by decide
theorem Qh1.below (h : Qh1 N v n w gl curL k i W) (hb : Below W.heap.size W W') : Qh1 N v n w gl curL k i W' := by
  obtain ⟨c, h1, h2⟩ := h
  exact ⟨c, h1.below hb, h2⟩
theorem Qh1.next (h : Qh1 N v n w gl curL k (n k) W) : Qh1 N v n w gl curL (k + 1) 0 W := by
  obtain ⟨c, h1, h2⟩ := h
  refine ⟨fun a j => if a = k then (if j < n k then c a j else mkw a j) else c a j, ?_, fun a j ho => ?_⟩
  · have e : ∀ a, a < N → RowF W 3 (v a) (n a) (fun j => if a = k then (if j < n k then c a j else mkw a j) else c a j) := fun a ha => (h1.ap.ls a ha).congr fun j hj => by
      by_cases e1 : a = k
      · subst e1
        simp [hj]
      · simp [e1]
    exact ⟨⟨e, e, h1.ap.dis⟩, h1.fr, h1.vl, h1.lo, h1.gl_, h1.tv⟩
  · have ha : a < k + 1 := by omega
    by_cases e1 : a = k
    · subst e1
      by_cases hj : j < n a
      · simp only [if_true, hj]
        exact h2 a j (.inr ⟨rfl, hj⟩)
      · simp [hj]
    · simp only [e1, if_false]
      exact h2 a j (.inl (by omega))
theorem Qh1.put (h : Qh1 N v n w gl curL k i W) (hk : k < N) (hi : i < n k) : ∃ g cap cur, v k = .slice (some ⟨g, 0, none⟩) (n k) cap ∧ Blk W g cur 3 ∧ i < cur.size ∧
    ∀ W', Blk W' g (cur.setIfInBounds i (mkw k i)) 3 → W.grownBy W' (some g) → Qh1 N v n w gl curL k (i + 1) W' := by
  obtain ⟨c, h1, h2⟩ := h
  obtain ⟨g, cap, cur, e1, e2, e3, e4⟩ := h1.put hk hi
  refine ⟨g, cap, cur, e1, e2, e3, fun W' B' hg => ?_⟩
  obtain ⟨c', q1, q2⟩ := e4 W' (mkw k i) B' hg
  refine ⟨c', q1, fun a j ho => ?_⟩
  rw [q2]
  by_cases e : a = k ∧ j = i
  · rw [if_pos e, e.1, e.2]
  · rw [if_neg e]
    exact h2 a j (by omega)
theorem Qh1.to2 (h : Qh1 N v n w gl curL N 0 W) : Qh2 N v n w gl curL 0 (.slice none 0 0) W := by
  obtain ⟨c, h1, h2⟩ := h
  have e : ∀ a, a < N → RowF W 3 (v a) (n a) (mkw a) := fun a ha => (h1.ap.ls a ha).congr fun j _ => h2 a j (.inl ha)
  exact ⟨v, n, ⟨⟨e, e, h1.ap.dis⟩, h1.fr, h1.vl, h1.lo, h1.gl_, h1.tv⟩, fun a ha => absurd ha (Nat.not_lt_zero _), fun a _ _ => ⟨rfl, rfl⟩, World.ownsRow_nil W 0 23 1, fun b hb => by cases hb⟩
theorem Qh2.begin (h : Qh2 N v n w gl curL k v5 W) (hk : k < N) : Qh2i N v n w gl curL k v5 0 (v k) W := by
  obtain ⟨gv, m, h1, h2, h3, h4, h5⟩ := h
  exact ⟨gv, m, h1, h2, fun a ha hN => h3 a (by omega) hN, (h3 k (Nat.le_refl _) hk).1, (h3 k (Nat.le_refl _) hk).2, h4, h5⟩
theorem Qh2i.below (h : Qh2i N v n w gl curL k v5 i v7 W) (hb : Below W.heap.size W W') : Qh2i N v n w gl curL k v5 i v7 W' := by
  obtain ⟨gv, m, h1, h2, h3, h4, h5, h6, h7⟩ := h
  exact ⟨gv, m, h1.below hb, h2, h3, h4, h5, row_below h6 hb, h7⟩
theorem Qh2.below (h : Qh2 N v n w gl curL k v5 W) (hb : Below W.heap.size W W') : Qh2 N v n w gl curL k v5 W' := by
  obtain ⟨gv, m, h1, h2, h3, h6, h7⟩ := h
  exact ⟨gv, m, h1.below hb, h2, h3, row_below h6 hb, h7⟩
theorem Qh4.below (h : Qh4 N v n w gl curL v5 W) (hb : Below W.heap.size W W') : Qh4 N v n w gl curL v5 W' := by
  obtain ⟨gv, m, d, h1, h2, h6, h7⟩ := h
  exact ⟨gv, m, d, h1.below hb, h2, row_below h6 hb, h7⟩
theorem Qh4i.below (h : Qh4i N v n w gl curL v5 i v12 W) (hb : Below W.heap.size W W') : Qh4i N v n w gl curL v5 i v12 W' := by
  obtain ⟨gv, m, d, h1, h2, h6, h7, ⟨f, h8, h10⟩, h9⟩ := h
  exact ⟨gv, m, d, h1.below hb, h2, row_below h6 hb, h7, ⟨f, row_below h8 hb, h10⟩, h9⟩
theorem range_snocI (f : Nat → Value) (p : Nat) (x : Value) : (List.range p).map f ++ [x] = (List.range (p + 1)).map (fun j => if j = p then x else f j) := by
  rw [List.range_succ, List.map_append]
  congr 1
  · exact List.map_congr_left fun j hj => by rw [if_neg (by have := List.mem_range.1 hj; omega)]
  · simp
/-- A row of another type abides an append. -/
theorem rowSI {base q : Nat} {x x' : Value} {m m' : Nat} {xs ys : List Value} {v5 : Value} {f : Nat → Value} (h : RowF W 23 v5 q f) (hx : W.ownsRow base 3 1 x m xs) (hA : Appended W W' 3 x x' m m' ys) : RowF W' 23 v5 q f := by
  rcases hA with ⟨g, cap, rfl, rfl, _, hg⟩ | ⟨cap, rfl, _, hg⟩
  · refine h.kept hg ?_
    cases hv : v5.ownBlock with
    | none => exact .inl rfl
    | some b =>
      refine .inr fun e => ?_
      injection e with e
      subst e
      obtain ⟨cur, B⟩ := h.typed hv
      obtain ⟨cur2, B2⟩ := RowF.typed (f := fun j => xs.getD j undef) (n := m) (v := .slice (some ⟨b, 0, none⟩) m cap) (show W.ownsRow 0 3 1 _ m _ from by
        have hl : xs.length = m := by rw [hx.1, Nat.mul_one]
        have e1 : (List.range m).map (fun j => xs.getD j undef) = xs := by
          apply List.ext_getElem?
          intro j
          by_cases hj : j < m
          · rw [List.getElem?_map, List.getElem?_range hj, Option.map_some, List.getD_eq_getElem?_getD, List.getElem?_eq_getElem (by omega)]
            rfl
          · rw [List.getElem?_eq_none (by simp; omega), List.getElem?_eq_none (by omega)]
        rw [e1]
        exact ⟨hx.1, hx.2.imp id fun ⟨g, c, cu, r⟩ => ⟨g, c, cu, r.1, Nat.zero_le _, r.2.2⟩⟩) rfl
      have := B.out
      rw [B2.out] at this
      simp at this
  · exact h.kept hg (by cases v5.ownBlock <;> simp)
theorem Qh2i.row (h : Qh2i N v n w gl curL k v5 i v7 W) (hk : k < N) : RowF W 3 v7 (n k + i) (mkw k) := by
  obtain ⟨gv, m, h1, h2, h3, h4, h5, h6, h7⟩ := h
  have := h1.ap.gs k hk
  rwa [h4, h5] at this
theorem Qh2i.grow (h : Qh2i N v n w gl curL k v5 i v7 W) (hk : k < N) {x' : Value} (hA : Appended W W' 3 v7 x' (n k + i) (n k + i + 1) ((List.range (n k + i)).map (mkw k) ++ [mkw k (n k + i)])) : Qh2i N v n w gl curL k v5 (i + 1) x' W' := by
  have hr := h.row hk
  obtain ⟨gv, m, h1, h2, h3, h4, h5, h6, h7⟩ := h
  have q := h1.grow hk (.inl h4.symm) hr (Nat.le_add_right _ _) (Nat.le_succ _) hA (fy := mkw k) (by rw [range_snocI]; exact List.map_congr_left fun j hj => by by_cases e : j = n k + i <;> simp [e])
  have e : ∀ a, a < N → RowF W' 3 (upd gv k x' a) (upd m k (n k + i + 1) a) (mkw a) := fun a ha => by
    have := q.ap.gs a ha
    by_cases e1 : a = k
    · subst e1
      rw [upd_same mkw] at this
      exact this
    · rwa [upd_ne mkw _ e1] at this
  refine ⟨upd gv k x', upd m k (n k + i + 1), ⟨⟨q.ap.ls, e, q.ap.dis⟩, q.fr, q.vl, q.lo, q.gl_, q.tv⟩, fun a ha => ?_, fun a ha hN => ?_, upd_same _ _ _, by rw [upd_same]; rfl, ?_, h7⟩
  · rw [upd_ne _ _ (by omega)]
    exact h2 a ha
  · rw [upd_ne _ _ (by omega), upd_ne _ _ (by omega)]
    exact h3 a ha hN
  · exact (rowSI h6 hr hA).congr fun j hj => by rw [upd_ne _ _ (by omega)]
theorem Qh2i.fin (h : Qh2i N v n w gl curL k v5 64 v7 W) (hk : k < N) : ∃ xs, W.ownsRow 0 23 1 v5 k xs ∧ ∀ x' W', Appended W W' 23 v5 x' k (k + 1) (xs ++ [v7]) → Qh2 N v n w gl curL (k + 1) x' W' := by
  obtain ⟨gv, m, h1, h2, h3, h4, h5, h6, h7⟩ := h
  refine ⟨_, h6, fun x' W' hA => ?_⟩
  have hm : ∀ a, a < k + 1 → m a = n a + 64 := fun a ha => by
    by_cases e : a = k
    · subst e; exact h5
    · exact h2 a (by omega)
  have hg : ∀ a, k + 1 ≤ a → a < N → gv a = v a ∧ m a = n a := fun a ha hN => h3 a (by omega) hN
  have hl : (List.range k).map gv ++ [v7] = (List.range (k + 1)).map gv := by rw [List.range_succ, List.map_append, ← h4]; rfl
  rcases hA with ⟨g, cap, rfl, rfl, q1, q2⟩ | ⟨cap, rfl, q1, q2⟩
  · rw [hl] at q1
    exact ⟨gv, m, h1.farT hesI h6 h7 (.inr rfl) q2, hm, hg, q1, h7⟩
  · rw [hl] at q1
    refine ⟨gv, m, h1.farT hesI h6 h7 (.inl rfl) q2, hm, hg, q1, fun b hb => ?_⟩
    cases hb
    exact h1.tv.size
theorem Qh2.to4 (h : Qh2 N v n w gl curL N v5 W) : Qh4 N v n w gl curL v5 W := by
  obtain ⟨gv, m, h1, h2, h3, h4, h5⟩ := h
  exact ⟨gv, m, mkw, h1, fun a ha => ⟨by rw [h2 a ha]; omega, fun j _ => rfl⟩, h4, h5⟩
theorem Qh2.look (h : Qh2 N v n w gl curL N v5 W) (hk : k < N) : ∃ g5 c5 A cg, v5 = .slice (some ⟨g5, 0, none⟩) N c5 ∧ W.cell? ⟨g5, k, none⟩ = some (.slice A (n k + 64) cg) ∧ ∀ i, i < n k + 64 → ∃ gg, A = some ⟨gg, 0, none⟩ ∧ W.cell? ⟨gg, i, none⟩ = some (mkw k i) := by
  obtain ⟨gv, m, h1, h2, h3, h4, h5⟩ := h
  obtain ⟨g5, c5, cur, e1, e2, _, e4, _⟩ := h4.at_ hk
  have hr := h1.ap.gs k hk
  rw [h2 k hk] at hr
  obtain ⟨A, cg, e5⟩ := hr.shape
  refine ⟨g5, c5, A, cg, e1, by rw [← e5]; exact e2.cell e4, fun i hi => ?_⟩
  obtain ⟨gg, cap, cu, q1, q2, _, q4, _⟩ := hr.at_ hi
  rw [e5] at q1
  injection q1 with q1 _ _
  exact ⟨gg, q1, q2.cell q4⟩
theorem ApW.lsAtI {gv : Nat → Value} {m : Nat → Nat} {d : Nat → Nat → Value} (h1 : ApW 3 23 N v n w gl curL gv m mkw d W) (hk : k < N) (hi : i < n k) : ∃ g cap, v k = .slice (some ⟨g, 0, none⟩) (n k) cap ∧ W.cell? ⟨g, i, none⟩ = some (mkw k i) := by
  obtain ⟨gg, cap, cu, q1, q2, _, q4, _⟩ := (h1.ap.ls k hk).at_ hi
  exact ⟨gg, cap, q1, q2.cell q4⟩
theorem Qh2.lsAt (h : Qh2 N v n w gl curL N v5 W) (hk : k < N) (hi : i < n k) : ∃ g cap, v k = .slice (some ⟨g, 0, none⟩) (n k) cap ∧ W.cell? ⟨g, i, none⟩ = some (mkw k i) := by
  obtain ⟨gv, m, h1, _⟩ := h
  exact ApW.lsAtI h1 hk hi
theorem Qh4.lsAt (h : Qh4 N v n w gl curL v5 W) (hk : k < N) (hi : i < n k) : ∃ g cap, v k = .slice (some ⟨g, 0, none⟩) (n k) cap ∧ W.cell? ⟨g, i, none⟩ = some (mkw k i) := by
  obtain ⟨gv, m, d, h1, _⟩ := h
  exact ApW.lsAtI h1 hk hi
theorem Qh2.shape5 (h : Qh2 N v n w gl curL k v5 W) : ∃ A c, v5 = .slice A k c := by
  obtain ⟨gv, m, _, _, _, h4, _⟩ := h
  exact h4.shape
theorem Qh4.shape5 (h : Qh4 N v n w gl curL v5 W) : ∃ A c, v5 = .slice A N c := by
  obtain ⟨gv, m, d, _, _, h4, _⟩ := h
  exact h4.shape
theorem Qh4i.shape12 (h : Qh4i N v n w gl curL v5 i v12 W) : ∃ A c, v12 = .slice A i c := by
  obtain ⟨gv, m, d, _, _, _, _, ⟨f, h6, _⟩, _⟩ := h
  exact RowF.shape h6
theorem Qh1.lo (h : Qh1 N v n w gl curL k i W) : Blk W gl curL 23 := by
  obtain ⟨c, h1, _⟩ := h
  exact h1.lo
theorem Qh2.lo (h : Qh2 N v n w gl curL k v5 W) : Blk W gl curL 23 := by
  obtain ⟨gv, m, h1, _⟩ := h
  exact h1.lo
theorem Qh2i.lo (h : Qh2i N v n w gl curL k v5 i v7 W) : Blk W gl curL 23 := by
  obtain ⟨gv, m, h1, _⟩ := h
  exact h1.lo
theorem Qh4.lo (h : Qh4 N v n w gl curL v5 W) : Blk W gl curL 23 := by
  obtain ⟨gv, m, d, h1, _⟩ := h
  exact h1.lo
theorem Qh4i.lo (h : Qh4i N v n w gl curL v5 i v12 W) : Blk W gl curL 23 := by
  obtain ⟨gv, m, d, h1, _⟩ := h
  exact h1.lo
theorem Qh4.tv (h : Qh4 N v n w gl curL v5 W) : Tv N v w W := by
  obtain ⟨gv, m, d, h1, _⟩ := h
  exact h1.tv
theorem Qh4.gsAt (h : Qh4 N v n w gl curL v5 W) (hk : k < N) (hi : i < n k) : ∃ g5 c5 gg l cg, v5 = .slice (some ⟨g5, 0, none⟩) N c5 ∧ W.cell? ⟨g5, k, none⟩ = some (.slice (some ⟨gg, 0, none⟩) l cg) ∧ n k ≤ l ∧ W.cell? ⟨gg, i, none⟩ = some (mkw k i) := by
  obtain ⟨gv, m, d, h1, h2, h4, h5⟩ := h
  obtain ⟨g5, c5, cur, e1, e2, _, e4, _⟩ := h4.at_ hk
  obtain ⟨hm, hd⟩ := h2 k hk
  obtain ⟨gg, cap, cu, q1, q2, _, q4, _⟩ := (h1.ap.gs k hk).at_ (Nat.lt_of_lt_of_le hi hm)
  rw [hd i hi] at q4
  exact ⟨g5, c5, gg, m k, cap, e1, by rw [← q1]; exact e2.cell e4, hm, q2.cell q4⟩
theorem Qh4.begin (h : Qh4 N v n w gl curL v5 W) : Qh4i N v n w gl curL v5 0 (.slice none 0 0) W := by
  obtain ⟨gv, m, d, h1, h2, h4, h5⟩ := h
  exact ⟨gv, m, d, h1, h2, h4, h5, ⟨fun _ => undef, World.ownsRow_nil W 0 3 1, fun j hj => absurd hj (Nat.not_lt_zero _)⟩, fun b hb => by cases hb⟩
theorem Qh4i.grow (h : Qh4i N v n w gl curL v5 i v12 W) : ∃ xs, W.ownsRow 0 3 1 v12 i xs ∧ ∀ u x' W', u.oneCell' = true → Appended W W' 3 v12 x' i (i + 1) (xs ++ [u]) → Qh4i N v n w gl curL v5 (i + 1) x' W' := by
  obtain ⟨gv, m, d, h1, h2, h4, h5, ⟨f, h6, h8⟩, h7⟩ := h
  refine ⟨_, h6, fun u x' W' hu hA => ?_⟩
  have hr := rowSI h4 h6 hA
  have hf : ∃ f', (List.range i).map f ++ [u] = (List.range (i + 1)).map f' ∧ ∀ j, j < i + 1 → (f' j).oneCell' = true := ⟨_, range_snocI f i u, fun j hj => by
    by_cases e : j = i
    · rw [if_pos e]; exact hu
    · rw [if_neg e]; exact h8 j (by omega)⟩
  obtain ⟨f', e1, e2⟩ := hf
  rcases hA with ⟨g, cap, rfl, rfl, q1, q2⟩ | ⟨cap, rfl, q1, q2⟩
  · rw [e1] at q1
    exact ⟨gv, m, d, h1.far q2 fun b hb => (by cases hb; exact h7 g rfl), h2, hr, h5, ⟨f', q1, e2⟩, h7⟩
  · rw [e1] at q1
    refine ⟨gv, m, d, h1.far q2 fun b hb => (by cases hb), h2, hr, h5, ⟨f', q1, e2⟩, fun b hb => ?_⟩
    cases hb
    exact ⟨h1.tv.size, fun a ha e => Nat.lt_irrefl _ ((h1.ap.gs a ha).lt e)⟩
theorem Qh4i.fin (h : Qh4i N v n w gl curL v5 64 v12 W) (hk : k < N) : ∃ g5 c5 gm cm xs news, v5 = .slice (some ⟨g5, 0, none⟩) N c5 ∧ v12 = .slice (some ⟨gm, 0, none⟩) 64 cm ∧ W.ownsRow 0 3 1 (v k) (n k) xs ∧ news.length = 64 ∧
    (∀ j u, news[j]? = some u → W.cell? ((⟨gm, 0, none⟩ : Addr).add j) = some u) ∧ (∀ u ∈ news, u.oneCell' = true) ∧
    ∀ x' W1, Appended W W1 3 (v k) x' (n k) (n k + 64) (xs ++ news) → ∃ cur5, Blk W1 g5 cur5 23 ∧ k < cur5.size ∧ x'.oneCell' = true ∧ ∀ W2, Blk W2 g5 (cur5.setIfInBounds k x') 23 → W1.grownBy W2 (some g5) → Qh4 N v n w gl curL v5 W2 := by
  obtain ⟨gv, m, d, h1, h2, h4, h5, ⟨f, h6, h8⟩, h7⟩ := h
  obtain ⟨gm, cm, _, e1, _⟩ := h6.at_ (i := 0) (by omega)
  obtain ⟨g5, c5, cur, e2, _⟩ := h4.at_ hk
  have hrow := h1.ap.ls k hk
  refine ⟨g5, c5, gm, cm, _, (List.range 64).map f, e2, e1, hrow, by simp, fun j u hj => ?_, fun u hu => ?_, fun x' W1 hA => ?_⟩
  · exact World.ownsRow.cells h6 (g := gm) (by rw [e1]; rfl) j u hj
  · obtain ⟨j, hj, rfl⟩ := List.mem_map.1 hu
    exact h8 j (List.mem_range.1 hj)
  · have hy : (List.range (n k)).map (mkw k) ++ (List.range 64).map f = (List.range (n k + 64)).map (fun j => if j < n k then mkw k j else f (j - n k)) := by
      rw [List.range_add, List.map_append, List.map_map]
      congr 1
      · exact List.map_congr_left fun j hj => by rw [if_pos (List.mem_range.1 hj)]
      · exact List.map_congr_left fun j hj => by
          show f j = if n k + j < n k then _ else f (n k + j - n k)
          rw [if_neg (by omega), Nat.add_sub_cancel_left]
    have q := h1.grow hk (.inr rfl) hrow (Nat.le_refl _) (Nat.le_add_right _ _) hA hy
    have r := rowSI h4 hrow hA
    obtain ⟨g5', c5', cur5, e3, e4, e5, _, e6⟩ := r.at_ hk
    rw [e2] at e3
    injection e3 with e3 _ _
    injection e3 with e3
    injection e3 with e3 _ _
    subst e3
    have hx : x'.oneCell' = true := by
      rcases hA with ⟨g, cap, _, rfl, _⟩ | ⟨cap, rfl, _⟩ <;> rfl
    refine ⟨cur5, e4, e5, hx, fun W2 B hg => ⟨_, _, _, q.farT hesI r h5 (.inr (by rw [e2]; rfl)) hg, fun a ha => ?_, (e6 W2 x' B).congr fun j hj => rfl, h5⟩⟩
    by_cases e : a = k
    · subst e
      rw [upd_same, upd_same]
      exact ⟨Nat.le_add_right _ _, fun j hj => if_pos hj⟩
    · rw [upd_ne _ _ e, upd_ne _ _ e]
      exact h2 a ha
end
end ApInts
open ApInts
set_option maxHeartbeats 4000000 in
set_option maxRecDepth 100000 in
theorem quarrykit_ApartInts.walk (N : Nat) (v : Nat → Value) (n : Nat → Nat) (c0 : Nat → Nat → Value) (gl capL : Nat) (curL : Array Value) (w : World) (hN : N ≤ 1000000) (hn : ∀ i, i < N → n i ≤ 1099511627776) (hlo : Blk w gl curL 23) (hL : ∀ i, i < N → curL[i]? = some (v i))
    (hrow : ∀ i, i < N → RowF w 3 (v i) (n i) (c0 i)) (hdis : ∀ i j b, i < N → j < N → i ≠ j → (v i).ownBlock = some b → (v j).ownBlock ≠ some b) :
    Calls Tryd.prog 11 #[.slice (some ⟨gl, 0, none⟩) N capL] w fun e w' => e = .returned (.bool true) ∧ Tv N v w w' := by
  have MK : Aside0 (∀ (W : World) (k i : Int), Calls Tryd.prog 19 #[.int .i64 k, .int .i64 i] W fun e w' => e = .returned (.int .i64 (mkJ k i)) ∧ Below W.heap.size W w') := ⟨fun W k i => mark_callsI k i W⟩
  have HS : Aside0 (Qh1 N v n w gl curL 0 0 w) := ⟨c0, ⟨⟨hrow, hrow, fun i j b hi hj hij h h' => hdis i j b hi hj hij (h.elim id id) (h'.elim id id)⟩, fun i b hi h => .inl h, fun i b hi h => ⟨(hrow i hi).lt h, fun e => by
    obtain ⟨cur, B⟩ := (hrow i hi).typed h
    have := B.out
    rw [e, hlo.out] at this
    simp at this⟩, hlo, hlo.lt, Tv.refl _ _ _⟩, fun a j h => by omega⟩
  have SH : Aside0 (∀ k, k < N → ∃ A cp, v k = .slice A (n k) cp) := ⟨fun k hk => (hrow k hk).shape⟩
  have HNN := Aside0.mk (And.intro hN hn)
  have HL := Aside0.mk hL
  clear hN hn hlo hL hrow hdis
  go_enter Tryd.func11, Tryd.ntmps11
  go_wp2
  go_loopw [3] (fun v3 wr => ∃ k : Nat, v3 = .int .i64 k ∧ Aside0 (k ≤ N) ∧ Aside0 (Qh1 N v n w gl curL k 0 wr)) (fun v3 _ => N - (intOf v3).toNat)
  case atStart => exact ⟨0, rfl, ⟨Nat.zero_le _⟩, HS⟩
  case round =>
    obtain ⟨k, rfl, HK, HP⟩ := hrel
    obtain ⟨wo, rfl⟩ : ∃ wo : World, wo = wr := ⟨_, rfl⟩
    by_cases hk : k < N
    · have t1 : decide ((k : Int) < (N : Int)) = true := decide_eq_true (by omega)
      have t2 : decide (k < N) = true := decide_eq_true hk
      obtain ⟨A, cp, hv⟩ := SH.out k hk
      have HKK := Aside0.mk hk
      have HV := Aside0.mk hv
      have HWk : Aside0 (wrap64 ((k : Int) + 1) = ((k + 1 : Nat) : Int)) := ⟨by have := HNN.out.1; unfold wrap64; omega⟩
      clear hk hv
      go_wp2
      go_loopw [4] (fun v4 wr => ∃ i : Nat, v4 = .int .i64 i ∧ Aside0 (i ≤ n k) ∧ Aside0 (Qh1 N v n w gl curL k i wr)) (fun v4 _ => n k - (intOf v4).toNat)
      case atStart => exact ⟨0, rfl, ⟨Nat.zero_le _⟩, HP⟩
      case round =>
        obtain ⟨i, rfl, HI, HPi⟩ := hrel
        obtain ⟨wi, rfl⟩ : ∃ wi : World, wi = wr := ⟨_, rfl⟩
        have hk1 : (0 : Int) ≤ (k : Int) := by omega
        have hk2 : (k : Int) < (N : Int) := by have := HKK.out; omega
        by_cases hi : i < n k
        · have s1 : decide ((i : Int) < (n k : Int)) = true := decide_eq_true (by omega)
          have s2 : decide (i < n k) = true := decide_eq_true hi
          obtain ⟨g, cap, cur, hv1, B, hic, hput⟩ := HPi.out.put HKK.out hi
          have q0 := HPi.out.lo.cell (HL.out k HKK.out)
          have HLk : Aside0 (curL[k]? = some (.slice (some ⟨g, 0, none⟩) (n k) cap)) := ⟨by rw [HL.out k HKK.out, hv1]⟩
          rw [hv1] at q0
          have HV1 := Aside0.mk hv1
          have HI2 := Aside0.mk hi
          have HWi : Aside0 (wrap64 ((i : Int) + 1) = ((i + 1 : Nat) : Int)) := ⟨by have := HNN.out.2 k HKK.out; unfold wrap64; omega⟩
          have hi1 : (0 : Int) ≤ (i : Int) := by omega
          have hi2 : (i : Int) < (n k : Int) := by omega
          clear hv1 B hic hput hi
          go_upto_region 7 with (fail)
          have HPn := Aside0.mk (HPi.out.below (below_drew (Below.refl _ _)))
          clear HPi q0
          have HPi := HPn
          clear HPn
          refine wp_region_noPanic ?_
          refine wp_region_last_drew (S := fun W' => Blk W' gl curL 23) (ds := [9]) (by kernel_rfl) HPi.out.lo (fun hS => ?_)
          refine' wpAnyLast_take (i := 0) (oi := Oper.mk _ _ _ _ _ _) rfl (by kernel_rfl) (by kernel_rfl) (by kernel_rfl) (by kernel_rfl) (by kernel_rfl) (fun _ _ _ h => h) (Or.inl ⟨by rfl, ?hy68⟩) hS ?rest68
          case hy68 => (intro w hSw; (try dsimp only at hSw); first | (go_simp; done) | (go_simp; with_reducible rfl))
          try simp only [Act.put, List.setIfInBounds_toArray, List.set_cons_zero, List.set_cons_succ]
          refine' wpAnyLast_take (i := 1) (oi := Oper.mk _ _ _ _ _ _) rfl (by kernel_rfl) (by kernel_rfl) (by kernel_rfl) (by kernel_rfl) (by kernel_rfl) (fun _ _ _ h => h) (Or.inl ⟨by rfl, ?hy69⟩) hS ?rest69
          case hy69 => (intro w hSw; (try dsimp only at hSw); first | (go_simp; done) | (go_simp; with_reducible rfl))
          try simp only [Act.put, List.setIfInBounds_toArray, List.set_cons_zero, List.set_cons_succ]
          refine' wpAnyLast_take (i := 2) (oi := Oper.mk _ _ _ _ _ _) rfl (by kernel_rfl) (by kernel_rfl) (by kernel_rfl) (by kernel_rfl) (by kernel_rfl) (fun _ _ _ h => h) (Or.inl ⟨by rfl, ?hy70⟩) hS ?rest70
          case hy70 => (intro w hSw; (try dsimp only at hSw); first | (go_simp; done) | (go_simp; with_reducible rfl))
          try simp only [Act.put, List.setIfInBounds_toArray, List.set_cons_zero, List.set_cons_succ]
          refine wpAnyLast_take (i := 3) (oi := Oper.mk _ _ _ _ _ _) rfl (by kernel_rfl) (by kernel_rfl) (by kernel_rfl) (by kernel_rfl) (by kernel_rfl) (fun _ _ _ h => h) (rg_load1 (by rfl) (fun _ hS => hS.cell (i := k) HLk.out) 23 _ rfl rfl (fun _ => by simp [isAgg, run_underlying Tryd.underlying23])) hS ?_
          try simp only [Act.put, List.setIfInBounds_toArray, List.set_cons_zero, List.set_cons_succ]
          refine' wpAnyLast_take (i := 4) (oi := Oper.mk _ _ _ _ _ _) rfl (by kernel_rfl) (by kernel_rfl) (by kernel_rfl) (by kernel_rfl) (by kernel_rfl) (fun _ _ _ h => h) (Or.inl ⟨by rfl, ?hy71⟩) hS ?rest71
          case hy71 => (intro w hSw; (try dsimp only at hSw); first | (go_simp; done) | (go_simp; with_reducible rfl))
          try simp only [Act.put, List.setIfInBounds_toArray, List.set_cons_zero, List.set_cons_succ]
          refine' wpAnyLast_take (i := 5) (oi := Oper.mk _ _ _ _ _ _) rfl (by kernel_rfl) (by kernel_rfl) (by kernel_rfl) (by kernel_rfl) (by kernel_rfl) (fun _ _ _ h => h) (Or.inl ⟨by rfl, ?hy72⟩) hS ?rest72
          case hy72 => (intro w hSw; (try dsimp only at hSw); first | (go_simp; done) | (go_simp; with_reducible rfl))
          try simp only [Act.put, List.setIfInBounds_toArray, List.set_cons_zero, List.set_cons_succ]
          refine' wpAnyLast_take (i := 6) (oi := Oper.mk _ _ _ _ _ _) rfl (by kernel_rfl) (by kernel_rfl) (by kernel_rfl) (by kernel_rfl) (by kernel_rfl) (fun _ _ _ h => h) (Or.inl ⟨by rfl, ?hy73⟩) hS ?rest73
          case hy73 => (intro w hSw; (try dsimp only at hSw); first | (go_simp; done) | (go_simp; with_reducible rfl))
          try simp only [Act.put, List.setIfInBounds_toArray, List.set_cons_zero, List.set_cons_succ]
          refine wpAnyLast_ready (rs := [7]) (by kernel_rfl) (by simp) ?_
          refine AllReadyL.cons (o := Oper.mk _ _ _ _ _ _) rfl (by decide) (fun K hK => ?_) ?_
          · refine rg_call (by rfl) _ _ (.int .i64 (mkJ (k : Int) (i : Int))) (by first | (go_simp; done) | (go_simp; rfl)) (MK.out _ _ _) ?_
            intro W' hb
            have HPn := Aside0.mk (HPi.out.below hb.out)
            clear HPi
            have HPi := HPn
            clear HPn
            refine hK.out _ _ HPi.out.lo (fun hS => ?_)
            clear hK K hb
            try simp only [Act.put, List.setIfInBounds_toArray, List.set_cons_zero, List.set_cons_succ]
            refine' wpAnyLast_take (i := 8) (oi := Oper.mk _ _ _ _ _ _) rfl (by kernel_rfl) (by kernel_rfl) (by kernel_rfl) (by kernel_rfl) (by kernel_rfl) (fun _ _ _ h => h) (Or.inl ⟨by rfl, ?hy74⟩) hS ?rest74
            case hy74 => (intro w hSw; (try dsimp only at hSw); first | (go_simp; done) | (go_simp; with_reducible rfl))
            try simp only [Act.put, List.setIfInBounds_toArray, List.set_cons_zero, List.set_cons_succ]
            refine wpAnyLast_ready (rs := [9]) (by kernel_rfl) (by simp) ?_
            refine AllReadyL.cons_last (o := Oper.mk _ _ _ _ _ _) rfl (by decide) (fun K hK => ?_) ?_
            · obtain ⟨g2, cap2, cur2, hv2, B, hic, hput⟩ := HPi.out.put HKK.out HI2.out
              rw [HV1.out] at hv2
              injection hv2 with hv2 _ _
              injection hv2 with hv2
              injection hv2 with hv2 _ _
              subst hv2
              refine rg_put1 (by rfl) B 3 _ _ rfl rfl (.int .i64 (mkJ ((k : Int)) ((i : Int)))) rfl hic (by kernel_rfl) rfl ?_
              intro w9 B9 hg9
              have HPn := Aside0.mk (hput w9 B9 hg9.out)
              clear HPi hput B B9 hg9 hic
              refine hK.out _ _ ?_
              clear hK K
              try simp only [Act.put, List.setIfInBounds_toArray, List.set_cons_zero, List.set_cons_succ]
              refine wpAnyLast_done (by kernel_rfl) ?_ _
              refine NoPanic.normal ?_
              go_wp2
              go_roundw
              case rel => exact ⟨i + 1, by rw [HWi.out], ⟨HI2.out⟩, HPn⟩
              case measure => have := HI2.out; rw [HWi.out]; simp [intOf]; omega
            exact AllReadyL.nil
          exact AllReadyL.nil
        · have s1 : decide ((i : Int) < (n k : Int)) = false := decide_eq_false (by omega)
          have s2 : decide (i < n k) = false := decide_eq_false hi
          have q0 := HPi.out.lo.cell (HL.out k HKK.out)
          rw [HV.out] at q0
          have HE : Aside0 (i = n k) := ⟨by have := HI.out; omega⟩
          clear hi
          go_wp2
          go_roundw
          case rel => exact ⟨k + 1, by rw [HWk.out], ⟨by have := HKK.out; omega⟩, ⟨by have h := HPi.out; rw [HE.out] at h; exact h.next⟩⟩
          case measure => have := HKK.out; rw [HWk.out]; simp [intOf]; omega
    · have t1 : decide ((k : Int) < (N : Int)) = false := decide_eq_false (by omega)
      have t2 : decide (k < N) = false := decide_eq_false hk
      have HP2 : Aside0 (Qh2 N v n w gl curL 0 (.slice none 0 0) wo) := ⟨by
        have e : k = N := by have := HK.out; omega
        have h := HP.out
        rw [e] at h
        exact h.to2⟩
      clear hk HP HK
      go_wp2
      go_loopw [5, 6, 7] (fun v5 v6 _ wr => ∃ k : Nat, v6 = .int .i64 k ∧ Aside0 (k ≤ N) ∧ Aside0 (Qh2 N v n w gl curL k v5 wr)) (fun _ v6 _ _ => N - (intOf v6).toNat)
      case atStart => exact ⟨0, rfl, ⟨Nat.zero_le _⟩, HP2⟩
      case round =>
        clear HP2 t1 t2
        obtain ⟨k, rfl, HK, HP⟩ := hrel
        obtain ⟨wo, rfl⟩ : ∃ wo : World, wo = wr := ⟨_, rfl⟩
        by_cases hk : k < N
        · have t1 : decide ((k : Int) < (N : Int)) = true := decide_eq_true (by omega)
          have t2 : decide (k < N) = true := decide_eq_true hk
          have hk1 : (0 : Int) ≤ (k : Int) := by omega
          have hk2 : (k : Int) < (N : Int) := by omega
          obtain ⟨A, cp, hv⟩ := SH.out k hk
          obtain ⟨A5, c5, rfl⟩ := HP.out.shape5
          have q0 := HP.out.lo.cell (HL.out k hk)
          rw [hv] at q0
          have HKK := Aside0.mk hk
          have HWk : Aside0 (wrap64 ((k : Int) + 1) = ((k + 1 : Nat) : Int)) := ⟨by have := HNN.out.1; unfold wrap64; omega⟩
          have HP0 : Aside0 (Qh2i N v n w gl curL k (.slice A5 k c5) 0 (.slice A (n k) cp) wo) := ⟨by rw [← hv]; exact HP.out.begin hk⟩
          have HV := Aside0.mk hv
          clear hk hv HP
          go_wp2
          go_loopw [7, 8] (fun v7 v8 wr => ∃ i : Nat, v8 = .int .i64 i ∧ Aside0 (i ≤ 64) ∧ Aside0 (Qh2i N v n w gl curL k (.slice A5 k c5) i v7 wr)) (fun _ v8 _ => 64 - (intOf v8).toNat)
          case atStart => exact ⟨0, rfl, ⟨Nat.zero_le _⟩, HP0⟩
          case round =>
            clear HP0 q0
            obtain ⟨i, rfl, HI, HPi⟩ := hrel
            obtain ⟨wi, rfl⟩ : ∃ wi : World, wi = wr := ⟨_, rfl⟩
            have q0 := HPi.out.lo.cell (HL.out k HKK.out)
            rw [HV.out] at q0
            obtain ⟨A7, c7, rfl⟩ := (HPi.out.row HKK.out).shape
            by_cases hi : i < 64
            · have s1 : decide ((i : Int) < 64) = true := decide_eq_true (by omega)
              have s2 : decide (i < 64) = true := decide_eq_true hi
              have HI2 := Aside0.mk hi
              have HWi : Aside0 (wrap64 ((i : Int) + 1) = ((i + 1 : Nat) : Int)) := ⟨by unfold wrap64; omega⟩
              have HWs : Aside0 (wrap64 ((n k : Int) + (i : Int)) = ((n k + i : Nat) : Int)) := ⟨by have := HNN.out.2 k HKK.out; unfold wrap64; omega⟩
              have HBd : Aside0 ((n k + i + 1) * 8 ≤ 140737488355328) := ⟨by have := HNN.out.2 k HKK.out; omega⟩
              clear hi
              go_wp2_with (first
                | (go_at_call 19; refine (MK.out _ _ _).mono ?_; rintro e w9 ⟨rfl, hb9⟩; have HPn := Aside0.mk (HPi.out.below hb9); clear HPi q0 hb9; have HPi := HPn; clear HPn)
                | ((with_reducible refine gate_dst (N := 64) rfl ?_); refine ev_lit1 rfl (.int .i64 (mkJ ((k : Int)) (wrap64 ((n k : Int) + (i : Int))))) 3 ?hr ?_; (case hr => first | (go_simp; done) | (go_simp; rfl)); intro g10 w10 G10 B10 K10; have HPn := Aside0.mk (HPi.out.below K10.out); clear HPi K10 G10; have HPi := HPn; clear HPn)
                | ((with_reducible refine gate_dst (N := 65) rfl ?_); refine ev_append2 rfl _ _ 23 3 (.int .i64 0) 8 rfl Tryd.underlying23 (by kernel_rfl) rfl (by decide) _ (n k + i) _ (HPi.out.row HKK.out) rfl ⟨g10, 0, none⟩ 1 1 [.int .i64 (mkJ ((k : Int)) (wrap64 ((n k : Int) + (i : Int))))] rfl rfl (by decide) (lit_news B10) (lit_one rfl) HBd.out ?_; intro v11 w11 hA; have HPn := Aside0.mk (HPi.out.grow HKK.out (by have h := hA.out; rw [HWs.out] at h; exact h)); clear HPi B10 hA; have HPi := HPn; clear HPn))
              go_roundw
              case rel => exact ⟨i + 1, by rw [HWi.out], ⟨HI2.out⟩, HPi⟩
              case measure => have := HI2.out; rw [HWi.out]; simp [intOf]; omega
            · have s1 : decide ((i : Int) < 64) = false := decide_eq_false (by omega)
              have s2 : decide (i < 64) = false := decide_eq_false hi
              obtain rfl : i = 64 := by have := HI.out; omega
              have HBd : Aside0 ((k + 1) * 24 ≤ 140737488355328) := ⟨by have := HNN.out.1; have := HKK.out; omega⟩
              clear hi
              go_wp2_with (first
                | ((with_reducible refine gate_dst (N := 68) rfl ?_); refine ev_lit1 rfl (.slice A7 (n k + 64) c7) 23 ?hr ?_; (case hr => first | (go_simp; done) | (go_simp; rfl)); intro g10 w10 G10 B10 K10; have HPn := Aside0.mk (HPi.out.below K10.out); clear HPi K10 G10; have HPi := HPn; clear HPn)
                | ((with_reducible refine gate_dst (N := 69) rfl ?_); obtain ⟨xs, hxs, hfin⟩ := HPi.out.fin HKK.out; refine ev_append2 rfl _ _ 34 23 (.slice none 0 0) 24 rfl Tryd.underlying34 (by kernel_rfl) rfl (by decide) _ k _ hxs rfl ⟨g10, 0, none⟩ 1 1 [.slice A7 (n k + 64) c7] rfl rfl (by decide) (lit_news B10) (lit_one rfl) HBd.out ?_; intro v11 w11 hA; have HPk := Aside0.mk (hfin _ _ hA.out); clear HPi B10 hA hfin hxs))
              go_roundw
              case rel => exact ⟨k + 1, by rw [HWk.out], ⟨HKK.out⟩, HPk⟩
              case measure => have := HKK.out; rw [HWk.out]; simp [intOf]; omega
        · have t1 : decide ((k : Int) < (N : Int)) = false := decide_eq_false (by omega)
          have t2 : decide (k < N) = false := decide_eq_false hk
          have HP3 : Aside0 (Qh2 N v n w gl curL N u5 wo) := ⟨by
            have e : k = N := by have := HK.out; omega
            have h := HP.out
            rw [e] at h
            exact h⟩
          clear hk HP HK
          obtain ⟨A5, c5, rfl⟩ := HP3.out.shape5
          go_wp2
          go_loopw [9] (fun v9 wr => ∃ k : Nat, v9 = .int .i64 k ∧ Aside0 (k ≤ N) ∧ Aside0 (Qh2 N v n w gl curL N (.slice A5 N c5) wr)) (fun v9 _ => N - (intOf v9).toNat)
          case atStart => exact ⟨0, rfl, ⟨Nat.zero_le _⟩, HP3⟩
          case round =>
            clear HP3 t1 t2
            obtain ⟨k, rfl, HK, HP⟩ := hrel
            obtain ⟨wo, rfl⟩ : ∃ wo : World, wo = wr := ⟨_, rfl⟩
            by_cases hk : k < N
            · have t1 : decide ((k : Int) < (N : Int)) = true := decide_eq_true (by omega)
              have t2 : decide (k < N) = true := decide_eq_true hk
              have hk1 : (0 : Int) ≤ (k : Int) := by omega
              have hk2 : (k : Int) < (N : Int) := by omega
              obtain ⟨A, cp, hv⟩ := SH.out k hk
              have q0 := HP.out.lo.cell (HL.out k hk)
              rw [hv] at q0
              clear q0
              have HKK := Aside0.mk hk
              have HWk : Aside0 (wrap64 ((k : Int) + 1) = ((k + 1 : Nat) : Int)) := ⟨by have := HNN.out.1; unfold wrap64; omega⟩
              have HV := Aside0.mk hv
              obtain ⟨M, hM⟩ : ∃ M, M = n k + 64 := ⟨_, rfl⟩
              have HM := Aside0.mk hM
              clear hk hv hM
              go_wp2
              go_loopw [10] (fun v10 wr => ∃ i : Nat, v10 = .int .i64 i ∧ Aside0 (i ≤ M) ∧ Aside0 (Qh2 N v n w gl curL N (.slice A5 N c5) wr)) (fun v10 _ => M - (intOf v10).toNat)
              case atStart => exact ⟨0, rfl, ⟨Nat.zero_le _⟩, HP⟩
              case round =>
                clear HP
                obtain ⟨i, rfl, HI, HPi⟩ := hrel
                obtain ⟨wi, rfl⟩ : ∃ wi : World, wi = wr := ⟨_, rfl⟩
                obtain ⟨g5, c5', AG, cg, e5, qg, hel⟩ := HPi.out.look HKK.out
                injection e5 with e5 _ e6
                subst e5 e6
                rw [← HM.out] at qg hel
                by_cases hi : i < M
                · have s1 : decide ((i : Int) < (M : Int)) = true := decide_eq_true (by omega); have s2 : decide (i < M) = true := decide_eq_true hi
                  have hi1 : (0 : Int) ≤ (i : Int) := by omega
                  have hi2 : (i : Int) < (M : Int) := by omega
                  have HWi : Aside0 (wrap64 ((i : Int) + 1) = ((i + 1 : Nat) : Int)) := ⟨by have := HNN.out.2 k HKK.out; have := HM.out; unfold wrap64; omega⟩
                  have HI2 := Aside0.mk hi
                  obtain ⟨gg, rfl, q2⟩ := hel i hi
                  unfold mkw at q2
                  clear hel hi
                  have q0 := HPi.out.lo.cell (HL.out k HKK.out)
                  by_cases hj : i < n k
                  · have r1 : decide ((i : Int) < (n k : Int)) = true := decide_eq_true (by omega)
                    have r2 : decide (i < n k) = true := decide_eq_true hj
                    have hj2 : (i : Int) < (n k : Int) := by omega
                    obtain ⟨g, cap, hv1, q3⟩ := HPi.out.lsAt HKK.out hj
                    rw [hv1] at q0
                    unfold mkw at q3
                    clear hv1 hj
                    go_upto_region 24 with (fail)
                    have HPn := Aside0.mk (HPi.out.below (below_drew (Below.refl _ _)))
                    have z0 := pw_cell_below (below_drew (Below.refl _ _)) q0
                    have z1 := pw_cell_below (below_drew (Below.refl _ _)) qg
                    have z2 := pw_cell_below (below_drew (Below.refl _ _)) q2
                    have z3 := pw_cell_below (below_drew (Below.refl _ _)) q3
                    clear HPi q0 qg q2 q3
                    have HPi := HPn
                    have q0 := z0
                    have qg := z1
                    have q2 := z2
                    have q3 := z3
                    clear HPn z0 z1 z2 z3
                    refine wp_region_noPanic ?_
                    refine wp_region_last_drew (S := fun W' => W'.cell? ⟨gl, k, none⟩ = some (.slice (some ⟨g, 0, none⟩) (n k) cap) ∧ W'.cell? ⟨g5, k, none⟩ = some (.slice (some ⟨gg, 0, none⟩) M cg) ∧ W'.cell? ⟨gg, i, none⟩ = some (.int .i64 (mkJ ((k : Int)) ((i : Int)))) ∧ W'.cell? ⟨g, i, none⟩ = some (.int .i64 (mkJ ((k : Int)) ((i : Int))))) (ds := []) (by kernel_rfl) ⟨q0, qg, q2, q3⟩ (fun hS => ?_)
                    refine' wpAnyLast_take (i := 0) (oi := Oper.mk _ _ _ _ _ _) rfl (by kernel_rfl) (by kernel_rfl) (by kernel_rfl) (by kernel_rfl) (by kernel_rfl) (fun _ _ _ h => h) (Or.inl ⟨by rfl, ?hy1⟩) hS ?rest1
                    case hy1 => (intro w hSw; (try dsimp only at hSw); first | (go_simp; done) | (go_simp; with_reducible rfl))
                    try simp only [Act.put, List.setIfInBounds_toArray, List.set_cons_zero, List.set_cons_succ]
                    refine' wpAnyLast_take (i := 1) (oi := Oper.mk _ _ _ _ _ _) rfl (by kernel_rfl) (by kernel_rfl) (by kernel_rfl) (by kernel_rfl) (by kernel_rfl) (fun _ _ _ h => h) (Or.inl ⟨by rfl, ?hy2⟩) hS ?rest2
                    case hy2 => (intro w hSw; (try dsimp only at hSw); first | (go_simp; done) | (go_simp; with_reducible rfl))
                    try simp only [Act.put, List.setIfInBounds_toArray, List.set_cons_zero, List.set_cons_succ]
                    refine' wpAnyLast_take (i := 2) (oi := Oper.mk _ _ _ _ _ _) rfl (by kernel_rfl) (by kernel_rfl) (by kernel_rfl) (by kernel_rfl) (by kernel_rfl) (fun _ _ _ h => h) (Or.inl ⟨by rfl, ?hy3⟩) hS ?rest3
                    case hy3 => (intro w hSw; (try dsimp only at hSw); first | (go_simp; done) | (go_simp; with_reducible rfl))
                    try simp only [Act.put, List.setIfInBounds_toArray, List.set_cons_zero, List.set_cons_succ]
                    refine wpAnyLast_take (i := 3) (oi := Oper.mk _ _ _ _ _ _) rfl (by kernel_rfl) (by kernel_rfl) (by kernel_rfl) (by kernel_rfl) (by kernel_rfl) (fun _ _ _ h => h) (rg_load1 (by rfl) (fun _ hS => hS.2.1) 23 _ rfl rfl (fun _ => by simp [isAgg, run_underlying Tryd.underlying23])) hS ?_
                    try simp only [Act.put, List.setIfInBounds_toArray, List.set_cons_zero, List.set_cons_succ]
                    refine' wpAnyLast_take (i := 4) (oi := Oper.mk _ _ _ _ _ _) rfl (by kernel_rfl) (by kernel_rfl) (by kernel_rfl) (by kernel_rfl) (by kernel_rfl) (fun _ _ _ h => h) (Or.inl ⟨by rfl, ?hy4⟩) hS ?rest4
                    case hy4 => (intro w hSw; (try dsimp only at hSw); first | (go_simp; done) | (go_simp; with_reducible rfl))
                    try simp only [Act.put, List.setIfInBounds_toArray, List.set_cons_zero, List.set_cons_succ]
                    refine' wpAnyLast_take (i := 5) (oi := Oper.mk _ _ _ _ _ _) rfl (by kernel_rfl) (by kernel_rfl) (by kernel_rfl) (by kernel_rfl) (by kernel_rfl) (fun _ _ _ h => h) (Or.inl ⟨by rfl, ?hy5⟩) hS ?rest5
                    case hy5 => (intro w hSw; (try dsimp only at hSw); first | (go_simp; done) | (go_simp; with_reducible rfl))
                    try simp only [Act.put, List.setIfInBounds_toArray, List.set_cons_zero, List.set_cons_succ]
                    refine wpAnyLast_take (i := 6) (oi := Oper.mk _ _ _ _ _ _) rfl (by kernel_rfl) (by kernel_rfl) (by kernel_rfl) (by kernel_rfl) (by kernel_rfl) (fun _ _ _ h => h) (rg_load1 (by rfl) (fun _ hS => hS.2.2.1) 3 _ rfl rfl (fun _ => by simp [isAgg, run_underlying Tryd.underlying3])) hS ?_
                    try simp only [Act.put, List.setIfInBounds_toArray, List.set_cons_zero, List.set_cons_succ]
                    refine' wpAnyLast_take (i := 7) (oi := Oper.mk _ _ _ _ _ _) rfl (by kernel_rfl) (by kernel_rfl) (by kernel_rfl) (by kernel_rfl) (by kernel_rfl) (fun _ _ _ h => h) (Or.inl ⟨by rfl, ?hy6⟩) hS ?rest6
                    case hy6 => (intro w hSw; (try dsimp only at hSw); first | (go_simp; done) | (go_simp; with_reducible rfl))
                    try simp only [Act.put, List.setIfInBounds_toArray, List.set_cons_zero, List.set_cons_succ]
                    refine' wpAnyLast_take (i := 8) (oi := Oper.mk _ _ _ _ _ _) rfl (by kernel_rfl) (by kernel_rfl) (by kernel_rfl) (by kernel_rfl) (by kernel_rfl) (fun _ _ _ h => h) (Or.inl ⟨by rfl, ?hy7⟩) hS ?rest7
                    case hy7 => (intro w hSw; (try dsimp only at hSw); first | (go_simp; done) | (go_simp; with_reducible rfl))
                    try simp only [Act.put, List.setIfInBounds_toArray, List.set_cons_zero, List.set_cons_succ]
                    refine wpAnyLast_ready (rs := [9]) (by kernel_rfl) (by simp) ?_
                    refine AllReadyL.cons (o := Oper.mk _ _ _ _ _ _) rfl (by decide) (fun K hK => ?_) ?_
                    · refine rg_call (by rfl) _ _ (.int .i64 (mkJ (k : Int) (i : Int))) (by first | (go_simp; done) | (go_simp; rfl)) (MK.out _ _ _) ?_
                      intro W' hb
                      have HPn := Aside0.mk (HPi.out.below hb.out)
                      have z0 := pw_cell_below hb.out q0
                      have z1 := pw_cell_below hb.out qg
                      have z2 := pw_cell_below hb.out q2
                      have z3 := pw_cell_below hb.out q3
                      clear HPi q0 qg q2 q3
                      have HPi := HPn
                      have q0 := z0
                      have qg := z1
                      have q2 := z2
                      have q3 := z3
                      clear HPn z0 z1 z2 z3
                      refine hK.out _ _ ⟨q0, qg, q2, q3⟩ (fun hS => ?_)
                      clear hK K hb
                      try simp only [Act.put, List.setIfInBounds_toArray, List.set_cons_zero, List.set_cons_succ]
                      refine' wpAnyLast_take (i := 10) (oi := Oper.mk _ _ _ _ _ _) rfl (by kernel_rfl) (by kernel_rfl) (by kernel_rfl) (by kernel_rfl) (by kernel_rfl) (fun _ _ _ h => h) (Or.inl ⟨by rfl, ?hy8⟩) hS ?rest8
                      case hy8 => (intro w hSw; (try dsimp only at hSw); first | (go_simp; done) | (go_simp; with_reducible rfl))
                      try simp only [Act.put, List.setIfInBounds_toArray, List.set_cons_zero, List.set_cons_succ]
                      refine' wpAnyLast_take (i := 11) (oi := Oper.mk _ _ _ _ _ _) rfl (by kernel_rfl) (by kernel_rfl) (by kernel_rfl) (by kernel_rfl) (by kernel_rfl) (fun _ _ _ h => h) (Or.inl ⟨by rfl, ?hy9⟩) hS ?rest9
                      case hy9 => (intro w hSw; (try dsimp only at hSw); first | (go_simp; done) | (go_simp; with_reducible rfl))
                      try simp only [Act.put, List.setIfInBounds_toArray, List.set_cons_zero, List.set_cons_succ]
                      refine' wpAnyLast_take (i := 12) (oi := Oper.mk _ _ _ _ _ _) rfl (by kernel_rfl) (by kernel_rfl) (by kernel_rfl) (by kernel_rfl) (by kernel_rfl) (fun _ _ _ h => h) (Or.inl ⟨by rfl, ?hy10⟩) hS ?rest10
                      case hy10 => (intro w hSw; (try dsimp only at hSw); first | (go_simp; done) | (go_simp; with_reducible rfl))
                      try simp only [Act.put, List.setIfInBounds_toArray, List.set_cons_zero, List.set_cons_succ]
                      refine' wpAnyLast_take (i := 13) (oi := Oper.mk _ _ _ _ _ _) rfl (by kernel_rfl) (by kernel_rfl) (by kernel_rfl) (by kernel_rfl) (by kernel_rfl) (fun _ _ _ h => h) (Or.inl ⟨by rfl, ?hy11⟩) hS ?rest11
                      case hy11 => (intro w hSw; (try dsimp only at hSw); first | (go_simp; done) | (go_simp; with_reducible rfl))
                      try simp only [Act.put, List.setIfInBounds_toArray, List.set_cons_zero, List.set_cons_succ]
                      refine' wpAnyLast_take (i := 14) (oi := Oper.mk _ _ _ _ _ _) rfl (by kernel_rfl) (by kernel_rfl) (by kernel_rfl) (by kernel_rfl) (by kernel_rfl) (fun _ _ _ h => h) (Or.inl ⟨by rfl, ?hy12⟩) hS ?rest12
                      case hy12 => (intro w hSw; (try dsimp only at hSw); first | (go_simp; done) | (go_simp; with_reducible rfl))
                      try simp only [Act.put, List.setIfInBounds_toArray, List.set_cons_zero, List.set_cons_succ]
                      refine' wpAnyLast_take (i := 15) (oi := Oper.mk _ _ _ _ _ _) rfl (by kernel_rfl) (by kernel_rfl) (by kernel_rfl) (by kernel_rfl) (by kernel_rfl) (fun _ _ _ h => h) (Or.inl ⟨by rfl, ?hy13⟩) hS ?rest13
                      case hy13 => (intro w hSw; (try dsimp only at hSw); first | (go_simp; done) | (go_simp; with_reducible rfl))
                      try simp only [Act.put, List.setIfInBounds_toArray, List.set_cons_zero, List.set_cons_succ]
                      refine' wpAnyLast_take (i := 16) (oi := Oper.mk _ _ _ _ _ _) rfl (by kernel_rfl) (by kernel_rfl) (by kernel_rfl) (by kernel_rfl) (by kernel_rfl) (fun _ _ _ h => h) (Or.inl ⟨by rfl, ?hy14⟩) hS ?rest14
                      case hy14 => (intro w hSw; (try dsimp only at hSw); first | (go_simp; done) | (go_simp; with_reducible rfl))
                      try simp only [Act.put, List.setIfInBounds_toArray, List.set_cons_zero, List.set_cons_succ]
                      refine wpAnyLast_take (i := 17) (oi := Oper.mk _ _ _ _ _ _) rfl (by kernel_rfl) (by kernel_rfl) (by kernel_rfl) (by kernel_rfl) (by kernel_rfl) (fun _ _ _ h => h) (rg_load1 (by rfl) (fun _ hS => hS.1) 23 _ rfl rfl (fun _ => by simp [isAgg, run_underlying Tryd.underlying23])) hS ?_
                      try simp only [Act.put, List.setIfInBounds_toArray, List.set_cons_zero, List.set_cons_succ]
                      refine' wpAnyLast_take (i := 18) (oi := Oper.mk _ _ _ _ _ _) rfl (by kernel_rfl) (by kernel_rfl) (by kernel_rfl) (by kernel_rfl) (by kernel_rfl) (fun _ _ _ h => h) (Or.inl ⟨by rfl, ?hy15⟩) hS ?rest15
                      case hy15 => (intro w hSw; (try dsimp only at hSw); first | (go_simp; done) | (go_simp; with_reducible rfl))
                      try simp only [Act.put, List.setIfInBounds_toArray, List.set_cons_zero, List.set_cons_succ]
                      refine' wpAnyLast_take (i := 19) (oi := Oper.mk _ _ _ _ _ _) rfl (by kernel_rfl) (by kernel_rfl) (by kernel_rfl) (by kernel_rfl) (by kernel_rfl) (fun _ _ _ h => h) (Or.inl ⟨by rfl, ?hy16⟩) hS ?rest16
                      case hy16 => (intro w hSw; (try dsimp only at hSw); first | (go_simp; done) | (go_simp; with_reducible rfl))
                      try simp only [Act.put, List.setIfInBounds_toArray, List.set_cons_zero, List.set_cons_succ]
                      refine' wpAnyLast_take (i := 20) (oi := Oper.mk _ _ _ _ _ _) rfl (by kernel_rfl) (by kernel_rfl) (by kernel_rfl) (by kernel_rfl) (by kernel_rfl) (fun _ _ _ h => h) (Or.inl ⟨by rfl, ?hy17⟩) hS ?rest17
                      case hy17 => (intro w hSw; (try dsimp only at hSw); first | (go_simp; done) | (go_simp; with_reducible rfl))
                      try simp only [Act.put, List.setIfInBounds_toArray, List.set_cons_zero, List.set_cons_succ]
                      refine' wpAnyLast_take (i := 21) (oi := Oper.mk _ _ _ _ _ _) rfl (by kernel_rfl) (by kernel_rfl) (by kernel_rfl) (by kernel_rfl) (by kernel_rfl) (fun _ _ _ h => h) (Or.inl ⟨by rfl, ?hy18⟩) hS ?rest18
                      case hy18 => (intro w hSw; (try dsimp only at hSw); first | (go_simp; done) | (go_simp; with_reducible rfl))
                      try simp only [Act.put, List.setIfInBounds_toArray, List.set_cons_zero, List.set_cons_succ]
                      refine' wpAnyLast_take (i := 22) (oi := Oper.mk _ _ _ _ _ _) rfl (by kernel_rfl) (by kernel_rfl) (by kernel_rfl) (by kernel_rfl) (by kernel_rfl) (fun _ _ _ h => h) (Or.inl ⟨by rfl, ?hy19⟩) hS ?rest19
                      case hy19 => (intro w hSw; (try dsimp only at hSw); first | (go_simp; done) | (go_simp; with_reducible rfl))
                      try simp only [Act.put, List.setIfInBounds_toArray, List.set_cons_zero, List.set_cons_succ]
                      refine' wpAnyLast_take (i := 23) (oi := Oper.mk _ _ _ _ _ _) rfl (by kernel_rfl) (by kernel_rfl) (by kernel_rfl) (by kernel_rfl) (by kernel_rfl) (fun _ _ _ h => h) (Or.inl ⟨by rfl, ?hy20⟩) hS ?rest20
                      case hy20 => (intro w hSw; (try dsimp only at hSw); first | (go_simp; done) | (go_simp; with_reducible rfl))
                      try simp only [Act.put, List.setIfInBounds_toArray, List.set_cons_zero, List.set_cons_succ]
                      refine wpAnyLast_take (i := 24) (oi := Oper.mk _ _ _ _ _ _) rfl (by kernel_rfl) (by kernel_rfl) (by kernel_rfl) (by kernel_rfl) (by kernel_rfl) (fun _ _ _ h => h) (rg_load1 (by rfl) (fun _ hS => hS.1) 23 _ rfl rfl (fun _ => by simp [isAgg, run_underlying Tryd.underlying23])) hS ?_
                      try simp only [Act.put, List.setIfInBounds_toArray, List.set_cons_zero, List.set_cons_succ]
                      refine' wpAnyLast_take (i := 25) (oi := Oper.mk _ _ _ _ _ _) rfl (by kernel_rfl) (by kernel_rfl) (by kernel_rfl) (by kernel_rfl) (by kernel_rfl) (fun _ _ _ h => h) (Or.inl ⟨by rfl, ?hy21⟩) hS ?rest21
                      case hy21 => (intro w hSw; (try dsimp only at hSw); first | (go_simp; done) | (go_simp; with_reducible rfl))
                      try simp only [Act.put, List.setIfInBounds_toArray, List.set_cons_zero, List.set_cons_succ]
                      refine' wpAnyLast_take (i := 26) (oi := Oper.mk _ _ _ _ _ _) rfl (by kernel_rfl) (by kernel_rfl) (by kernel_rfl) (by kernel_rfl) (by kernel_rfl) (fun _ _ _ h => h) (Or.inl ⟨by rfl, ?hy22⟩) hS ?rest22
                      case hy22 => (intro w hSw; (try dsimp only at hSw); first | (go_simp; done) | (go_simp; with_reducible rfl))
                      try simp only [Act.put, List.setIfInBounds_toArray, List.set_cons_zero, List.set_cons_succ]
                      refine wpAnyLast_take (i := 27) (oi := Oper.mk _ _ _ _ _ _) rfl (by kernel_rfl) (by kernel_rfl) (by kernel_rfl) (by kernel_rfl) (by kernel_rfl) (fun _ _ _ h => h) (rg_load1 (by rfl) (fun _ hS => hS.2.2.2) 3 _ rfl rfl (fun _ => by simp [isAgg, run_underlying Tryd.underlying3])) hS ?_
                      try simp only [Act.put, List.setIfInBounds_toArray, List.set_cons_zero, List.set_cons_succ]
                      refine' wpAnyLast_take (i := 28) (oi := Oper.mk _ _ _ _ _ _) rfl (by kernel_rfl) (by kernel_rfl) (by kernel_rfl) (by kernel_rfl) (by kernel_rfl) (fun _ _ _ h => h) (Or.inl ⟨by rfl, ?hy23⟩) hS ?rest23
                      case hy23 => (intro w hSw; (try dsimp only at hSw); first | (go_simp; done) | (go_simp; with_reducible rfl))
                      try simp only [Act.put, List.setIfInBounds_toArray, List.set_cons_zero, List.set_cons_succ]
                      refine' wpAnyLast_take (i := 29) (oi := Oper.mk _ _ _ _ _ _) rfl (by kernel_rfl) (by kernel_rfl) (by kernel_rfl) (by kernel_rfl) (by kernel_rfl) (fun _ _ _ h => h) (Or.inl ⟨by rfl, ?hy24⟩) hS ?rest24
                      case hy24 => (intro w hSw; (try dsimp only at hSw); first | (go_simp; done) | (go_simp; with_reducible rfl))
                      try simp only [Act.put, List.setIfInBounds_toArray, List.set_cons_zero, List.set_cons_succ]
                      refine wpAnyLast_ready (rs := [30]) (by kernel_rfl) (by simp) ?_
                      refine AllReadyL.cons (o := Oper.mk _ _ _ _ _ _) rfl (by decide) (fun K hK => ?_) ?_
                      · refine rg_call (by rfl) _ _ (.int .i64 (mkJ (k : Int) (i : Int))) (by first | (go_simp; done) | (go_simp; rfl)) (MK.out _ _ _) ?_
                        intro W' hb
                        have HPn := Aside0.mk (HPi.out.below hb.out)
                        have z0 := pw_cell_below hb.out q0
                        have z1 := pw_cell_below hb.out qg
                        have z2 := pw_cell_below hb.out q2
                        have z3 := pw_cell_below hb.out q3
                        clear HPi q0 qg q2 q3
                        have HPi := HPn
                        have q0 := z0
                        have qg := z1
                        have q2 := z2
                        have q3 := z3
                        clear HPn z0 z1 z2 z3
                        refine hK.out _ _ ⟨q0, qg, q2, q3⟩ (fun hS => ?_)
                        clear hK K hb
                        try simp only [Act.put, List.setIfInBounds_toArray, List.set_cons_zero, List.set_cons_succ]
                        refine' wpAnyLast_take (i := 31) (oi := Oper.mk _ _ _ _ _ _) rfl (by kernel_rfl) (by kernel_rfl) (by kernel_rfl) (by kernel_rfl) (by kernel_rfl) (fun _ _ _ h => h) (Or.inl ⟨by rfl, ?hy25⟩) hS ?rest25
                        case hy25 => (intro w hSw; (try dsimp only at hSw); first | (go_simp; done) | (go_simp; with_reducible rfl))
                        try simp only [Act.put, List.setIfInBounds_toArray, List.set_cons_zero, List.set_cons_succ]
                        refine' wpAnyLast_take (i := 32) (oi := Oper.mk _ _ _ _ _ _) rfl (by kernel_rfl) (by kernel_rfl) (by kernel_rfl) (by kernel_rfl) (by kernel_rfl) (fun _ _ _ h => h) (Or.inl ⟨by rfl, ?hy26⟩) hS ?rest26
                        case hy26 => (intro w hSw; (try dsimp only at hSw); first | (go_simp; done) | (go_simp; with_reducible rfl))
                        try simp only [Act.put, List.setIfInBounds_toArray, List.set_cons_zero, List.set_cons_succ]
                        refine' wpAnyLast_take (i := 33) (oi := Oper.mk _ _ _ _ _ _) rfl (by kernel_rfl) (by kernel_rfl) (by kernel_rfl) (by kernel_rfl) (by kernel_rfl) (fun _ _ _ h => h) (Or.inl ⟨by rfl, ?hy27⟩) hS ?rest27
                        case hy27 => (intro w hSw; (try dsimp only at hSw); first | (go_simp; done) | (go_simp; with_reducible rfl))
                        try simp only [Act.put, List.setIfInBounds_toArray, List.set_cons_zero, List.set_cons_succ]
                        refine' wpAnyLast_take (i := 34) (oi := Oper.mk _ _ _ _ _ _) rfl (by kernel_rfl) (by kernel_rfl) (by kernel_rfl) (by kernel_rfl) (by kernel_rfl) (fun _ _ _ h => h) (Or.inl ⟨by rfl, ?hy28⟩) hS ?rest28
                        case hy28 => (intro w hSw; (try dsimp only at hSw); first | (go_simp; done) | (go_simp; with_reducible rfl))
                        try simp only [Act.put, List.setIfInBounds_toArray, List.set_cons_zero, List.set_cons_succ]
                        refine wpAnyLast_done (by kernel_rfl) ?_ _
                        refine NoPanic.normal ?_
                        go_wp2
                        go_roundw
                        case rel => exact ⟨i + 1, by rw [HWi.out], ⟨HI2.out⟩, HPi⟩
                        case measure => have := HI2.out; rw [HWi.out]; simp [intOf]; omega
                      exact AllReadyL.nil
                    exact AllReadyL.nil
                  · have r1 : decide ((i : Int) < (n k : Int)) = false := decide_eq_false (by omega)
                    have r2 : decide (i < n k) = false := decide_eq_false hj
                    rw [HV.out] at q0
                    clear hj
                    go_upto_region 24 with (fail)
                    have HPn := Aside0.mk (HPi.out.below (below_drew (Below.refl _ _)))
                    have z0 := pw_cell_below (below_drew (Below.refl _ _)) q0
                    have z1 := pw_cell_below (below_drew (Below.refl _ _)) qg
                    have z2 := pw_cell_below (below_drew (Below.refl _ _)) q2
                    clear HPi q0 qg q2
                    have HPi := HPn
                    have q0 := z0
                    have qg := z1
                    have q2 := z2
                    clear HPn z0 z1 z2
                    refine wp_region_noPanic ?_
                    refine wp_region_last_drew (S := fun W' => W'.cell? ⟨gl, k, none⟩ = some (.slice A (n k) cp) ∧ W'.cell? ⟨g5, k, none⟩ = some (.slice (some ⟨gg, 0, none⟩) M cg) ∧ W'.cell? ⟨gg, i, none⟩ = some (.int .i64 (mkJ ((k : Int)) ((i : Int))))) (ds := []) (by kernel_rfl) ⟨q0, qg, q2⟩ (fun hS => ?_)
                    refine' wpAnyLast_take (i := 0) (oi := Oper.mk _ _ _ _ _ _) rfl (by kernel_rfl) (by kernel_rfl) (by kernel_rfl) (by kernel_rfl) (by kernel_rfl) (fun _ _ _ h => h) (Or.inl ⟨by rfl, ?hy29⟩) hS ?rest29
                    case hy29 => (intro w hSw; (try dsimp only at hSw); first | (go_simp; done) | (go_simp; with_reducible rfl))
                    try simp only [Act.put, List.setIfInBounds_toArray, List.set_cons_zero, List.set_cons_succ]
                    refine' wpAnyLast_take (i := 1) (oi := Oper.mk _ _ _ _ _ _) rfl (by kernel_rfl) (by kernel_rfl) (by kernel_rfl) (by kernel_rfl) (by kernel_rfl) (fun _ _ _ h => h) (Or.inl ⟨by rfl, ?hy30⟩) hS ?rest30
                    case hy30 => (intro w hSw; (try dsimp only at hSw); first | (go_simp; done) | (go_simp; with_reducible rfl))
                    try simp only [Act.put, List.setIfInBounds_toArray, List.set_cons_zero, List.set_cons_succ]
                    refine' wpAnyLast_take (i := 2) (oi := Oper.mk _ _ _ _ _ _) rfl (by kernel_rfl) (by kernel_rfl) (by kernel_rfl) (by kernel_rfl) (by kernel_rfl) (fun _ _ _ h => h) (Or.inl ⟨by rfl, ?hy31⟩) hS ?rest31
                    case hy31 => (intro w hSw; (try dsimp only at hSw); first | (go_simp; done) | (go_simp; with_reducible rfl))
                    try simp only [Act.put, List.setIfInBounds_toArray, List.set_cons_zero, List.set_cons_succ]
                    refine wpAnyLast_take (i := 3) (oi := Oper.mk _ _ _ _ _ _) rfl (by kernel_rfl) (by kernel_rfl) (by kernel_rfl) (by kernel_rfl) (by kernel_rfl) (fun _ _ _ h => h) (rg_load1 (by rfl) (fun _ hS => hS.2.1) 23 _ rfl rfl (fun _ => by simp [isAgg, run_underlying Tryd.underlying23])) hS ?_
                    try simp only [Act.put, List.setIfInBounds_toArray, List.set_cons_zero, List.set_cons_succ]
                    refine' wpAnyLast_take (i := 4) (oi := Oper.mk _ _ _ _ _ _) rfl (by kernel_rfl) (by kernel_rfl) (by kernel_rfl) (by kernel_rfl) (by kernel_rfl) (fun _ _ _ h => h) (Or.inl ⟨by rfl, ?hy32⟩) hS ?rest32
                    case hy32 => (intro w hSw; (try dsimp only at hSw); first | (go_simp; done) | (go_simp; with_reducible rfl))
                    try simp only [Act.put, List.setIfInBounds_toArray, List.set_cons_zero, List.set_cons_succ]
                    refine' wpAnyLast_take (i := 5) (oi := Oper.mk _ _ _ _ _ _) rfl (by kernel_rfl) (by kernel_rfl) (by kernel_rfl) (by kernel_rfl) (by kernel_rfl) (fun _ _ _ h => h) (Or.inl ⟨by rfl, ?hy33⟩) hS ?rest33
                    case hy33 => (intro w hSw; (try dsimp only at hSw); first | (go_simp; done) | (go_simp; with_reducible rfl))
                    try simp only [Act.put, List.setIfInBounds_toArray, List.set_cons_zero, List.set_cons_succ]
                    refine wpAnyLast_take (i := 6) (oi := Oper.mk _ _ _ _ _ _) rfl (by kernel_rfl) (by kernel_rfl) (by kernel_rfl) (by kernel_rfl) (by kernel_rfl) (fun _ _ _ h => h) (rg_load1 (by rfl) (fun _ hS => hS.2.2) 3 _ rfl rfl (fun _ => by simp [isAgg, run_underlying Tryd.underlying3])) hS ?_
                    try simp only [Act.put, List.setIfInBounds_toArray, List.set_cons_zero, List.set_cons_succ]
                    refine' wpAnyLast_take (i := 7) (oi := Oper.mk _ _ _ _ _ _) rfl (by kernel_rfl) (by kernel_rfl) (by kernel_rfl) (by kernel_rfl) (by kernel_rfl) (fun _ _ _ h => h) (Or.inl ⟨by rfl, ?hy34⟩) hS ?rest34
                    case hy34 => (intro w hSw; (try dsimp only at hSw); first | (go_simp; done) | (go_simp; with_reducible rfl))
                    try simp only [Act.put, List.setIfInBounds_toArray, List.set_cons_zero, List.set_cons_succ]
                    refine' wpAnyLast_take (i := 8) (oi := Oper.mk _ _ _ _ _ _) rfl (by kernel_rfl) (by kernel_rfl) (by kernel_rfl) (by kernel_rfl) (by kernel_rfl) (fun _ _ _ h => h) (Or.inl ⟨by rfl, ?hy35⟩) hS ?rest35
                    case hy35 => (intro w hSw; (try dsimp only at hSw); first | (go_simp; done) | (go_simp; with_reducible rfl))
                    try simp only [Act.put, List.setIfInBounds_toArray, List.set_cons_zero, List.set_cons_succ]
                    refine wpAnyLast_ready (rs := [9]) (by kernel_rfl) (by simp) ?_
                    refine AllReadyL.cons (o := Oper.mk _ _ _ _ _ _) rfl (by decide) (fun K hK => ?_) ?_
                    · refine rg_call (by rfl) _ _ (.int .i64 (mkJ (k : Int) (i : Int))) (by first | (go_simp; done) | (go_simp; rfl)) (MK.out _ _ _) ?_
                      intro W' hb
                      have HPn := Aside0.mk (HPi.out.below hb.out)
                      have z0 := pw_cell_below hb.out q0
                      have z1 := pw_cell_below hb.out qg
                      have z2 := pw_cell_below hb.out q2
                      clear HPi q0 qg q2
                      have HPi := HPn
                      have q0 := z0
                      have qg := z1
                      have q2 := z2
                      clear HPn z0 z1 z2
                      refine hK.out _ _ ⟨q0, qg, q2⟩ (fun hS => ?_)
                      clear hK K hb
                      try simp only [Act.put, List.setIfInBounds_toArray, List.set_cons_zero, List.set_cons_succ]
                      refine' wpAnyLast_take (i := 10) (oi := Oper.mk _ _ _ _ _ _) rfl (by kernel_rfl) (by kernel_rfl) (by kernel_rfl) (by kernel_rfl) (by kernel_rfl) (fun _ _ _ h => h) (Or.inl ⟨by rfl, ?hy36⟩) hS ?rest36
                      case hy36 => (intro w hSw; (try dsimp only at hSw); first | (go_simp; done) | (go_simp; with_reducible rfl))
                      try simp only [Act.put, List.setIfInBounds_toArray, List.set_cons_zero, List.set_cons_succ]
                      refine' wpAnyLast_take (i := 11) (oi := Oper.mk _ _ _ _ _ _) rfl (by kernel_rfl) (by kernel_rfl) (by kernel_rfl) (by kernel_rfl) (by kernel_rfl) (fun _ _ _ h => h) (Or.inl ⟨by rfl, ?hy37⟩) hS ?rest37
                      case hy37 => (intro w hSw; (try dsimp only at hSw); first | (go_simp; done) | (go_simp; with_reducible rfl))
                      try simp only [Act.put, List.setIfInBounds_toArray, List.set_cons_zero, List.set_cons_succ]
                      refine' wpAnyLast_take (i := 12) (oi := Oper.mk _ _ _ _ _ _) rfl (by kernel_rfl) (by kernel_rfl) (by kernel_rfl) (by kernel_rfl) (by kernel_rfl) (fun _ _ _ h => h) (Or.inl ⟨by rfl, ?hy38⟩) hS ?rest38
                      case hy38 => (intro w hSw; (try dsimp only at hSw); first | (go_simp; done) | (go_simp; with_reducible rfl))
                      try simp only [Act.put, List.setIfInBounds_toArray, List.set_cons_zero, List.set_cons_succ]
                      refine' wpAnyLast_take (i := 13) (oi := Oper.mk _ _ _ _ _ _) rfl (by kernel_rfl) (by kernel_rfl) (by kernel_rfl) (by kernel_rfl) (by kernel_rfl) (fun _ _ _ h => h) (Or.inl ⟨by rfl, ?hy39⟩) hS ?rest39
                      case hy39 => (intro w hSw; (try dsimp only at hSw); first | (go_simp; done) | (go_simp; with_reducible rfl))
                      try simp only [Act.put, List.setIfInBounds_toArray, List.set_cons_zero, List.set_cons_succ]
                      refine' wpAnyLast_take (i := 14) (oi := Oper.mk _ _ _ _ _ _) rfl (by kernel_rfl) (by kernel_rfl) (by kernel_rfl) (by kernel_rfl) (by kernel_rfl) (fun _ _ _ h => h) (Or.inl ⟨by rfl, ?hy40⟩) hS ?rest40
                      case hy40 => (intro w hSw; (try dsimp only at hSw); first | (go_simp; done) | (go_simp; with_reducible rfl))
                      try simp only [Act.put, List.setIfInBounds_toArray, List.set_cons_zero, List.set_cons_succ]
                      refine' wpAnyLast_take (i := 15) (oi := Oper.mk _ _ _ _ _ _) rfl (by kernel_rfl) (by kernel_rfl) (by kernel_rfl) (by kernel_rfl) (by kernel_rfl) (fun _ _ _ h => h) (Or.inl ⟨by rfl, ?hy41⟩) hS ?rest41
                      case hy41 => (intro w hSw; (try dsimp only at hSw); first | (go_simp; done) | (go_simp; with_reducible rfl))
                      try simp only [Act.put, List.setIfInBounds_toArray, List.set_cons_zero, List.set_cons_succ]
                      refine' wpAnyLast_take (i := 16) (oi := Oper.mk _ _ _ _ _ _) rfl (by kernel_rfl) (by kernel_rfl) (by kernel_rfl) (by kernel_rfl) (by kernel_rfl) (fun _ _ _ h => h) (Or.inl ⟨by rfl, ?hy42⟩) hS ?rest42
                      case hy42 => (intro w hSw; (try dsimp only at hSw); first | (go_simp; done) | (go_simp; with_reducible rfl))
                      try simp only [Act.put, List.setIfInBounds_toArray, List.set_cons_zero, List.set_cons_succ]
                      refine wpAnyLast_take (i := 17) (oi := Oper.mk _ _ _ _ _ _) rfl (by kernel_rfl) (by kernel_rfl) (by kernel_rfl) (by kernel_rfl) (by kernel_rfl) (fun _ _ _ h => h) (rg_load1 (by rfl) (fun _ hS => hS.1) 23 _ rfl rfl (fun _ => by simp [isAgg, run_underlying Tryd.underlying23])) hS ?_
                      try simp only [Act.put, List.setIfInBounds_toArray, List.set_cons_zero, List.set_cons_succ]
                      refine' wpAnyLast_take (i := 18) (oi := Oper.mk _ _ _ _ _ _) rfl (by kernel_rfl) (by kernel_rfl) (by kernel_rfl) (by kernel_rfl) (by kernel_rfl) (fun _ _ _ h => h) (Or.inl ⟨by rfl, ?hy43⟩) hS ?rest43
                      case hy43 => (intro w hSw; (try dsimp only at hSw); first | (go_simp; done) | (go_simp; with_reducible rfl))
                      try simp only [Act.put, List.setIfInBounds_toArray, List.set_cons_zero, List.set_cons_succ]
                      refine' wpAnyLast_take (i := 19) (oi := Oper.mk _ _ _ _ _ _) rfl (by kernel_rfl) (by kernel_rfl) (by kernel_rfl) (by kernel_rfl) (by kernel_rfl) (fun _ _ _ h => h) (Or.inl ⟨by rfl, ?hy44⟩) hS ?rest44
                      case hy44 => (intro w hSw; (try dsimp only at hSw); first | (go_simp; done) | (go_simp; with_reducible rfl))
                      try simp only [Act.put, List.setIfInBounds_toArray, List.set_cons_zero, List.set_cons_succ]
                      refine' wpAnyLast_take (i := 20) (oi := Oper.mk _ _ _ _ _ _) rfl (by kernel_rfl) (by kernel_rfl) (by kernel_rfl) (by kernel_rfl) (by kernel_rfl) (fun _ _ _ h => h) (Or.inl ⟨by rfl, ?hy45⟩) hS ?rest45
                      case hy45 => (intro w hSw; (try dsimp only at hSw); first | (go_simp; done) | (go_simp; with_reducible rfl))
                      try simp only [Act.put, List.setIfInBounds_toArray, List.set_cons_zero, List.set_cons_succ]
                      refine wpAnyLast_take (i := 21) (oi := Oper.mk _ _ _ _ _ _) (v := undef) rfl (by kernel_rfl) (by kernel_rfl) (by kernel_rfl) (by kernel_rfl) (by kernel_rfl) (fun _ _ _ h => h) (Or.inr ⟨by rfl, rfl⟩) hS ?_
                      try simp only [Act.put, List.setIfInBounds_toArray, List.set_cons_zero, List.set_cons_succ]
                      refine wpAnyLast_take (i := 22) (oi := Oper.mk _ _ _ _ _ _) (v := undef) rfl (by kernel_rfl) (by kernel_rfl) (by kernel_rfl) (by kernel_rfl) (by kernel_rfl) (fun _ _ _ h => h) (Or.inr ⟨by rfl, rfl⟩) hS ?_
                      try simp only [Act.put, List.setIfInBounds_toArray, List.set_cons_zero, List.set_cons_succ]
                      refine wpAnyLast_take (i := 23) (oi := Oper.mk _ _ _ _ _ _) (v := undef) rfl (by kernel_rfl) (by kernel_rfl) (by kernel_rfl) (by kernel_rfl) (by kernel_rfl) (fun _ _ _ h => h) (Or.inr ⟨by rfl, rfl⟩) hS ?_
                      try simp only [Act.put, List.setIfInBounds_toArray, List.set_cons_zero, List.set_cons_succ]
                      refine wpAnyLast_take (i := 24) (oi := Oper.mk _ _ _ _ _ _) (v := undef) rfl (by kernel_rfl) (by kernel_rfl) (by kernel_rfl) (by kernel_rfl) (by kernel_rfl) (fun _ _ _ h => h) (Or.inr ⟨by rfl, rfl⟩) hS ?_
                      try simp only [Act.put, List.setIfInBounds_toArray, List.set_cons_zero, List.set_cons_succ]
                      refine wpAnyLast_take (i := 25) (oi := Oper.mk _ _ _ _ _ _) (v := undef) rfl (by kernel_rfl) (by kernel_rfl) (by kernel_rfl) (by kernel_rfl) (by kernel_rfl) (fun _ _ _ h => h) (Or.inr ⟨by rfl, rfl⟩) hS ?_
                      try simp only [Act.put, List.setIfInBounds_toArray, List.set_cons_zero, List.set_cons_succ]
                      refine wpAnyLast_take (i := 26) (oi := Oper.mk _ _ _ _ _ _) (v := undef) rfl (by kernel_rfl) (by kernel_rfl) (by kernel_rfl) (by kernel_rfl) (by kernel_rfl) (fun _ _ _ h => h) (Or.inr ⟨by rfl, rfl⟩) hS ?_
                      try simp only [Act.put, List.setIfInBounds_toArray, List.set_cons_zero, List.set_cons_succ]
                      refine wpAnyLast_take (i := 27) (oi := Oper.mk _ _ _ _ _ _) (v := undef) rfl (by kernel_rfl) (by kernel_rfl) (by kernel_rfl) (by kernel_rfl) (by kernel_rfl) (fun _ _ _ h => h) (Or.inr ⟨by rfl, rfl⟩) hS ?_
                      try simp only [Act.put, List.setIfInBounds_toArray, List.set_cons_zero, List.set_cons_succ]
                      refine wpAnyLast_take (i := 28) (oi := Oper.mk _ _ _ _ _ _) (v := undef) rfl (by kernel_rfl) (by kernel_rfl) (by kernel_rfl) (by kernel_rfl) (by kernel_rfl) (fun _ _ _ h => h) (Or.inr ⟨by rfl, rfl⟩) hS ?_
                      try simp only [Act.put, List.setIfInBounds_toArray, List.set_cons_zero, List.set_cons_succ]
                      refine wpAnyLast_take (i := 29) (oi := Oper.mk _ _ _ _ _ _) (v := undef) rfl (by kernel_rfl) (by kernel_rfl) (by kernel_rfl) (by kernel_rfl) (by kernel_rfl) (fun _ _ _ h => h) (Or.inr ⟨by rfl, rfl⟩) hS ?_
                      try simp only [Act.put, List.setIfInBounds_toArray, List.set_cons_zero, List.set_cons_succ]
                      refine wpAnyLast_take (i := 30) (oi := Oper.mk _ _ _ _ _ _) (v := undef) rfl (by kernel_rfl) (by kernel_rfl) (by kernel_rfl) (by kernel_rfl) (by kernel_rfl) (fun _ _ _ h => h) (Or.inr ⟨by rfl, rfl⟩) hS ?_
                      try simp only [Act.put, List.setIfInBounds_toArray, List.set_cons_zero, List.set_cons_succ]
                      refine wpAnyLast_take (i := 31) (oi := Oper.mk _ _ _ _ _ _) (v := undef) rfl (by kernel_rfl) (by kernel_rfl) (by kernel_rfl) (by kernel_rfl) (by kernel_rfl) (fun _ _ _ h => h) (Or.inr ⟨by rfl, rfl⟩) hS ?_
                      try simp only [Act.put, List.setIfInBounds_toArray, List.set_cons_zero, List.set_cons_succ]
                      refine wpAnyLast_take (i := 32) (oi := Oper.mk _ _ _ _ _ _) (v := undef) rfl (by kernel_rfl) (by kernel_rfl) (by kernel_rfl) (by kernel_rfl) (by kernel_rfl) (fun _ _ _ h => h) (Or.inr ⟨by rfl, rfl⟩) hS ?_
                      try simp only [Act.put, List.setIfInBounds_toArray, List.set_cons_zero, List.set_cons_succ]
                      refine' wpAnyLast_take (i := 33) (oi := Oper.mk _ _ _ _ _ _) rfl (by kernel_rfl) (by kernel_rfl) (by kernel_rfl) (by kernel_rfl) (by kernel_rfl) (fun _ _ _ h => h) (Or.inl ⟨by rfl, ?hy46⟩) hS ?rest46
                      case hy46 => (intro w hSw; (try dsimp only at hSw); first | (go_simp; done) | (go_simp; with_reducible rfl))
                      try simp only [Act.put, List.setIfInBounds_toArray, List.set_cons_zero, List.set_cons_succ]
                      refine' wpAnyLast_take (i := 34) (oi := Oper.mk _ _ _ _ _ _) rfl (by kernel_rfl) (by kernel_rfl) (by kernel_rfl) (by kernel_rfl) (by kernel_rfl) (fun _ _ _ h => h) (Or.inl ⟨by rfl, ?hy47⟩) hS ?rest47
                      case hy47 => (intro w hSw; (try dsimp only at hSw); first | (go_simp; done) | (go_simp; with_reducible rfl))
                      try simp only [Act.put, List.setIfInBounds_toArray, List.set_cons_zero, List.set_cons_succ]
                      refine wpAnyLast_done (by kernel_rfl) ?_ _
                      refine NoPanic.normal ?_
                      go_wp2
                      go_roundw
                      case rel => exact ⟨i + 1, by rw [HWi.out], ⟨HI2.out⟩, HPi⟩
                      case measure => have := HI2.out; rw [HWi.out]; simp [intOf]; omega
                    exact AllReadyL.nil
                · have s1 : decide ((i : Int) < (M : Int)) = false := decide_eq_false (by omega); have s2 : decide (i < M) = false := decide_eq_false hi
                  clear hi hel
                  go_wp2
                  go_roundw
                  case rel => exact ⟨k + 1, by rw [HWk.out], ⟨HKK.out⟩, HPi⟩
                  case measure => have := HKK.out; rw [HWk.out]; simp [intOf]; omega
            · have t1 : decide ((k : Int) < (N : Int)) = false := decide_eq_false (by omega)
              have t2 : decide (k < N) = false := decide_eq_false hk
              have HP4 := Aside0.mk HP.out.to4
              clear hk HP HK
              go_wp2
              go_loopw [11, 12, 13] (fun v11 _ _ wr => ∃ k : Nat, v11 = .int .i64 k ∧ Aside0 (k ≤ N) ∧ Aside0 (Qh4 N v n w gl curL (.slice A5 N c5) wr)) (fun v11 _ _ _ => N - (intOf v11).toNat)
              case atStart => exact ⟨0, rfl, ⟨Nat.zero_le _⟩, HP4⟩
              case round =>
                clear HP4 t1 t2
                obtain ⟨k, rfl, HK, HP⟩ := hrel
                obtain ⟨wo, rfl⟩ : ∃ wo : World, wo = wr := ⟨_, rfl⟩
                by_cases hk : k < N
                · have t1 : decide ((k : Int) < (N : Int)) = true := decide_eq_true (by omega)
                  have t2 : decide (k < N) = true := decide_eq_true hk
                  have hk1 : (0 : Int) ≤ (k : Int) := by omega
                  have hk2 : (k : Int) < (N : Int) := by omega
                  obtain ⟨A, cp, hv⟩ := SH.out k hk
                  have q0 := HP.out.lo.cell (HL.out k hk)
                  rw [hv] at q0
                  clear q0
                  have HKK := Aside0.mk hk
                  have HWk : Aside0 (wrap64 ((k : Int) + 1) = ((k + 1 : Nat) : Int)) := ⟨by have := HNN.out.1; unfold wrap64; omega⟩
                  have HV := Aside0.mk hv
                  have HP0 := Aside0.mk HP.out.begin
                  clear hk hv HP
                  go_wp2
                  go_loopw [12, 13] (fun v12 v13 wr => ∃ i : Nat, v13 = .int .i64 i ∧ Aside0 (i ≤ 64) ∧ Aside0 (Qh4i N v n w gl curL (.slice A5 N c5) i v12 wr)) (fun _ v13 _ => 64 - (intOf v13).toNat)
                  case atStart => exact ⟨0, rfl, ⟨Nat.zero_le _⟩, HP0⟩
                  case round =>
                    clear HP0
                    obtain ⟨i, rfl, HI, HPi⟩ := hrel
                    obtain ⟨wi, rfl⟩ : ∃ wi : World, wi = wr := ⟨_, rfl⟩
                    obtain ⟨A12, c12, rfl⟩ := HPi.out.shape12
                    by_cases hi : i < 64
                    · have s1 : decide ((i : Int) < 64) = true := decide_eq_true (by omega)
                      have s2 : decide (i < 64) = true := decide_eq_true hi
                      have HI2 := Aside0.mk hi
                      have HWi : Aside0 (wrap64 ((i : Int) + 1) = ((i + 1 : Nat) : Int)) := ⟨by unfold wrap64; omega⟩
                      have HBd : Aside0 ((i + 1) * 8 ≤ 140737488355328) := ⟨by omega⟩
                      clear hi
                      go_wp2_with (first
                        | (go_at_call 19; refine (MK.out _ _ _).mono ?_; rintro e w9 ⟨rfl, hb9⟩; have HPn := Aside0.mk (HPi.out.below hb9); clear HPi hb9; have HPi := HPn; clear HPn)
                        | ((with_reducible refine gate_dst (N := 137) rfl ?_); refine ev_lit1 rfl (.int .i64 (mkJ (wrap64 ((k : Int) + (N : Int))) ((i : Int)))) 3 ?hr ?_; (case hr => first | (go_simp; done) | (go_simp; rfl)); intro g10 w10 G10 B10 K10; have HPn := Aside0.mk (HPi.out.below K10.out); clear HPi K10 G10; have HPi := HPn; clear HPn)
                        | ((with_reducible refine gate_dst (N := 138) rfl ?_); obtain ⟨xs, hxs, hfin⟩ := HPi.out.grow; refine ev_append2 rfl _ _ 23 3 (.int .i64 0) 8 rfl Tryd.underlying23 (by kernel_rfl) rfl (by decide) _ i _ hxs rfl ⟨g10, 0, none⟩ 1 1 [.int .i64 (mkJ (wrap64 ((k : Int) + (N : Int))) ((i : Int)))] rfl rfl (by decide) (lit_news B10) (lit_one rfl) HBd.out ?_; intro v11 w11 hA; have HPn := Aside0.mk (hfin _ _ _ rfl hA.out); clear HPi B10 hA hfin hxs; have HPi := HPn; clear HPn))
                      go_roundw
                      case rel => exact ⟨i + 1, by rw [HWi.out], ⟨HI2.out⟩, HPi⟩
                      case measure => have := HI2.out; rw [HWi.out]; simp [intOf]; omega
                    · have s1 : decide ((i : Int) < 64) = false := decide_eq_false (by omega)
                      have s2 : decide (i < 64) = false := decide_eq_false hi
                      obtain rfl : i = 64 := by have := HI.out; omega
                      obtain ⟨g5, c5', gm, cm, xs, news, e5, e12, hxs, hl, hnews, hone, hfin⟩ := HPi.out.fin HKK.out
                      injection e5 with e5 _ e6
                      subst e5 e6
                      injection e12 with e12 _ _
                      subst e12
                      rw [HV.out] at hxs hfin
                      have q0 := HPi.out.lo.cell (HL.out k HKK.out)
                      rw [HV.out] at q0
                      have HBd : Aside0 ((n k + 64) * 8 ≤ 140737488355328) := ⟨by have := HNN.out.2 k HKK.out; omega⟩
                      have HX := Aside0.mk (And.intro hxs (And.intro hl (And.intro hnews (And.intro hone hfin))))
                      clear hi hxs hl hnews hone hfin
                      go_wp2_with (first
                        | ((with_reducible refine gate_dst (N := 146) rfl ?_); refine ev_append2 rfl _ _ 23 3 (.int .i64 0) 8 rfl Tryd.underlying23 (by kernel_rfl) rfl (by decide) _ (n k) _ HX.out.1 rfl ⟨gm, 0, none⟩ 64 c12 news rfl HX.out.2.1 (by decide) HX.out.2.2.1 HX.out.2.2.2.1 HBd.out ?_; intro v11 w11 hA; obtain ⟨cur5, B5, hc5, ho5, hput⟩ := HX.out.2.2.2.2 _ _ hA.out; have HPUT := Aside0.mk hput; have HC5 := Aside0.mk (And.intro hc5 ho5); clear hput hA q0 hc5 ho5)
                        | ((with_reducible refine gate_ (Op.store 23 (.tmp 147) (.tmp 146)) rfl ?_); refine ev_put1 B5 rfl 23 _ _ rfl rfl _ rfl HC5.out.1 (by kernel_rfl) HC5.out.2 ?_; intro w12 B12 hg12; have HPk := Aside0.mk (HPUT.out _ B12 hg12.out); clear B5 B12 hg12 HPUT HC5))
                      go_roundw
                      case rel => exact ⟨k + 1, by rw [HWk.out], ⟨HKK.out⟩, HPk⟩
                      case measure => have := HKK.out; rw [HWk.out]; simp [intOf]; omega
                · have t1 : decide ((k : Int) < (N : Int)) = false := decide_eq_false (by omega)
                  have t2 : decide (k < N) = false := decide_eq_false hk
                  have HP5 := HP
                  clear hk HP HK
                  go_wp2
                  go_loopw [14] (fun v14 wr => ∃ k : Nat, v14 = .int .i64 k ∧ Aside0 (k ≤ N) ∧ Aside0 (Qh4 N v n w gl curL (.slice A5 N c5) wr)) (fun v14 _ => N - (intOf v14).toNat)
                  case atStart => exact ⟨0, rfl, ⟨Nat.zero_le _⟩, HP5⟩
                  case round =>
                    clear HP5 t1 t2
                    obtain ⟨k, rfl, HK, HP⟩ := hrel
                    obtain ⟨wo, rfl⟩ : ∃ wo : World, wo = wr := ⟨_, rfl⟩
                    by_cases hk : k < N
                    · have t1 : decide ((k : Int) < (N : Int)) = true := decide_eq_true (by omega)
                      have t2 : decide (k < N) = true := decide_eq_true hk
                      have hk1 : (0 : Int) ≤ (k : Int) := by omega
                      have hk2 : (k : Int) < (N : Int) := by omega
                      obtain ⟨A, cp, hv⟩ := SH.out k hk
                      have q0 := HP.out.lo.cell (HL.out k hk)
                      rw [hv] at q0
                      clear q0
                      have HKK := Aside0.mk hk
                      have HWk : Aside0 (wrap64 ((k : Int) + 1) = ((k + 1 : Nat) : Int)) := ⟨by have := HNN.out.1; unfold wrap64; omega⟩
                      have HV := Aside0.mk hv
                      clear hk hv
                      go_wp2
                      go_loopw [15] (fun v15 wr => ∃ i : Nat, v15 = .int .i64 i ∧ Aside0 (i ≤ n k) ∧ Aside0 (Qh4 N v n w gl curL (.slice A5 N c5) wr)) (fun v15 _ => n k - (intOf v15).toNat)
                      case atStart => exact ⟨0, rfl, ⟨Nat.zero_le _⟩, HP⟩
                      case round =>
                        clear HP
                        obtain ⟨i, rfl, HI, HPi⟩ := hrel
                        obtain ⟨wi, rfl⟩ : ∃ wi : World, wi = wr := ⟨_, rfl⟩
                        have q0 := HPi.out.lo.cell (HL.out k HKK.out)
                        by_cases hi : i < n k
                        · have s1 : decide ((i : Int) < (n k : Int)) = true := decide_eq_true (by omega); have s2 : decide (i < n k) = true := decide_eq_true hi
                          have hi1 : (0 : Int) ≤ (i : Int) := by omega
                          have hi2 : (i : Int) < (n k : Int) := by omega
                          have HWi : Aside0 (wrap64 ((i : Int) + 1) = ((i + 1 : Nat) : Int)) := ⟨by have := HNN.out.2 k HKK.out; unfold wrap64; omega⟩
                          have HI2 := Aside0.mk hi
                          obtain ⟨g, cap, hv1, q3⟩ := HPi.out.lsAt HKK.out hi
                          obtain ⟨g5, c5', gg, l, cg, e5, qg, hl, q2⟩ := HPi.out.gsAt HKK.out hi
                          injection e5 with e5 _ e6
                          subst e5 e6
                          have hi3 : (i : Int) < (l : Int) := by omega
                          rw [hv1] at q0
                          unfold mkw at q2 q3
                          clear hv1 hi hl
                          go_upto_region 41 with (fail)
                          have HPn := Aside0.mk (HPi.out.below (below_drew (Below.refl _ _)))
                          have z0 := pw_cell_below (below_drew (Below.refl _ _)) q0
                          have z1 := pw_cell_below (below_drew (Below.refl _ _)) qg
                          have z2 := pw_cell_below (below_drew (Below.refl _ _)) q2
                          have z3 := pw_cell_below (below_drew (Below.refl _ _)) q3
                          clear HPi q0 qg q2 q3
                          have HPi := HPn
                          have q0 := z0
                          have qg := z1
                          have q2 := z2
                          have q3 := z3
                          clear HPn z0 z1 z2 z3
                          refine wp_region_noPanic ?_
                          refine wp_region_last_drew (S := fun W' => W'.cell? ⟨gl, k, none⟩ = some (.slice (some ⟨g, 0, none⟩) (n k) cap) ∧ W'.cell? ⟨g5, k, none⟩ = some (.slice (some ⟨gg, 0, none⟩) l cg) ∧ W'.cell? ⟨gg, i, none⟩ = some (.int .i64 (mkJ ((k : Int)) ((i : Int)))) ∧ W'.cell? ⟨g, i, none⟩ = some (.int .i64 (mkJ ((k : Int)) ((i : Int))))) (ds := []) (by kernel_rfl) ⟨q0, qg, q2, q3⟩ (fun hS => ?_)
                          refine' wpAnyLast_take (i := 0) (oi := Oper.mk _ _ _ _ _ _) rfl (by kernel_rfl) (by kernel_rfl) (by kernel_rfl) (by kernel_rfl) (by kernel_rfl) (fun _ _ _ h => h) (Or.inl ⟨by rfl, ?hy48⟩) hS ?rest48
                          case hy48 => (intro w hSw; (try dsimp only at hSw); first | (go_simp; done) | (go_simp; with_reducible rfl))
                          try simp only [Act.put, List.setIfInBounds_toArray, List.set_cons_zero, List.set_cons_succ]
                          refine' wpAnyLast_take (i := 1) (oi := Oper.mk _ _ _ _ _ _) rfl (by kernel_rfl) (by kernel_rfl) (by kernel_rfl) (by kernel_rfl) (by kernel_rfl) (fun _ _ _ h => h) (Or.inl ⟨by rfl, ?hy49⟩) hS ?rest49
                          case hy49 => (intro w hSw; (try dsimp only at hSw); first | (go_simp; done) | (go_simp; with_reducible rfl))
                          try simp only [Act.put, List.setIfInBounds_toArray, List.set_cons_zero, List.set_cons_succ]
                          refine' wpAnyLast_take (i := 2) (oi := Oper.mk _ _ _ _ _ _) rfl (by kernel_rfl) (by kernel_rfl) (by kernel_rfl) (by kernel_rfl) (by kernel_rfl) (fun _ _ _ h => h) (Or.inl ⟨by rfl, ?hy50⟩) hS ?rest50
                          case hy50 => (intro w hSw; (try dsimp only at hSw); first | (go_simp; done) | (go_simp; with_reducible rfl))
                          try simp only [Act.put, List.setIfInBounds_toArray, List.set_cons_zero, List.set_cons_succ]
                          refine wpAnyLast_take (i := 3) (oi := Oper.mk _ _ _ _ _ _) rfl (by kernel_rfl) (by kernel_rfl) (by kernel_rfl) (by kernel_rfl) (by kernel_rfl) (fun _ _ _ h => h) (rg_load1 (by rfl) (fun _ hS => hS.1) 23 _ rfl rfl (fun _ => by simp [isAgg, run_underlying Tryd.underlying23])) hS ?_
                          try simp only [Act.put, List.setIfInBounds_toArray, List.set_cons_zero, List.set_cons_succ]
                          refine' wpAnyLast_take (i := 4) (oi := Oper.mk _ _ _ _ _ _) rfl (by kernel_rfl) (by kernel_rfl) (by kernel_rfl) (by kernel_rfl) (by kernel_rfl) (fun _ _ _ h => h) (Or.inl ⟨by rfl, ?hy51⟩) hS ?rest51
                          case hy51 => (intro w hSw; (try dsimp only at hSw); first | (go_simp; done) | (go_simp; with_reducible rfl))
                          try simp only [Act.put, List.setIfInBounds_toArray, List.set_cons_zero, List.set_cons_succ]
                          refine' wpAnyLast_take (i := 5) (oi := Oper.mk _ _ _ _ _ _) rfl (by kernel_rfl) (by kernel_rfl) (by kernel_rfl) (by kernel_rfl) (by kernel_rfl) (fun _ _ _ h => h) (Or.inl ⟨by rfl, ?hy52⟩) hS ?rest52
                          case hy52 => (intro w hSw; (try dsimp only at hSw); first | (go_simp; done) | (go_simp; with_reducible rfl))
                          try simp only [Act.put, List.setIfInBounds_toArray, List.set_cons_zero, List.set_cons_succ]
                          refine wpAnyLast_take (i := 6) (oi := Oper.mk _ _ _ _ _ _) rfl (by kernel_rfl) (by kernel_rfl) (by kernel_rfl) (by kernel_rfl) (by kernel_rfl) (fun _ _ _ h => h) (rg_load1 (by rfl) (fun _ hS => hS.2.2.2) 3 _ rfl rfl (fun _ => by simp [isAgg, run_underlying Tryd.underlying3])) hS ?_
                          try simp only [Act.put, List.setIfInBounds_toArray, List.set_cons_zero, List.set_cons_succ]
                          refine' wpAnyLast_take (i := 7) (oi := Oper.mk _ _ _ _ _ _) rfl (by kernel_rfl) (by kernel_rfl) (by kernel_rfl) (by kernel_rfl) (by kernel_rfl) (fun _ _ _ h => h) (Or.inl ⟨by rfl, ?hy53⟩) hS ?rest53
                          case hy53 => (intro w hSw; (try dsimp only at hSw); first | (go_simp; done) | (go_simp; with_reducible rfl))
                          try simp only [Act.put, List.setIfInBounds_toArray, List.set_cons_zero, List.set_cons_succ]
                          refine' wpAnyLast_take (i := 8) (oi := Oper.mk _ _ _ _ _ _) rfl (by kernel_rfl) (by kernel_rfl) (by kernel_rfl) (by kernel_rfl) (by kernel_rfl) (fun _ _ _ h => h) (Or.inl ⟨by rfl, ?hy54⟩) hS ?rest54
                          case hy54 => (intro w hSw; (try dsimp only at hSw); first | (go_simp; done) | (go_simp; with_reducible rfl))
                          try simp only [Act.put, List.setIfInBounds_toArray, List.set_cons_zero, List.set_cons_succ]
                          refine wpAnyLast_ready (rs := [9]) (by kernel_rfl) (by simp) ?_
                          refine AllReadyL.cons (o := Oper.mk _ _ _ _ _ _) rfl (by decide) (fun K hK => ?_) ?_
                          · refine rg_call (by rfl) _ _ (.int .i64 (mkJ (k : Int) (i : Int))) (by first | (go_simp; done) | (go_simp; rfl)) (MK.out _ _ _) ?_
                            intro W' hb
                            have HPn := Aside0.mk (HPi.out.below hb.out)
                            have z0 := pw_cell_below hb.out q0
                            have z1 := pw_cell_below hb.out qg
                            have z2 := pw_cell_below hb.out q2
                            have z3 := pw_cell_below hb.out q3
                            clear HPi q0 qg q2 q3
                            have HPi := HPn
                            have q0 := z0
                            have qg := z1
                            have q2 := z2
                            have q3 := z3
                            clear HPn z0 z1 z2 z3
                            refine hK.out _ _ ⟨q0, qg, q2, q3⟩ (fun hS => ?_)
                            clear hK K hb
                            try simp only [Act.put, List.setIfInBounds_toArray, List.set_cons_zero, List.set_cons_succ]
                            refine' wpAnyLast_take (i := 10) (oi := Oper.mk _ _ _ _ _ _) rfl (by kernel_rfl) (by kernel_rfl) (by kernel_rfl) (by kernel_rfl) (by kernel_rfl) (fun _ _ _ h => h) (Or.inl ⟨by rfl, ?hy55⟩) hS ?rest55
                            case hy55 => (intro w hSw; (try dsimp only at hSw); first | (go_simp; done) | (go_simp; with_reducible rfl))
                            try simp only [Act.put, List.setIfInBounds_toArray, List.set_cons_zero, List.set_cons_succ]
                            refine' wpAnyLast_take (i := 11) (oi := Oper.mk _ _ _ _ _ _) rfl (by kernel_rfl) (by kernel_rfl) (by kernel_rfl) (by kernel_rfl) (by kernel_rfl) (fun _ _ _ h => h) (Or.inl ⟨by rfl, ?hy56⟩) hS ?rest56
                            case hy56 => (intro w hSw; (try dsimp only at hSw); first | (go_simp; done) | (go_simp; with_reducible rfl))
                            try simp only [Act.put, List.setIfInBounds_toArray, List.set_cons_zero, List.set_cons_succ]
                            refine' wpAnyLast_take (i := 12) (oi := Oper.mk _ _ _ _ _ _) rfl (by kernel_rfl) (by kernel_rfl) (by kernel_rfl) (by kernel_rfl) (by kernel_rfl) (fun _ _ _ h => h) (Or.inl ⟨by rfl, ?hy57⟩) hS ?rest57
                            case hy57 => (intro w hSw; (try dsimp only at hSw); first | (go_simp; done) | (go_simp; with_reducible rfl))
                            try simp only [Act.put, List.setIfInBounds_toArray, List.set_cons_zero, List.set_cons_succ]
                            refine' wpAnyLast_take (i := 13) (oi := Oper.mk _ _ _ _ _ _) rfl (by kernel_rfl) (by kernel_rfl) (by kernel_rfl) (by kernel_rfl) (by kernel_rfl) (fun _ _ _ h => h) (Or.inl ⟨by rfl, ?hy58⟩) hS ?rest58
                            case hy58 => (intro w hSw; (try dsimp only at hSw); first | (go_simp; done) | (go_simp; with_reducible rfl))
                            try simp only [Act.put, List.setIfInBounds_toArray, List.set_cons_zero, List.set_cons_succ]
                            refine' wpAnyLast_take (i := 14) (oi := Oper.mk _ _ _ _ _ _) rfl (by kernel_rfl) (by kernel_rfl) (by kernel_rfl) (by kernel_rfl) (by kernel_rfl) (fun _ _ _ h => h) (Or.inl ⟨by rfl, ?hy59⟩) hS ?rest59
                            case hy59 => (intro w hSw; (try dsimp only at hSw); first | (go_simp; done) | (go_simp; with_reducible rfl))
                            try simp only [Act.put, List.setIfInBounds_toArray, List.set_cons_zero, List.set_cons_succ]
                            refine' wpAnyLast_take (i := 15) (oi := Oper.mk _ _ _ _ _ _) rfl (by kernel_rfl) (by kernel_rfl) (by kernel_rfl) (by kernel_rfl) (by kernel_rfl) (fun _ _ _ h => h) (Or.inl ⟨by rfl, ?hy60⟩) hS ?rest60
                            case hy60 => (intro w hSw; (try dsimp only at hSw); first | (go_simp; done) | (go_simp; with_reducible rfl))
                            try simp only [Act.put, List.setIfInBounds_toArray, List.set_cons_zero, List.set_cons_succ]
                            refine wpAnyLast_take (i := 16) (oi := Oper.mk _ _ _ _ _ _) rfl (by kernel_rfl) (by kernel_rfl) (by kernel_rfl) (by kernel_rfl) (by kernel_rfl) (fun _ _ _ h => h) (rg_load1 (by rfl) (fun _ hS => hS.2.1) 23 _ rfl rfl (fun _ => by simp [isAgg, run_underlying Tryd.underlying23])) hS ?_
                            try simp only [Act.put, List.setIfInBounds_toArray, List.set_cons_zero, List.set_cons_succ]
                            refine' wpAnyLast_take (i := 17) (oi := Oper.mk _ _ _ _ _ _) rfl (by kernel_rfl) (by kernel_rfl) (by kernel_rfl) (by kernel_rfl) (by kernel_rfl) (fun _ _ _ h => h) (Or.inl ⟨by rfl, ?hy61⟩) hS ?rest61
                            case hy61 => (intro w hSw; (try dsimp only at hSw); first | (go_simp; done) | (go_simp; with_reducible rfl))
                            try simp only [Act.put, List.setIfInBounds_toArray, List.set_cons_zero, List.set_cons_succ]
                            refine' wpAnyLast_take (i := 18) (oi := Oper.mk _ _ _ _ _ _) rfl (by kernel_rfl) (by kernel_rfl) (by kernel_rfl) (by kernel_rfl) (by kernel_rfl) (fun _ _ _ h => h) (Or.inl ⟨by rfl, ?hy62⟩) hS ?rest62
                            case hy62 => (intro w hSw; (try dsimp only at hSw); first | (go_simp; done) | (go_simp; with_reducible rfl))
                            try simp only [Act.put, List.setIfInBounds_toArray, List.set_cons_zero, List.set_cons_succ]
                            refine wpAnyLast_take (i := 19) (oi := Oper.mk _ _ _ _ _ _) rfl (by kernel_rfl) (by kernel_rfl) (by kernel_rfl) (by kernel_rfl) (by kernel_rfl) (fun _ _ _ h => h) (rg_load1 (by rfl) (fun _ hS => hS.2.2.1) 3 _ rfl rfl (fun _ => by simp [isAgg, run_underlying Tryd.underlying3])) hS ?_
                            try simp only [Act.put, List.setIfInBounds_toArray, List.set_cons_zero, List.set_cons_succ]
                            refine' wpAnyLast_take (i := 20) (oi := Oper.mk _ _ _ _ _ _) rfl (by kernel_rfl) (by kernel_rfl) (by kernel_rfl) (by kernel_rfl) (by kernel_rfl) (fun _ _ _ h => h) (Or.inl ⟨by rfl, ?hy63⟩) hS ?rest63
                            case hy63 => (intro w hSw; (try dsimp only at hSw); first | (go_simp; done) | (go_simp; with_reducible rfl))
                            try simp only [Act.put, List.setIfInBounds_toArray, List.set_cons_zero, List.set_cons_succ]
                            refine' wpAnyLast_take (i := 21) (oi := Oper.mk _ _ _ _ _ _) rfl (by kernel_rfl) (by kernel_rfl) (by kernel_rfl) (by kernel_rfl) (by kernel_rfl) (fun _ _ _ h => h) (Or.inl ⟨by rfl, ?hy64⟩) hS ?rest64
                            case hy64 => (intro w hSw; (try dsimp only at hSw); first | (go_simp; done) | (go_simp; with_reducible rfl))
                            try simp only [Act.put, List.setIfInBounds_toArray, List.set_cons_zero, List.set_cons_succ]
                            refine wpAnyLast_ready (rs := [22]) (by kernel_rfl) (by simp) ?_
                            refine AllReadyL.cons (o := Oper.mk _ _ _ _ _ _) rfl (by decide) (fun K hK => ?_) ?_
                            · refine rg_call (by rfl) _ _ (.int .i64 (mkJ (k : Int) (i : Int))) (by first | (go_simp; done) | (go_simp; rfl)) (MK.out _ _ _) ?_
                              intro W' hb
                              have HPn := Aside0.mk (HPi.out.below hb.out)
                              have z0 := pw_cell_below hb.out q0
                              have z1 := pw_cell_below hb.out qg
                              have z2 := pw_cell_below hb.out q2
                              have z3 := pw_cell_below hb.out q3
                              clear HPi q0 qg q2 q3
                              have HPi := HPn
                              have q0 := z0
                              have qg := z1
                              have q2 := z2
                              have q3 := z3
                              clear HPn z0 z1 z2 z3
                              refine hK.out _ _ ⟨q0, qg, q2, q3⟩ (fun hS => ?_)
                              clear hK K hb
                              try simp only [Act.put, List.setIfInBounds_toArray, List.set_cons_zero, List.set_cons_succ]
                              refine' wpAnyLast_take (i := 23) (oi := Oper.mk _ _ _ _ _ _) rfl (by kernel_rfl) (by kernel_rfl) (by kernel_rfl) (by kernel_rfl) (by kernel_rfl) (fun _ _ _ h => h) (Or.inl ⟨by rfl, ?hy65⟩) hS ?rest65
                              case hy65 => (intro w hSw; (try dsimp only at hSw); first | (go_simp; done) | (go_simp; with_reducible rfl))
                              try simp only [Act.put, List.setIfInBounds_toArray, List.set_cons_zero, List.set_cons_succ]
                              refine' wpAnyLast_take (i := 24) (oi := Oper.mk _ _ _ _ _ _) rfl (by kernel_rfl) (by kernel_rfl) (by kernel_rfl) (by kernel_rfl) (by kernel_rfl) (fun _ _ _ h => h) (Or.inl ⟨by rfl, ?hy66⟩) hS ?rest66
                              case hy66 => (intro w hSw; (try dsimp only at hSw); first | (go_simp; done) | (go_simp; with_reducible rfl))
                              try simp only [Act.put, List.setIfInBounds_toArray, List.set_cons_zero, List.set_cons_succ]
                              refine' wpAnyLast_take (i := 25) (oi := Oper.mk _ _ _ _ _ _) rfl (by kernel_rfl) (by kernel_rfl) (by kernel_rfl) (by kernel_rfl) (by kernel_rfl) (fun _ _ _ h => h) (Or.inl ⟨by rfl, ?hy67⟩) hS ?rest67
                              case hy67 => (intro w hSw; (try dsimp only at hSw); first | (go_simp; done) | (go_simp; with_reducible rfl))
                              try simp only [Act.put, List.setIfInBounds_toArray, List.set_cons_zero, List.set_cons_succ]
                              refine wpAnyLast_done (by kernel_rfl) ?_ _
                              refine NoPanic.normal ?_
                              go_wp2
                              go_roundw
                              case rel => exact ⟨i + 1, by rw [HWi.out], ⟨HI2.out⟩, HPi⟩
                              case measure => have := HI2.out; rw [HWi.out]; simp [intOf]; omega
                            exact AllReadyL.nil
                          exact AllReadyL.nil
                        · have s1 : decide ((i : Int) < (n k : Int)) = false := decide_eq_false (by omega); have s2 : decide (i < n k) = false := decide_eq_false hi
                          rw [HV.out] at q0
                          clear hi
                          go_wp2
                          go_roundw
                          case rel => exact ⟨k + 1, by rw [HWk.out], ⟨HKK.out⟩, HPi⟩
                          case measure => have := HKK.out; rw [HWk.out]; simp [intOf]; omega
                    · have t1 : decide ((k : Int) < (N : Int)) = false := decide_eq_false (by omega)
                      have t2 : decide (k < N) = false := decide_eq_false hk
                      clear hk HK
                      go_wp2
                      go_ret
                      exact ⟨rfl, HP.out.tv⟩

end


end Go.Proofs.YtagcilcdgckbeaaDoor.PK
namespace Go.Proofs.YtagcilcdgckbeaaDoor.PK
attribute [local go_sem] Go.Proofs.YtagcilcdgckbeaaDoorM.fieldBits0 Go.Proofs.YtagcilcdgckbeaaDoorM.fieldBits1
open Go.RowKit Go.Proofs.YtagcilcdgckbeaaDoorW.PrintWords Go.Proofs.YtagcilcdgckbeaaDoorW.PrintLast Go.Proofs.YtagcilcdgckbeaaDoorW.PrintMore
attribute [local go_sem] max2_int min2_int max_two min_two max_three min_three max_four min_four   -- for this text's walks alone
set_option linter.unusedVariables false
set_option linter.unusedSimpArgs false

/-! ### quarrylaw08_MarksKeeps: function 3 -/
section
open Go.Proofs.YtagcilcdgckbeaaDoorQ Go.Proofs.YtagcilcdgckbeaaDoorM
namespace MkF
theorem mk_same_loop (l : List Int) (a b : Int) (hl : l.length ≤ 140737488355328) : ∀ (d i k : Nat), i + d = l.length → d < k → quarryref00_SameBits.l0 k (i : Int) a l b l = some true := by
  intro d
  induction d with
  | zero =>
    intro i k hi hk
    obtain ⟨k, rfl⟩ : ∃ m, k = m + 1 := ⟨k - 1, by omega⟩
    unfold quarryref00_SameBits.l0
    rw [if_neg (by omega)]
  | succ d ih =>
    intro i k hi hk
    obtain ⟨k, rfl⟩ : ∃ m, k = m + 1 := ⟨k - 1, by omega⟩
    have e : wrap64 ((i : Int) + 1) = ((i + 1 : Nat) : Int) := by unfold wrap64; omega
    unfold quarryref00_SameBits.l0
    rw [if_pos (by omega), if_pos (by omega), if_pos (by omega), if_pos rfl, e, ih (i + 1) k (by omega) (by omega)]
/-- A bitmap is the same as itself. -/
theorem mk_same_refl (n : Int) (l : List Int) (hl : l.length ≤ 140737488355328) (k : Nat) (hk : l.length + 1 < k) : quarryref00_SameBits.f k n l n l = some true := by
  obtain ⟨k, rfl⟩ : ∃ m, k = m + 1 := ⟨k - 1, by omega⟩
  unfold quarryref00_SameBits.f
  rw [if_pos rfl]
  simp only [quarryref00_SameBits.j0, bne_self_eq_false, Bool.false_eq_true, if_false]
  exact mk_same_loop l n n hl l.length 0 k (by omega) (by omega)
theorem mk_copy_loop (l : List Int) (a : Int) (hl : l.length ≤ 1099511627776) : ∀ (d i k : Nat), i + d = l.length → d < k → quarryref00_CopyBits.l0 k (l.take i) (i : Int) a l = some (a, l) := by
  intro d
  induction d with
  | zero =>
    intro i k hi hk
    obtain ⟨k, rfl⟩ : ∃ m, k = m + 1 := ⟨k - 1, by omega⟩
    unfold quarryref00_CopyBits.l0
    rw [if_neg (by omega), List.take_of_length_le (by omega)]
  | succ d ih =>
    intro i k hi hk
    obtain ⟨k, rfl⟩ : ∃ m, k = m + 1 := ⟨k - 1, by omega⟩
    have e : wrap64 ((i : Int) + 1) = ((i + 1 : Nat) : Int) := by unfold wrap64; omega
    have hr : l.take i ++ [rd l (i : Int)] = l.take (i + 1) := by
      rw [List.take_add_one, List.getElem?_eq_getElem (show i < l.length by omega)]
      unfold rd
      rw [Int.toNat_natCast, List.getD_eq_getElem?_getD, List.getElem?_eq_getElem (show i < l.length by omega)]
      rfl
    unfold quarryref00_CopyBits.l0
    rw [if_pos (by omega), if_pos (by omega), if_pos (by rw [List.length_take]; omega), hr, e]
    exact ih (i + 1) k (by omega) (by omega)
theorem mk_copy_eq (l : List Int) (a : Int) (hl : l.length ≤ 1099511627776) (k : Nat) (hk : l.length < k) : quarryref00_CopyBits.f k a l = some (a, l) := by
  unfold quarryref00_CopyBits.f
  exact mk_copy_loop l a hl l.length 0 k (by omega) hk
theorem mk_sameints_loop (l : List Int) (hl : l.length ≤ 140737488355328) : ∀ (d i k : Nat), i + d = l.length → d < k → quarryref00_SameInts.l0 k l l (i : Int) = some true := by
  intro d
  induction d with
  | zero =>
    intro i k hi hk
    obtain ⟨k, rfl⟩ : ∃ m, k = m + 1 := ⟨k - 1, by omega⟩
    unfold quarryref00_SameInts.l0
    rw [if_neg (by omega)]
  | succ d ih =>
    intro i k hi hk
    obtain ⟨k, rfl⟩ : ∃ m, k = m + 1 := ⟨k - 1, by omega⟩
    have e : wrap64 ((i : Int) + 1) = ((i + 1 : Nat) : Int) := by unfold wrap64; omega
    unfold quarryref00_SameInts.l0
    rw [if_pos (by omega), if_pos (by omega), if_pos (by omega), if_pos rfl, e, ih (i + 1) k (by omega) (by omega)]
/-- A list is the same as itself. -/
theorem mk_sameints_refl (l : List Int) (hl : l.length ≤ 140737488355328) (k : Nat) (hk : l.length < k) : quarryref00_SameInts.f k l l = some true := by
  unfold quarryref00_SameInts.f
  rw [if_pos rfl]
  exact mk_sameints_loop l hl l.length 0 k (by omega) hk
theorem mk_copyi_loop (l : List Int) (hl : l.length ≤ 1099511627776) : ∀ (d i k : Nat), i + d = l.length → d < k → quarryref00_CopyInts.l0 k l (l.take i) (i : Int) = some l := by
  intro d
  induction d with
  | zero =>
    intro i k hi hk
    obtain ⟨k, rfl⟩ : ∃ m, k = m + 1 := ⟨k - 1, by omega⟩
    unfold quarryref00_CopyInts.l0
    rw [if_neg (by omega), List.take_of_length_le (by omega)]
  | succ d ih =>
    intro i k hi hk
    obtain ⟨k, rfl⟩ : ∃ m, k = m + 1 := ⟨k - 1, by omega⟩
    have e : wrap64 ((i : Int) + 1) = ((i + 1 : Nat) : Int) := by unfold wrap64; omega
    have hr : l.take i ++ [rd l (i : Int)] = l.take (i + 1) := by
      rw [List.take_add_one, List.getElem?_eq_getElem (show i < l.length by omega)]
      unfold rd
      rw [Int.toNat_natCast, List.getD_eq_getElem?_getD, List.getElem?_eq_getElem (show i < l.length by omega)]
      rfl
    unfold quarryref00_CopyInts.l0
    rw [if_pos (by omega), if_pos (by omega), if_pos (by rw [List.length_take]; omega), hr, e]
    exact ih (i + 1) k (by omega) (by omega)
theorem mk_copyi_eq (l : List Int) (hl : l.length ≤ 1099511627776) (k : Nat) (hk : l.length < k) : quarryref00_CopyInts.f k l = some l := by
  unfold quarryref00_CopyInts.f
  exact mk_copyi_loop l hl l.length 0 k (by omega) hk
theorem mk_w64s (i n : Nat) (h : i < n) (hn : n ≤ 281474976702464) : wrap64 ((i : Int) + 1) = ((i + 1 : Nat) : Int) := by unfold wrap64; omega
theorem mk_prog_loop (s : ByteArray) (hn : s.size ≤ 1048576) (z : Int) :
    ∀ (d i k : Nat), i + d = nwords s.size → d < k → marks_Blanks.l0 k (lookL s) ((nwords s.size : Nat) : Int) (i : Int) z ((List.range i).map fun j => iv (wordAt s.size (blq s) j)) = some (z, wordsOf s.size (blq s)) := by
  have hw : nwords s.size ≤ 1048576 := by unfold nwords; omega
  have hl : (lookL s).length = nwords s.size := by simp [lookL]
  intro d
  induction d with
  | zero =>
    intro i k hi hk
    obtain ⟨k, rfl⟩ : ∃ m, k = m + 1 := ⟨k - 1, by omega⟩
    unfold marks_Blanks.l0
    rw [if_neg (by omega), show i = nwords s.size by omega]
    rfl
  | succ d ih =>
    intro i k hi hk
    obtain ⟨k, rfl⟩ : ∃ m, k = m + 1 := ⟨k - 1, by omega⟩
    have h2 := ih (i + 1) k (by omega) (by omega)
    rw [List.range_succ, List.map_append] at h2
    have hr : rd_T43 (lookL s) (i : Int) = rowS s i := by
      unfold rd_T43 lookL
      rw [Int.toNat_natCast, List.getD_eq_getElem?_getD, List.getElem?_map, List.getElem?_range (by omega)]
      rfl
    unfold marks_Blanks.l0
    rw [if_pos (by omega), if_pos (by omega), if_pos (by rw [hl]; omega), if_pos (by rw [List.length_map, List.length_range]; omega), mk_w64s i (nwords s.size) (by omega) (by omega), hr]
    exact h2
theorem mk_blanks_eq (s : ByteArray) (hn : s.size ≤ 1048576) (k : Nat) (hk : 67 * s.size + 67 < k) : marks_Blanks.f k s = some ((s.size : Int), wordsOf s.size (blq s)) := by
  have hw : nwords s.size ≤ s.size + 1 := by unfold nwords; omega
  unfold marks_Blanks.f marks_look.f
  rw [if_pos (by omega), Option.bind_some, show (lookL s).length = nwords s.size by simp [lookL]]
  exact mk_prog_loop s hn s.size (nwords s.size) 0 k (by omega) (by omega)
theorem mk_awake8 : ∃ k, quarrylaw08_awake.f k = some true := by
  refine ⟨100, ?_⟩
  decide +kernel

end MkF
theorem mkeeps_same (base : Nat) (W : World) (z : Int) (n : Nat) (xs : List Int) (A A' : Option Addr) (c c' : Nat) (hn : xs.length = n) (hl : xs.length ≤ 1099511627776) (h : RowK .u64 41 base W (.slice A n c, xs)) (h' : RowK .u64 41 base W (.slice A' n c', xs)) :
    Calls Tryd.prog 8 #[.agg #[.int .i64 z, .slice A n c], .agg #[.int .i64 z, .slice A' n c']] W fun e w' => e = .returned (.bool true) ∧ Below W.heap.size W w' := by
  subst hn
  have h1 := h.reads rfl rfl
  have h2 := h'.reads rfl rfl
  exact quarryref00_SameBits.calls (xs.length + 2) z A c xs z A' c' xs true W h1.2 h1.1 h2.2 h2.1 (MkF.mk_same_refl z xs (by omega) _ (by omega))
theorem mkeeps_copy (base : Nat) (W : World) (z : Int) (n : Nat) (xs : List Int) (A : Option Addr) (c : Nat) (hn : xs.length = n) (hl : xs.length ≤ 1099511627776) (h : RowK .u64 41 base W (.slice A n c, xs)) :
    Calls Tryd.prog 10 #[.agg #[.int .i64 z, .slice A n c]] W fun e w' => ∃ v : Value, e = .returned (.agg #[.int .i64 z, v]) ∧ w'.ownsRow W.heap.size 41 1 v n (xs.map (Value.int .u64)) ∧ Below W.heap.size W w' := by
  subst hn
  have h1 := h.reads rfl rfl
  refine (quarryref00_CopyBits.calls (xs.length + 1) z A c xs z xs W h1.2 h1.1 (MkF.mk_copy_eq xs z hl _ (by omega))).mono ?_
  rintro e w' ⟨v, rfl, hR, hb⟩
  exact ⟨v, rfl, Kd.own_of_R hR, hb⟩
theorem mkeeps_samei (base : Nat) (W : World) (n : Nat) (xs : List Int) (A A' : Option Addr) (c c' : Nat) (hn : xs.length = n) (hl : xs.length ≤ 1099511627776) (h : RowK .i64 3 base W (.slice A n c, xs)) (h' : RowK .i64 3 base W (.slice A' n c', xs)) :
    Calls Tryd.prog 7 #[.slice A n c, .slice A' n c'] W fun e w' => e = .returned (.bool true) ∧ Below W.heap.size W w' := by
  subst hn
  have h1 := h.reads rfl rfl
  have h2 := h'.reads rfl rfl
  refine (quarryref00_SameInts.calls (xs.length + 1) A c xs A' c' xs true W h1.2 h1.1 h2.2 h2.1 (MkF.mk_sameints_refl xs (by omega) _ (by omega))).mono ?_
  rintro e w' ⟨rfl, ⟨nd, rfl⟩⟩
  exact ⟨rfl, pw_below_drewN (Below.refl _ _) nd⟩
theorem mkeeps_copyi (base : Nat) (W : World) (n : Nat) (xs : List Int) (A : Option Addr) (c : Nat) (hn : xs.length = n) (hl : xs.length ≤ 1099511627776) (h : RowK .i64 3 base W (.slice A n c, xs)) :
    Calls Tryd.prog 9 #[.slice A n c] W fun e w' => ∃ v : Value, e = .returned v ∧ w'.ownsRow W.heap.size 3 1 v n (xs.map (Value.int .i64)) ∧ Below W.heap.size W w' := by
  subst hn
  have h1 := h.reads rfl rfl
  refine (quarryref00_CopyInts.calls (xs.length + 1) A c xs xs W h1.2 h1.1 (MkF.mk_copyi_eq xs hl _ (by omega))).mono ?_
  rintro e w' ⟨v, rfl, hR, hb⟩
  exact ⟨v, rfl, Kd.own_of_R hR, hb⟩
theorem mkeeps_blks {q : IntKind} {e base N : Nat} {W W' : World} {L : List (Value × List Int)} {Bs : List (Nat × Array Value × Nat)} (h : Tv N (bgV L) W W') (hg : BagK q e base W L) (hN : N ≤ L.length) (hb : Blks Bs W) (ht : ∀ b ∈ Bs, b.2.2 ≠ e) : Blks Bs W' := ⟨fun b m => h.blkK hg hN (hb.out b m) (ht b m)⟩
set_option maxHeartbeats 4000000 in
set_option maxRecDepth 100000 in
theorem quarrylaw08_MarksKeeps.true_ (s t : ByteArray) (hs : s.size ≤ 1048576) (ht : t.size ≤ 1048576) (w : World) (hT : TabOk w) :
    Calls Tryd.prog 3 #[.string s, .string t] w fun e w' => e = .returned (.bool true) ∧ Below w.heap.size w w' := by
  have HB := BelowH.refl w
  obtain ⟨zs, hzs⟩ : ∃ zs : Int, zs = (s.size : Int) := ⟨_, rfl⟩
  obtain ⟨zt, hzt⟩ : ∃ zt : Int, zt = (t.size : Int) := ⟨_, rfl⟩
  obtain ⟨is_, his⟩ : ∃ is_, is_ = idxL s s.size := ⟨_, rfl⟩
  obtain ⟨it, hit⟩ : ∃ it, it = idxL t t.size := ⟨_, rfl⟩
  obtain ⟨bs, hbs⟩ : ∃ bs, bs = wordsOf s.size (blq s) := ⟨_, rfl⟩
  obtain ⟨ct, hct⟩ : ∃ ct, ct = wordsOf t.size (blq t) := ⟨_, rfl⟩
  obtain ⟨ns, hns⟩ : ∃ ns, ns = is_.length := ⟨_, rfl⟩
  obtain ⟨nt, hnt⟩ : ∃ nt, nt = it.length := ⟨_, rfl⟩
  obtain ⟨bn, hbn⟩ : ∃ bn, bn = bs.length := ⟨_, rfl⟩
  obtain ⟨cn, hcn⟩ : ∃ cn, cn = ct.length := ⟨_, rfl⟩
  have HLN : Aside0 (is_.length = ns ∧ it.length = nt ∧ bs.length = bn ∧ ct.length = cn ∧ ns ≤ 1099511627776 ∧ nt ≤ 1099511627776 ∧ bn ≤ 1099511627776 ∧ cn ≤ 1099511627776) := ⟨hns.symm, hnt.symm, hbn.symm, hcn.symm, by rw [hns, his]; have := idxL_length s s.size; omega, by rw [hnt, hit]; have := idxL_length t t.size; omega, by rw [hbn, hbs, wordsOf_length]; unfold nwords; omega, by rw [hcn, hct, wordsOf_length]; unfold nwords; omega⟩
  have IXs : Aside0 (∀ W, TabOk W → Calls Tryd.prog 5 #[.string s] W fun e w' => ∃ v : Value, e = .returned v ∧ w'.ownsRow W.heap.size 3 1 v ns (is_.map (Value.int .i64)) ∧ Below W.heap.size W w') := ⟨fun W h => by
    refine (marks_Index.calls s is_ W h (by unfold marks_Index.f; rw [if_pos (by omega), his])).mono ?_
    rintro e w' ⟨v, rfl, hR, hb⟩
    have hr := Kd.own_of_R hR
    rw [HLN.out.1] at hr
    exact ⟨v, rfl, hr, hb⟩⟩
  have IXt : Aside0 (∀ W, TabOk W → Calls Tryd.prog 5 #[.string t] W fun e w' => ∃ v : Value, e = .returned v ∧ w'.ownsRow W.heap.size 3 1 v nt (it.map (Value.int .i64)) ∧ Below W.heap.size W w') := ⟨fun W h => by
    refine (marks_Index.calls t it W h (by unfold marks_Index.f; rw [if_pos (by omega), hit])).mono ?_
    rintro e w' ⟨v, rfl, hR, hb⟩
    have hr := Kd.own_of_R hR
    rw [HLN.out.2.1] at hr
    exact ⟨v, rfl, hr, hb⟩⟩
  have BKs : Aside0 (∀ W, Calls Tryd.prog 6 #[.string s] W fun e w' => ∃ v : Value, e = .returned (.agg #[.int .i64 zs, v]) ∧ w'.ownsRow W.heap.size 41 1 v bn (bs.map (Value.int .u64)) ∧ Below W.heap.size W w') := ⟨fun W => by
    refine (marks_Blanks.calls (67 * s.size + 68) s zs bs W (by rw [hzs, hbs]; exact MkF.mk_blanks_eq s hs _ (by omega))).mono ?_
    rintro e w' ⟨v, rfl, hR, hb⟩
    have hr := Kd.own_of_R hR
    rw [HLN.out.2.2.1] at hr
    exact ⟨v, rfl, hr, hb⟩⟩
  have BKt : Aside0 (∀ W, Calls Tryd.prog 6 #[.string t] W fun e w' => ∃ v : Value, e = .returned (.agg #[.int .i64 zt, v]) ∧ w'.ownsRow W.heap.size 41 1 v cn (ct.map (Value.int .u64)) ∧ Below W.heap.size W w') := ⟨fun W => by
    refine (marks_Blanks.calls (67 * t.size + 68) t zt ct W (by rw [hzt, hct]; exact MkF.mk_blanks_eq t ht _ (by omega))).mono ?_
    rintro e w' ⟨v, rfl, hR, hb⟩
    have hr := Kd.own_of_R hR
    rw [HLN.out.2.2.2.1] at hr
    exact ⟨v, rfl, hr, hb⟩⟩
  have AW : Aside0 (∀ W, TabOk W → Calls Tryd.prog 4 #[] W fun e w' => e = .returned (.bool true) ∧ Below W.heap.size W w') := ⟨fun W h => by
    obtain ⟨k, hk⟩ := MkF.mk_awake8
    exact quarrylaw08_awake.calls k true W h hk⟩
  have SBT : Aside0 (∀ (W : World) (z : Int) (n : Nat) (xs : List Int) (A A' : Option Addr) (c c' : Nat), xs.length = n → RowK .u64 41 w.heap.size W (.slice A n c, xs) → RowK .u64 41 w.heap.size W (.slice A' n c', xs) → n ≤ 1099511627776 → Calls Tryd.prog 8 #[.agg #[.int .i64 z, .slice A n c], .agg #[.int .i64 z, .slice A' n c']] W fun e w' => e = .returned (.bool true) ∧ Below W.heap.size W w') := ⟨fun W z n xs A A' c c' hn h h' hl => mkeeps_same w.heap.size W z n xs A A' c c' hn (by omega) h h'⟩
  have CPT : Aside0 (∀ (W : World) (z : Int) (n : Nat) (xs : List Int) (A : Option Addr) (c : Nat), xs.length = n → RowK .u64 41 w.heap.size W (.slice A n c, xs) → n ≤ 1099511627776 → Calls Tryd.prog 10 #[.agg #[.int .i64 z, .slice A n c]] W fun e w' => ∃ v : Value, e = .returned (.agg #[.int .i64 z, v]) ∧ w'.ownsRow W.heap.size 41 1 v n (xs.map (Value.int .u64)) ∧ Below W.heap.size W w') := ⟨fun W z n xs A c hn h hl => mkeeps_copy w.heap.size W z n xs A c hn (by omega) h⟩
  have SIT : Aside0 (∀ (W : World) (n : Nat) (xs : List Int) (A A' : Option Addr) (c c' : Nat), xs.length = n → RowK .i64 3 w.heap.size W (.slice A n c, xs) → RowK .i64 3 w.heap.size W (.slice A' n c', xs) → n ≤ 1099511627776 → Calls Tryd.prog 7 #[.slice A n c, .slice A' n c'] W fun e w' => e = .returned (.bool true) ∧ Below W.heap.size W w') := ⟨fun W n xs A A' c c' hn h h' hl => mkeeps_samei w.heap.size W n xs A A' c c' hn (by omega) h h'⟩
  have CIT : Aside0 (∀ (W : World) (n : Nat) (xs : List Int) (A : Option Addr) (c : Nat), xs.length = n → RowK .i64 3 w.heap.size W (.slice A n c, xs) → n ≤ 1099511627776 → Calls Tryd.prog 9 #[.slice A n c] W fun e w' => ∃ v : Value, e = .returned v ∧ w'.ownsRow W.heap.size 3 1 v n (xs.map (Value.int .i64)) ∧ Below W.heap.size W w') := ⟨fun W n xs A c hn h hl => mkeeps_copyi w.heap.size W n xs A c hn (by omega) h⟩
  have HT := Aside0.mk hT
  have HBI := Aside0.mk (BagK.nil .i64 3 w.heap.size w)
  have HBW := Aside0.mk (BagK.nil .u64 41 w.heap.size w)
  have HBL := Aside0.mk (Blks.nil w)
  have TK1 := Aside0.mk trivial
  have TK3 := Aside0.mk trivial
  have TW1 := Aside0.mk trivial
  have TW3 := Aside0.mk trivial
  have TK2 := Aside0.mk trivial
  have TW2 := Aside0.mk trivial
  clear hzs hzt his hit hbs hct hns hnt hbn hcn hs ht hT
  go_enter Tryd.func3, Tryd.ntmps3
  go_upto_region 4 with (first
    | (go_at_call 4; go_must (refine (AW.out _ (HT.out.step HB.out)).mono ?_); rintro e w0 ⟨rfl, hb⟩; have HBIn := Aside0.mk (HBI.out.below hb); have HBWn := Aside0.mk (HBW.out.below hb); have HBLn := Aside0.mk (HBL.out.below hb); have HBn := HB.step hb; clear HBI HBW HBL HB; have HBI := HBIn; have HBW := HBWn; have HBL := HBLn; have HB := HBn; clear HBIn HBWn HBLn HBn; clear hb)
    | (go_at_call 5; clear TK1; refine (IXs.out _ (HT.out.step HB.out)).mono ?_; rintro e wi1 ⟨v1, rfl, hrow, hb⟩; obtain ⟨A1, c1, rfl⟩ := own_slice hrow; have HBIn := (show Aside0 (BagK .i64 3 w.heap.size wi1 [(.slice A1 ns c1, is_)]) from ⟨HBI.out.snoc HB.le hb HLN.out.1 hrow⟩); have HBWn := Aside0.mk (HBW.out.below hb); have HBLn := Aside0.mk (HBL.out.below hb); have HBn := HB.step hb; clear HBI HBW HBL HB; have HBI := HBIn; have HBW := HBWn; have HBL := HBLn; have HB := HBn; clear HBIn HBWn HBLn HBn; clear hrow hb)
    | (go_at_call 5; clear TK2; refine (IXt.out _ (HT.out.step HB.out)).mono ?_; rintro e wi2 ⟨v2, rfl, hrow, hb⟩; obtain ⟨A2, c2, rfl⟩ := own_slice hrow; have HBIn := (show Aside0 (BagK .i64 3 w.heap.size wi2 [(.slice A1 ns c1, is_), (.slice A2 nt c2, it)]) from ⟨HBI.out.snoc HB.le hb HLN.out.2.1 hrow⟩); have HBWn := Aside0.mk (HBW.out.below hb); have HBLn := Aside0.mk (HBL.out.below hb); have HBn := HB.step hb; clear HBI HBW HBL HB; have HBI := HBIn; have HBW := HBWn; have HBL := HBLn; have HB := HBn; clear HBIn HBWn HBLn HBn; clear hrow hb)
    | (go_at_call 5; clear TK3; refine (IXs.out _ (HT.out.step HB.out)).mono ?_; rintro e wi3 ⟨v3, rfl, hrow, hb⟩; obtain ⟨A3, c3, rfl⟩ := own_slice hrow; have HBIn := (show Aside0 (BagK .i64 3 w.heap.size wi3 [(.slice A1 ns c1, is_), (.slice A2 nt c2, it), (.slice A3 ns c3, is_)]) from ⟨HBI.out.snoc HB.le hb HLN.out.1 hrow⟩); have HBWn := Aside0.mk (HBW.out.below hb); have HBLn := Aside0.mk (HBL.out.below hb); have HBn := HB.step hb; clear HBI HBW HBL HB; have HBI := HBIn; have HBW := HBWn; have HBL := HBLn; have HB := HBn; clear HBIn HBWn HBLn HBn; clear hrow hb))
  go_upto_region 5 with (first
    | (go_at_call 6; clear TW1; refine (BKs.out _).mono ?_; rintro e ww1 ⟨v1, rfl, hrow, hb⟩; obtain ⟨C1, e1, rfl⟩ := own_slice hrow; have HBIn := Aside0.mk (HBI.out.below hb); have HBWn := (show Aside0 (BagK .u64 41 w.heap.size ww1 [(.slice C1 bn e1, bs)]) from ⟨HBW.out.snoc HB.le hb HLN.out.2.2.1 hrow⟩); have HBLn := Aside0.mk (HBL.out.below hb); have HBn := HB.step hb; clear HBI HBW HBL HB; have HBI := HBIn; have HBW := HBWn; have HBL := HBLn; have HB := HBn; clear HBIn HBWn HBLn HBn; clear hrow hb)
    | (go_at_call 6; clear TW2; refine (BKt.out _).mono ?_; rintro e ww2 ⟨v2, rfl, hrow, hb⟩; obtain ⟨C2, e2, rfl⟩ := own_slice hrow; have HBIn := Aside0.mk (HBI.out.below hb); have HBWn := (show Aside0 (BagK .u64 41 w.heap.size ww2 [(.slice C1 bn e1, bs), (.slice C2 cn e2, ct)]) from ⟨HBW.out.snoc HB.le hb HLN.out.2.2.2.1 hrow⟩); have HBLn := Aside0.mk (HBL.out.below hb); have HBn := HB.step hb; clear HBI HBW HBL HB; have HBI := HBIn; have HBW := HBWn; have HBL := HBLn; have HB := HBn; clear HBIn HBWn HBLn HBn; clear hrow hb)
    | (go_at_call 6; clear TW3; refine (BKs.out _).mono ?_; rintro e ww3 ⟨v3, rfl, hrow, hb⟩; obtain ⟨C3, e3, rfl⟩ := own_slice hrow; have HBIn := Aside0.mk (HBI.out.below hb); have HBWn := (show Aside0 (BagK .u64 41 w.heap.size ww3 [(.slice C1 bn e1, bs), (.slice C2 cn e2, ct), (.slice C3 bn e3, bs)]) from ⟨HBW.out.snoc HB.le hb HLN.out.2.2.1 hrow⟩); have HBLn := Aside0.mk (HBL.out.below hb); have HBn := HB.step hb; clear HBI HBW HBL HB; have HBI := HBIn; have HBW := HBWn; have HBL := HBLn; have HB := HBn; clear HBIn HBWn HBLn HBn; clear hrow hb)
    | ((with_reducible refine gate_dst (N := 8) rfl ?_); refine ev_alloc HB rfl (#[.int .i64 0, .slice none 0 0]) 27 ?hr ?_; (case hr => first | (go_simp; done) | (go_simp; rfl)); intro g8 wa1 G1 GE1 B1 HBn K1; clear HBn; have NE1 := Aside0.mk (HBL.out.fresh G1.out); have HBIn := Aside0.mk (HBI.out.below K1.out); have HBWn := Aside0.mk (HBW.out.below K1.out); have HBLn := Aside0.mk (HBL.out.below K1.out); have HBn := HB.step K1.out; clear HBI HBW HBL HB; have HBI := HBIn; have HBW := HBWn; have HBL := HBLn; have HB := HBn; clear HBIn HBWn HBLn HBn; clear K1 G1)
    | ((with_reducible refine gate_dst (N := 9) rfl ?_); refine ev_alloc HB rfl (#[.int .i64 0, .slice none 0 0]) 27 ?hr ?_; (case hr => first | (go_simp; done) | (go_simp; rfl)); intro g9 wa2 G2 GE2 B2 HBn K2; clear HBn; have NE2 := Aside0.mk (HBL.out.fresh G2.out); have P1n := B1.below K2.out; have N12 : Aside0 (g8 ≠ g9) := ⟨by have := B1.lt; have := G2.out; omega⟩; clear B1; have B1 := P1n; clear P1n; have HBIn := Aside0.mk (HBI.out.below K2.out); have HBWn := Aside0.mk (HBW.out.below K2.out); have HBLn := Aside0.mk (HBL.out.below K2.out); have HBn := HB.step K2.out; clear HBI HBW HBL HB; have HBI := HBIn; have HBW := HBWn; have HBL := HBLn; have HB := HBn; clear HBIn HBWn HBLn HBn; clear K2 G2)
    | ((with_reducible refine gate_dst (N := 10) rfl ?_); refine ev_alloc HB rfl (#[.int .i64 0, .slice none 0 0]) 27 ?hr ?_; (case hr => first | (go_simp; done) | (go_simp; rfl)); intro g10 wa3 G3 GE3 B3 HBn K3; clear HBn; have NE3 := Aside0.mk (HBL.out.fresh G3.out); have P1n := B1.below K3.out; have N13 : Aside0 (g8 ≠ g10) := ⟨by have := B1.lt; have := G3.out; omega⟩; clear B1; have B1 := P1n; clear P1n; have P2n := B2.below K3.out; have N23 : Aside0 (g9 ≠ g10) := ⟨by have := B2.lt; have := G3.out; omega⟩; clear B2; have B2 := P2n; clear P2n; have HBIn := Aside0.mk (HBI.out.below K3.out); have HBWn := Aside0.mk (HBW.out.below K3.out); have HBLn := Aside0.mk (HBL.out.below K3.out); have HBn := HB.step K3.out; clear HBI HBW HBL HB; have HBI := HBIn; have HBW := HBWn; have HBL := HBLn; have HB := HBn; clear HBIn HBWn HBLn HBn; clear K3 G3)
    | ((with_reducible refine gate_ (Op.store 27 (.tmp 8) (.tmp 24)) rfl ?_); refine ev_store HB B1 GE1 rfl 27 _ _ rfl rfl rfl (by kernel_rfl) rfl (by simp [Value.oneCell']) ?_; intro ws1 S1 HBn K1; have P2n := B2.other K1 (Ne.symm N12.out); clear B2; have B2 := P2n; clear P2n; have P3n := B3.other K1 (Ne.symm N13.out); clear B3; have B3 := P3n; clear P3n; have HBIn := Aside0.mk (HBI.out.other B1 (by decide) K1); have HBWn := Aside0.mk (HBW.out.other B1 (by decide) K1); have HBLn := Aside0.mk (HBL.out.other K1 NE1.out); clear HBI HBW HBL HB B1 K1 NE1; have HBI := HBIn; have HBW := HBWn; have HBL := HBLn; have HB := HBn; clear HBIn HBWn HBLn HBn)
    | ((with_reducible refine gate_ (Op.store 27 (.tmp 9) (.tmp 26)) rfl ?_); refine ev_store HB B2 GE2 rfl 27 _ _ rfl rfl rfl (by kernel_rfl) rfl (by simp [Value.oneCell']) ?_; intro ws2 S2 HBn K2; have P3n := B3.other K2 (Ne.symm N23.out); clear B3; have B3 := P3n; clear P3n; have S1n := S1.other K2 N12.out; clear S1; have S1 := S1n; clear S1n; have HBIn := Aside0.mk (HBI.out.other B2 (by decide) K2); have HBWn := Aside0.mk (HBW.out.other B2 (by decide) K2); have HBLn := Aside0.mk (HBL.out.other K2 NE2.out); clear HBI HBW HBL HB B2 K2 NE2; have HBI := HBIn; have HBW := HBWn; have HBL := HBLn; have HB := HBn; clear HBIn HBWn HBLn HBn)
    | ((with_reducible refine gate_ (Op.store 27 (.tmp 10) (.tmp 28)) rfl ?_); refine ev_store HB B3 GE3 rfl 27 _ _ rfl rfl rfl (by kernel_rfl) rfl (by simp [Value.oneCell']) ?_; intro ws3 S3 HBn K3; have S1n := S1.other K3 N13.out; clear S1; have S1 := S1n; clear S1n; have S2n := S2.other K3 N23.out; clear S2; have S2 := S2n; clear S2n; have HBIn := Aside0.mk (HBI.out.other B3 (by decide) K3); have HBWn := Aside0.mk (HBW.out.other B3 (by decide) K3); have HBLn := Aside0.mk (HBL.out.other K3 NE3.out); clear HBI HBW HBL HB B3 K3 NE3; have HBI := HBIn; have HBW := HBWn; have HBL := HBLn; have HB := HBn; clear HBIn HBWn HBLn HBn))
  have HBLn : Aside0 (Blks [(g10, #[.int .i64 zs, .slice C3 bn e3], 27), (g9, #[.int .i64 zt, .slice C2 cn e2], 27), (g8, #[.int .i64 zs, .slice C1 bn e1], 27)] ws3) := ⟨((HBL.out.cons S1).cons S2).cons S3⟩
  clear HBL S1 S2 S3 GE1 GE2 GE3 N12 N13 N23
  have HBL := HBLn
  clear HBLn
  have k1a := (HBL.out.out (g8, #[.int .i64 zs, .slice C1 bn e1], 27) (by simp)).cell (i := 0) rfl; have k1b := (HBL.out.out (g8, #[.int .i64 zs, .slice C1 bn e1], 27) (by simp)).cell (i := 1) rfl; have k3a := (HBL.out.out (g10, #[.int .i64 zs, .slice C3 bn e3], 27) (by simp)).cell (i := 0) rfl; have k3b := (HBL.out.out (g10, #[.int .i64 zs, .slice C3 bn e3], 27) (by simp)).cell (i := 1) rfl
  go_upto_region 7 with (first
    | (go_at_call 7; refine (SIT.out _ _ _ _ _ _ _ HLN.out.1 (HBI.out.row 0 _ rfl) (HBI.out.row 2 _ rfl) HLN.out.2.2.2.2.1).mono ?_; rintro e wq1 ⟨rfl, hb⟩; clear k1a k1b k3a k3b; have HBIn := Aside0.mk (HBI.out.below hb); have HBWn := Aside0.mk (HBW.out.below hb); have HBLn := Aside0.mk (HBL.out.below hb); have HBn := HB.step hb; clear HBI HBW HBL HB; have HBI := HBIn; have HBW := HBWn; have HBL := HBLn; have HB := HBn; clear HBIn HBWn HBLn HBn; clear hb; have k1a := (HBL.out.out (g8, #[.int .i64 zs, .slice C1 bn e1], 27) (by simp)).cell (i := 0) rfl; have k1b := (HBL.out.out (g8, #[.int .i64 zs, .slice C1 bn e1], 27) (by simp)).cell (i := 1) rfl; have k3a := (HBL.out.out (g10, #[.int .i64 zs, .slice C3 bn e3], 27) (by simp)).cell (i := 0) rfl; have k3b := (HBL.out.out (g10, #[.int .i64 zs, .slice C3 bn e3], 27) (by simp)).cell (i := 1) rfl)
    | (go_at_call 8; refine (SBT.out _ _ _ _ _ _ _ _ HLN.out.2.2.1 (HBW.out.row 0 _ rfl) (HBW.out.row 2 _ rfl) HLN.out.2.2.2.2.2.2.1).mono ?_; rintro e wq2 ⟨rfl, hb⟩; clear k1a k1b k3a k3b; have HBIn := Aside0.mk (HBI.out.below hb); have HBWn := Aside0.mk (HBW.out.below hb); have HBLn := Aside0.mk (HBL.out.below hb); have HBn := HB.step hb; clear HBI HBW HBL HB; have HBI := HBIn; have HBW := HBWn; have HBL := HBLn; have HB := HBn; clear HBIn HBWn HBLn HBn; clear hb))
  go_cut [11, 12] from 72 (fun v11 v12 wx => ∃ (g12 c4 e4 : Nat) (A4 C4 : Option Addr), v11 = .slice A4 ns c4 ∧ v12 = .pointer (some ⟨g12, 0, none⟩) ∧ Aside0 (BagK .i64 3 w.heap.size wx [(.slice A1 ns c1, is_), (.slice A2 nt c2, it), (.slice A3 ns c3, is_), (.slice A4 ns c4, is_)]) ∧ Aside0 (BagK .u64 41 w.heap.size wx [(.slice C1 bn e1, bs), (.slice C2 cn e2, ct), (.slice C3 bn e3, bs), (.slice C4 bn e4, bs)]) ∧ Aside0 (Blks [(g12, #[.int .i64 zs, .slice C4 bn e4], 27), (g10, #[.int .i64 zs, .slice C3 bn e3], 27), (g9, #[.int .i64 zt, .slice C2 cn e2], 27), (g8, #[.int .i64 zs, .slice C1 bn e1], 27)] wx) ∧ BelowH w wx)
  case first =>
    have HBIn := Aside0.mk (HBI.out.below (below_drew (Below.refl _ _)))
    have HBWn := Aside0.mk (HBW.out.below (below_drew (Below.refl _ _)))
    have HBLn := Aside0.mk (HBL.out.below (below_drew (Below.refl _ _)))
    have HBn := HB.step (below_drew (Below.refl _ _))
    clear HBI HBW HBL HB
    have HBI := HBIn
    have HBW := HBWn
    have HBL := HBLn
    have HB := HBn
    clear HBIn HBWn HBLn HBn
    refine wp_region_noPanic ?_
    refine wp_region_last_drew (S := fun W' => Blk W' g8 #[.int .i64 zs, .slice C1 bn e1] 27) (ds := [6]) (by kernel_rfl) (HBL.out.out (g8, #[.int .i64 zs, .slice C1 bn e1], 27) (by simp)) (fun hS => ?_)
    refine' wpAnyLast_take (i := 0) (oi := Oper.mk _ _ _ _ _ _) rfl (by kernel_rfl) (by kernel_rfl) (by kernel_rfl) (by kernel_rfl) (by kernel_rfl) (fun _ _ _ h => h) (Or.inl ⟨by rfl, ?hy1⟩) hS ?rest1
    case hy1 => (intro w hSw; (try dsimp only at hSw); first | (go_simp; done) | (go_simp; with_reducible rfl))
    try simp only [Act.put, List.setIfInBounds_toArray, List.set_cons_zero, List.set_cons_succ]
    refine wpAnyLast_take (i := 2) (oi := Oper.mk _ _ _ _ _ _) rfl (by kernel_rfl) (by kernel_rfl) (by kernel_rfl) (by kernel_rfl) (by kernel_rfl) (fun _ _ _ h => h) (rg_load (by rfl) (fun _ hS => hS) 27 _ rfl rfl Tryd.underlying27 rfl (by kernel_rfl)) hS ?_
    try simp only [Act.put, List.setIfInBounds_toArray, List.set_cons_zero, List.set_cons_succ]
    refine wpAnyLast_ready (rs := [1, 4]) (by kernel_rfl) (by simp) ?_
    refine AllReadyL.cons (o := Oper.mk _ _ _ _ _ _) rfl (by decide) (fun K hK => ?_) ?_
    · refine call_ 9 #[.slice A1 ns c1] (by rfl) rfl (by first | (go_simp; done) | (go_simp; rfl)) ((CIT.out _ _ _ _ _ HLN.out.1 (HBI.out.row 0 _ rfl) HLN.out.2.2.2.2.1).mono ?_)
      rintro e W' ⟨v, rfl, hrow, hb'⟩
      obtain ⟨A4, c4, rfl⟩ := own_slice hrow
      have HBIx : Aside0 (BagK .i64 3 w.heap.size W' [(.slice A1 ns c1, is_), (.slice A2 nt c2, it), (.slice A3 ns c3, is_), (.slice A4 ns c4, is_)]) := ⟨HBI.out.snoc HB.le hb' HLN.out.1 hrow⟩
      have hb := Aside0.mk hb'
      clear hrow hb'
      have HBIn := Aside0.mk (HBI.out.below hb.out)
      have HBWn := Aside0.mk (HBW.out.below hb.out)
      have HBLn := Aside0.mk (HBL.out.below hb.out)
      have HBn := HB.step hb.out
      clear HBI HBW HBL HB
      have HBI := HBIn
      have HBW := HBWn
      have HBL := HBLn
      have HB := HBn
      clear HBIn HBWn HBLn HBn
      clear HBI
      have HBI := HBIx
      clear HBIx
      refine ⟨_, rfl, ?_⟩
      refine hK.out _ _ (HBL.out.out (g8, #[.int .i64 zs, .slice C1 bn e1], 27) (by simp)) (fun hS => ?_)
      clear hK K hb
      try simp only [Act.put, List.setIfInBounds_toArray, List.set_cons_zero, List.set_cons_succ]
      refine wpAnyLast_ready (rs := [3, 4]) (by kernel_rfl) (by simp) ?_
      refine AllReadyL.cons (o := Oper.mk _ _ _ _ _ _) rfl (by decide) (fun K hK => ?_) ?_
      · refine call_ 10 #[.agg #[.int .i64 zs, .slice C1 bn e1]] (by rfl) rfl (by first | (go_simp; done) | (go_simp; rfl)) ((CPT.out _ _ _ _ _ _ HLN.out.2.2.1 (HBW.out.row 0 _ rfl) HLN.out.2.2.2.2.2.2.1).mono ?_)
        rintro e W' ⟨v, rfl, hrow, hb'⟩
        obtain ⟨C4, e4, rfl⟩ := own_slice hrow
        have HBWx : Aside0 (BagK .u64 41 w.heap.size W' [(.slice C1 bn e1, bs), (.slice C2 cn e2, ct), (.slice C3 bn e3, bs), (.slice C4 bn e4, bs)]) := ⟨HBW.out.snoc HB.le hb' HLN.out.2.2.1 hrow⟩
        have hb := Aside0.mk hb'
        clear hrow hb'
        have HBIn := Aside0.mk (HBI.out.below hb.out)
        have HBWn := Aside0.mk (HBW.out.below hb.out)
        have HBLn := Aside0.mk (HBL.out.below hb.out)
        have HBn := HB.step hb.out
        clear HBI HBW HBL HB
        have HBI := HBIn
        have HBW := HBWn
        have HBL := HBLn
        have HB := HBn
        clear HBIn HBWn HBLn HBn
        clear HBW
        have HBW := HBWx
        clear HBWx
        refine ⟨_, rfl, ?_⟩
        refine hK.out _ _ (HBL.out.out (g8, #[.int .i64 zs, .slice C1 bn e1], 27) (by simp)) (fun hS => ?_)
        clear hK K hb
        try simp only [Act.put, List.setIfInBounds_toArray, List.set_cons_zero, List.set_cons_succ]
        refine wpAnyLast_ready (rs := [4]) (by kernel_rfl) (by simp) ?_
        refine AllReadyL.cons (o := Oper.mk _ _ _ _ _ _) rfl (by decide) (fun K hK => ?_) ?_
        · refine rg_alloc HB (by rfl) (#[.int .i64 0, .slice none 0 0]) 27 (by first | (go_simp; done) | (go_simp; rfl)) ?_
          intro g12 W' G4 GE4 B4 HBx hb
          have NE4 := Aside0.mk (HBL.out.fresh G4.out)
          clear HBx
          have HBIn := Aside0.mk (HBI.out.below hb.out)
          have HBWn := Aside0.mk (HBW.out.below hb.out)
          have HBLn := Aside0.mk (HBL.out.below hb.out)
          have HBn := HB.step hb.out
          clear HBI HBW HBL HB
          have HBI := HBIn
          have HBW := HBWn
          have HBL := HBLn
          have HB := HBn
          clear HBIn HBWn HBLn HBn
          refine hK.out _ _ (HBL.out.out (g8, #[.int .i64 zs, .slice C1 bn e1], 27) (by simp)) (fun hS => ?_)
          clear hK K hb G4
          try simp only [Act.put, List.setIfInBounds_toArray, List.set_cons_zero, List.set_cons_succ]
          refine' wpAnyLast_take (i := 5) (oi := Oper.mk _ _ _ _ _ _) rfl (by kernel_rfl) (by kernel_rfl) (by kernel_rfl) (by kernel_rfl) (by kernel_rfl) (fun _ _ _ h => h) (Or.inl ⟨by rfl, ?hy2⟩) hS ?rest2
          case hy2 => (intro w hSw; (try dsimp only at hSw); first | (go_simp; done) | (go_simp; with_reducible rfl))
          try simp only [Act.put, List.setIfInBounds_toArray, List.set_cons_zero, List.set_cons_succ]
          refine wpAnyLast_ready (rs := [6]) (by kernel_rfl) (by simp) ?_
          refine AllReadyL.cons_last (o := Oper.mk _ _ _ _ _ _) rfl (by decide) (fun K hK => ?_) ?_
          · refine rg_store HB (by rfl) B4 GE4 27 _ _ rfl rfl rfl (by kernel_rfl) rfl (by simp [Value.oneCell']) ?_
            intro w9 S4 HBx K4
            have HBIn := Aside0.mk (HBI.out.other B4 (by decide) K4)
            have HBWn := Aside0.mk (HBW.out.other B4 (by decide) K4)
            have HBLn : Aside0 (Blks [(g12, #[.int .i64 zs, .slice C4 bn e4], 27), (g10, #[.int .i64 zs, .slice C3 bn e3], 27), (g9, #[.int .i64 zt, .slice C2 cn e2], 27), (g8, #[.int .i64 zs, .slice C1 bn e1], 27)] w9) := ⟨(HBL.out.other K4 NE4.out).cons S4⟩
            clear HBI HBW HBL HB B4 K4 S4 NE4
            have HBI := HBIn
            have HBW := HBWn
            have HBL := HBLn
            have HB := HBx
            clear HBIn HBWn HBLn HBx
            refine hK.out _ _ ?_
            clear hK K
            try simp only [Act.put, List.setIfInBounds_toArray, List.set_cons_zero, List.set_cons_succ]
            refine wpAnyLast_done (by kernel_rfl) ?_ _
            refine NoPanic.normal ?_
            go_step
            go_step
            go_meet
            case rel => exact ⟨g12, c4, e4, A4, C4, rfl, rfl, HBI, HBW, HBL, HB⟩
          exact AllReadyL.nil
        exact AllReadyL.nil
      refine AllReadyL.cons (o := Oper.mk _ _ _ _ _ _) rfl (by decide) (fun K hK => ?_) ?_
      · refine rg_alloc HB (by rfl) (#[.int .i64 0, .slice none 0 0]) 27 (by first | (go_simp; done) | (go_simp; rfl)) ?_
        intro g12 W' G4 GE4 B4 HBx hb
        have NE4 := Aside0.mk (HBL.out.fresh G4.out)
        clear HBx
        have HBIn := Aside0.mk (HBI.out.below hb.out)
        have HBWn := Aside0.mk (HBW.out.below hb.out)
        have HBLn := Aside0.mk (HBL.out.below hb.out)
        have HBn := HB.step hb.out
        clear HBI HBW HBL HB
        have HBI := HBIn
        have HBW := HBWn
        have HBL := HBLn
        have HB := HBn
        clear HBIn HBWn HBLn HBn
        refine hK.out _ _ (HBL.out.out (g8, #[.int .i64 zs, .slice C1 bn e1], 27) (by simp)) (fun hS => ?_)
        clear hK K hb G4
        try simp only [Act.put, List.setIfInBounds_toArray, List.set_cons_zero, List.set_cons_succ]
        refine wpAnyLast_ready (rs := [3]) (by kernel_rfl) (by simp) ?_
        refine AllReadyL.cons (o := Oper.mk _ _ _ _ _ _) rfl (by decide) (fun K hK => ?_) ?_
        · refine call_ 10 #[.agg #[.int .i64 zs, .slice C1 bn e1]] (by rfl) rfl (by first | (go_simp; done) | (go_simp; rfl)) ((CPT.out _ _ _ _ _ _ HLN.out.2.2.1 (HBW.out.row 0 _ rfl) HLN.out.2.2.2.2.2.2.1).mono ?_)
          rintro e W' ⟨v, rfl, hrow, hb'⟩
          obtain ⟨C4, e4, rfl⟩ := own_slice hrow
          have HBWx : Aside0 (BagK .u64 41 w.heap.size W' [(.slice C1 bn e1, bs), (.slice C2 cn e2, ct), (.slice C3 bn e3, bs), (.slice C4 bn e4, bs)]) := ⟨HBW.out.snoc HB.le hb' HLN.out.2.2.1 hrow⟩
          have hb := Aside0.mk hb'
          clear hrow hb'
          have HBIn := Aside0.mk (HBI.out.below hb.out)
          have HBWn := Aside0.mk (HBW.out.below hb.out)
          have HBLn := Aside0.mk (HBL.out.below hb.out)
          have HBn := HB.step hb.out
          have B4n := B4.below hb.out
          clear HBI HBW HBL HB B4
          have HBI := HBIn
          have HBW := HBWn
          have HBL := HBLn
          have HB := HBn
          have B4 := B4n
          clear HBIn HBWn HBLn HBn B4n
          clear HBW
          have HBW := HBWx
          clear HBWx
          refine ⟨_, rfl, ?_⟩
          refine hK.out _ _ (HBL.out.out (g8, #[.int .i64 zs, .slice C1 bn e1], 27) (by simp)) (fun hS => ?_)
          clear hK K hb
          try simp only [Act.put, List.setIfInBounds_toArray, List.set_cons_zero, List.set_cons_succ]
          refine' wpAnyLast_take (i := 5) (oi := Oper.mk _ _ _ _ _ _) rfl (by kernel_rfl) (by kernel_rfl) (by kernel_rfl) (by kernel_rfl) (by kernel_rfl) (fun _ _ _ h => h) (Or.inl ⟨by rfl, ?hy3⟩) hS ?rest3
          case hy3 => (intro w hSw; (try dsimp only at hSw); first | (go_simp; done) | (go_simp; with_reducible rfl))
          try simp only [Act.put, List.setIfInBounds_toArray, List.set_cons_zero, List.set_cons_succ]
          refine wpAnyLast_ready (rs := [6]) (by kernel_rfl) (by simp) ?_
          refine AllReadyL.cons_last (o := Oper.mk _ _ _ _ _ _) rfl (by decide) (fun K hK => ?_) ?_
          · refine rg_store HB (by rfl) B4 GE4 27 _ _ rfl rfl rfl (by kernel_rfl) rfl (by simp [Value.oneCell']) ?_
            intro w9 S4 HBx K4
            have HBIn := Aside0.mk (HBI.out.other B4 (by decide) K4)
            have HBWn := Aside0.mk (HBW.out.other B4 (by decide) K4)
            have HBLn : Aside0 (Blks [(g12, #[.int .i64 zs, .slice C4 bn e4], 27), (g10, #[.int .i64 zs, .slice C3 bn e3], 27), (g9, #[.int .i64 zt, .slice C2 cn e2], 27), (g8, #[.int .i64 zs, .slice C1 bn e1], 27)] w9) := ⟨(HBL.out.other K4 NE4.out).cons S4⟩
            clear HBI HBW HBL HB B4 K4 S4 NE4
            have HBI := HBIn
            have HBW := HBWn
            have HBL := HBLn
            have HB := HBx
            clear HBIn HBWn HBLn HBx
            refine hK.out _ _ ?_
            clear hK K
            try simp only [Act.put, List.setIfInBounds_toArray, List.set_cons_zero, List.set_cons_succ]
            refine wpAnyLast_done (by kernel_rfl) ?_ _
            refine NoPanic.normal ?_
            go_step
            go_step
            go_meet
            case rel => exact ⟨g12, c4, e4, A4, C4, rfl, rfl, HBI, HBW, HBL, HB⟩
          exact AllReadyL.nil
        exact AllReadyL.nil
      exact AllReadyL.nil
    refine AllReadyL.cons (o := Oper.mk _ _ _ _ _ _) rfl (by decide) (fun K hK => ?_) ?_
    · refine rg_alloc HB (by rfl) (#[.int .i64 0, .slice none 0 0]) 27 (by first | (go_simp; done) | (go_simp; rfl)) ?_
      intro g12 W' G4 GE4 B4 HBx hb
      have NE4 := Aside0.mk (HBL.out.fresh G4.out)
      clear HBx
      have HBIn := Aside0.mk (HBI.out.below hb.out)
      have HBWn := Aside0.mk (HBW.out.below hb.out)
      have HBLn := Aside0.mk (HBL.out.below hb.out)
      have HBn := HB.step hb.out
      clear HBI HBW HBL HB
      have HBI := HBIn
      have HBW := HBWn
      have HBL := HBLn
      have HB := HBn
      clear HBIn HBWn HBLn HBn
      refine hK.out _ _ (HBL.out.out (g8, #[.int .i64 zs, .slice C1 bn e1], 27) (by simp)) (fun hS => ?_)
      clear hK K hb G4
      try simp only [Act.put, List.setIfInBounds_toArray, List.set_cons_zero, List.set_cons_succ]
      refine wpAnyLast_ready (rs := [1]) (by kernel_rfl) (by simp) ?_
      refine AllReadyL.cons (o := Oper.mk _ _ _ _ _ _) rfl (by decide) (fun K hK => ?_) ?_
      · refine call_ 9 #[.slice A1 ns c1] (by rfl) rfl (by first | (go_simp; done) | (go_simp; rfl)) ((CIT.out _ _ _ _ _ HLN.out.1 (HBI.out.row 0 _ rfl) HLN.out.2.2.2.2.1).mono ?_)
        rintro e W' ⟨v, rfl, hrow, hb'⟩
        obtain ⟨A4, c4, rfl⟩ := own_slice hrow
        have HBIx : Aside0 (BagK .i64 3 w.heap.size W' [(.slice A1 ns c1, is_), (.slice A2 nt c2, it), (.slice A3 ns c3, is_), (.slice A4 ns c4, is_)]) := ⟨HBI.out.snoc HB.le hb' HLN.out.1 hrow⟩
        have hb := Aside0.mk hb'
        clear hrow hb'
        have HBIn := Aside0.mk (HBI.out.below hb.out)
        have HBWn := Aside0.mk (HBW.out.below hb.out)
        have HBLn := Aside0.mk (HBL.out.below hb.out)
        have HBn := HB.step hb.out
        have B4n := B4.below hb.out
        clear HBI HBW HBL HB B4
        have HBI := HBIn
        have HBW := HBWn
        have HBL := HBLn
        have HB := HBn
        have B4 := B4n
        clear HBIn HBWn HBLn HBn B4n
        clear HBI
        have HBI := HBIx
        clear HBIx
        refine ⟨_, rfl, ?_⟩
        refine hK.out _ _ (HBL.out.out (g8, #[.int .i64 zs, .slice C1 bn e1], 27) (by simp)) (fun hS => ?_)
        clear hK K hb
        try simp only [Act.put, List.setIfInBounds_toArray, List.set_cons_zero, List.set_cons_succ]
        refine wpAnyLast_ready (rs := [3]) (by kernel_rfl) (by simp) ?_
        refine AllReadyL.cons (o := Oper.mk _ _ _ _ _ _) rfl (by decide) (fun K hK => ?_) ?_
        · refine call_ 10 #[.agg #[.int .i64 zs, .slice C1 bn e1]] (by rfl) rfl (by first | (go_simp; done) | (go_simp; rfl)) ((CPT.out _ _ _ _ _ _ HLN.out.2.2.1 (HBW.out.row 0 _ rfl) HLN.out.2.2.2.2.2.2.1).mono ?_)
          rintro e W' ⟨v, rfl, hrow, hb'⟩
          obtain ⟨C4, e4, rfl⟩ := own_slice hrow
          have HBWx : Aside0 (BagK .u64 41 w.heap.size W' [(.slice C1 bn e1, bs), (.slice C2 cn e2, ct), (.slice C3 bn e3, bs), (.slice C4 bn e4, bs)]) := ⟨HBW.out.snoc HB.le hb' HLN.out.2.2.1 hrow⟩
          have hb := Aside0.mk hb'
          clear hrow hb'
          have HBIn := Aside0.mk (HBI.out.below hb.out)
          have HBWn := Aside0.mk (HBW.out.below hb.out)
          have HBLn := Aside0.mk (HBL.out.below hb.out)
          have HBn := HB.step hb.out
          have B4n := B4.below hb.out
          clear HBI HBW HBL HB B4
          have HBI := HBIn
          have HBW := HBWn
          have HBL := HBLn
          have HB := HBn
          have B4 := B4n
          clear HBIn HBWn HBLn HBn B4n
          clear HBW
          have HBW := HBWx
          clear HBWx
          refine ⟨_, rfl, ?_⟩
          refine hK.out _ _ (HBL.out.out (g8, #[.int .i64 zs, .slice C1 bn e1], 27) (by simp)) (fun hS => ?_)
          clear hK K hb
          try simp only [Act.put, List.setIfInBounds_toArray, List.set_cons_zero, List.set_cons_succ]
          refine' wpAnyLast_take (i := 5) (oi := Oper.mk _ _ _ _ _ _) rfl (by kernel_rfl) (by kernel_rfl) (by kernel_rfl) (by kernel_rfl) (by kernel_rfl) (fun _ _ _ h => h) (Or.inl ⟨by rfl, ?hy4⟩) hS ?rest4
          case hy4 => (intro w hSw; (try dsimp only at hSw); first | (go_simp; done) | (go_simp; with_reducible rfl))
          try simp only [Act.put, List.setIfInBounds_toArray, List.set_cons_zero, List.set_cons_succ]
          refine wpAnyLast_ready (rs := [6]) (by kernel_rfl) (by simp) ?_
          refine AllReadyL.cons_last (o := Oper.mk _ _ _ _ _ _) rfl (by decide) (fun K hK => ?_) ?_
          · refine rg_store HB (by rfl) B4 GE4 27 _ _ rfl rfl rfl (by kernel_rfl) rfl (by simp [Value.oneCell']) ?_
            intro w9 S4 HBx K4
            have HBIn := Aside0.mk (HBI.out.other B4 (by decide) K4)
            have HBWn := Aside0.mk (HBW.out.other B4 (by decide) K4)
            have HBLn : Aside0 (Blks [(g12, #[.int .i64 zs, .slice C4 bn e4], 27), (g10, #[.int .i64 zs, .slice C3 bn e3], 27), (g9, #[.int .i64 zt, .slice C2 cn e2], 27), (g8, #[.int .i64 zs, .slice C1 bn e1], 27)] w9) := ⟨(HBL.out.other K4 NE4.out).cons S4⟩
            clear HBI HBW HBL HB B4 K4 S4 NE4
            have HBI := HBIn
            have HBW := HBWn
            have HBL := HBLn
            have HB := HBx
            clear HBIn HBWn HBLn HBx
            refine hK.out _ _ ?_
            clear hK K
            try simp only [Act.put, List.setIfInBounds_toArray, List.set_cons_zero, List.set_cons_succ]
            refine wpAnyLast_done (by kernel_rfl) ?_ _
            refine NoPanic.normal ?_
            go_step
            go_step
            go_meet
            case rel => exact ⟨g12, c4, e4, A4, C4, rfl, rfl, HBI, HBW, HBL, HB⟩
          exact AllReadyL.nil
        exact AllReadyL.nil
      exact AllReadyL.nil
    exact AllReadyL.nil
  case rest =>
    obtain ⟨g12, c4, e4, A4, C4, rfl, rfl, HBI, HBW, HBL, HB⟩ := hcut
    go_upto_region 9 with (first
      | ((with_reducible refine gate_dst (N := 46) rfl ?_); refine ev_litM rfl (#[.slice A1 ns c1, .slice A2 nt c2, .slice A3 ns c3]) 23 3 ?hr ?_; (case hr => first | (go_simp; done) | (go_simp; rfl)); intro gl wl Gl Bl Kl; have HBIn := Aside0.mk (HBI.out.below Kl.out); have HBWn := Aside0.mk (HBW.out.below Kl.out); have HBLn := Aside0.mk (HBL.out.below Kl.out); have HBn := HB.step Kl.out; clear HBI HBW HBL HB; have HBI := HBIn; have HBW := HBWn; have HBL := HBLn; have HB := HBn; clear HBIn HBWn HBLn HBn; clear Kl Gl)
      | (go_at_call 11; refine (quarrykit_ApartInts.walk 3 (bgV [(.slice A1 ns c1, is_), (.slice A2 nt c2, it), (.slice A3 ns c3, is_), (.slice A4 ns c4, is_)]) (bgN [(.slice A1 ns c1, is_), (.slice A2 nt c2, it), (.slice A3 ns c3, is_), (.slice A4 ns c4, is_)]) (bgC .i64 [(.slice A1 ns c1, is_), (.slice A2 nt c2, it), (.slice A3 ns c3, is_), (.slice A4 ns c4, is_)]) gl 3 _ _ (by decide) (fun i hi => ?hnn) Bl (fun i hi => ?hll) (fun i hi => HBI.out.rowF (by simp; omega)) (fun i j b hi hj => HBI.out.disV i j b (by simp; omega) (by simp; omega))).mono ?_; (case hnn => (have hh := HLN.out; (have h4 : i = 0 ∨ i = 1 ∨ i = 2 := by omega); rcases h4 with rfl | rfl | rfl <;> simp [bgN] <;> omega)); (case hll => ((have h4 : i = 0 ∨ i = 1 ∨ i = 2 := by omega); rcases h4 with rfl | rfl | rfl <;> rfl)); rintro e wt ⟨rfl, hTv⟩; have RI := Aside0.mk (hTv.rowK HBI.out (by simp) (i := 3) rfl (by decide)); have HBWn := Aside0.mk (hTv.bagTK HBI.out (by simp) (by decide) HBW.out); have HBLn := Aside0.mk (mkeeps_blks hTv HBI.out (by simp) HBL.out (by simp)); have HBn := hTv.belowHK HBI.out (by simp) HB; clear HBI HBW HBL HB Bl hTv; have HBW := HBWn; have HBL := HBLn; have HB := HBn; clear HBWn HBLn HBn))
    have k1a := (HBL.out.out (g8, #[.int .i64 zs, .slice C1 bn e1], 27) (by simp)).cell (i := 0) rfl; have k1b := (HBL.out.out (g8, #[.int .i64 zs, .slice C1 bn e1], 27) (by simp)).cell (i := 1) rfl; have k2a := (HBL.out.out (g9, #[.int .i64 zt, .slice C2 cn e2], 27) (by simp)).cell (i := 0) rfl; have k2b := (HBL.out.out (g9, #[.int .i64 zt, .slice C2 cn e2], 27) (by simp)).cell (i := 1) rfl; have k3a := (HBL.out.out (g10, #[.int .i64 zs, .slice C3 bn e3], 27) (by simp)).cell (i := 0) rfl; have k3b := (HBL.out.out (g10, #[.int .i64 zs, .slice C3 bn e3], 27) (by simp)).cell (i := 1) rfl
    go_upto_region 10 with (first
      | ((with_reducible refine gate_dst (N := 54) rfl ?_); refine ev_litM rfl (#[.slice C1 bn e1, .slice C2 cn e2, .slice C3 bn e3]) 25 3 ?hr ?_; (case hr => first | (go_simp; done) | (go_simp; rfl)); intro gl wl Gl Bl Kl; clear k1a k1b k2a k2b k3a k3b; have RIn := Aside0.mk (show RowK .i64 3 w.heap.size wl (.slice A4 ns c4, is_) from row_below RI.out Kl.out); have HBWn := Aside0.mk (HBW.out.below Kl.out); have HBLn := Aside0.mk (HBL.out.below Kl.out); have HBn := HB.step Kl.out; clear RI HBW HBL HB; have RI := RIn; have HBW := HBWn; have HBL := HBLn; have HB := HBn; clear RIn HBWn HBLn HBn; clear Kl Gl)
      | (go_at_call 12; refine (quarrykit_ApartWords.walk 3 (bgV [(.slice C1 bn e1, bs), (.slice C2 cn e2, ct), (.slice C3 bn e3, bs), (.slice C4 bn e4, bs)]) (bgN [(.slice C1 bn e1, bs), (.slice C2 cn e2, ct), (.slice C3 bn e3, bs), (.slice C4 bn e4, bs)]) (bgC .u64 [(.slice C1 bn e1, bs), (.slice C2 cn e2, ct), (.slice C3 bn e3, bs), (.slice C4 bn e4, bs)]) gl 3 _ _ (by decide) (fun i hi => ?hnn) Bl (fun i hi => ?hll) (fun i hi => HBW.out.rowF (by simp; omega)) (fun i j b hi hj => HBW.out.disV i j b (by simp; omega) (by simp; omega))).mono ?_; (case hnn => (have hh := HLN.out; (have h4 : i = 0 ∨ i = 1 ∨ i = 2 := by omega); rcases h4 with rfl | rfl | rfl <;> simp [bgN] <;> omega)); (case hll => ((have h4 : i = 0 ∨ i = 1 ∨ i = 2 := by omega); rcases h4 with rfl | rfl | rfl <;> rfl)); rintro e wt2 ⟨rfl, hTv⟩; have RW := Aside0.mk (hTv.rowK HBW.out (by simp) (i := 3) rfl (by decide)); have RIn := Aside0.mk (show RowK .i64 3 w.heap.size wt2 (.slice A4 ns c4, is_) from hTv.rowTK HBW.out (by simp) (by decide) RI.out); have HBLn := Aside0.mk (mkeeps_blks hTv HBW.out (by simp) HBL.out (by simp)); have HBn := hTv.belowHK HBW.out (by simp) HB; clear HBW HBL HB Bl hTv RI; have HBL := HBLn; have HB := HBn; have RI := RIn; clear HBLn HBn RIn))
    have B12 := HBL.out.out (g12, #[.int .i64 zs, .slice C4 bn e4], 27) (by simp)
    have B12n := B12.below (below_drew (Below.refl _ _))
    have HBn := HB.step (below_drew (Below.refl _ _))
    have RIn := Aside0.mk (row_below RI.out (below_drew (Below.refl _ _)))
    have RWn := Aside0.mk (row_below RW.out (below_drew (Below.refl _ _)))
    clear B12 HB RI RW
    have B12 := B12n
    have HB := HBn
    have RI := RIn
    have RW := RWn
    clear B12n HBn RIn RWn
    refine wp_region_noPanic ?_
    refine wp_region_last_drew (S := fun W' => Blk W' g12 #[.int .i64 zs, .slice C4 bn e4] 27) (ds := []) (by kernel_rfl) B12 (fun hS => ?_)
    refine' wpAnyLast_take (i := 0) (oi := Oper.mk _ _ _ _ _ _) rfl (by kernel_rfl) (by kernel_rfl) (by kernel_rfl) (by kernel_rfl) (by kernel_rfl) (fun _ _ _ h => h) (Or.inl ⟨by rfl, ?hy5⟩) hS ?rest5
    case hy5 => (intro w hSw; (try dsimp only at hSw); first | (go_simp; done) | (go_simp; with_reducible rfl))
    try simp only [Act.put, List.setIfInBounds_toArray, List.set_cons_zero, List.set_cons_succ]
    refine' wpAnyLast_take (i := 1) (oi := Oper.mk _ _ _ _ _ _) rfl (by kernel_rfl) (by kernel_rfl) (by kernel_rfl) (by kernel_rfl) (by kernel_rfl) (fun _ _ _ h => h) (Or.inl ⟨by rfl, ?hy6⟩) hS ?rest6
    case hy6 => (intro w hSw; (try dsimp only at hSw); first | (go_simp; done) | (go_simp; with_reducible rfl))
    try simp only [Act.put, List.setIfInBounds_toArray, List.set_cons_zero, List.set_cons_succ]
    refine' wpAnyLast_take (i := 2) (oi := Oper.mk _ _ _ _ _ _) rfl (by kernel_rfl) (by kernel_rfl) (by kernel_rfl) (by kernel_rfl) (by kernel_rfl) (fun _ _ _ h => h) (Or.inl ⟨by rfl, ?hy7⟩) hS ?rest7
    case hy7 => (intro w hSw; (try dsimp only at hSw); first | (go_simp; done) | (go_simp; with_reducible rfl))
    try simp only [Act.put, List.setIfInBounds_toArray, List.set_cons_zero, List.set_cons_succ]
    refine' wpAnyLast_take (i := 3) (oi := Oper.mk _ _ _ _ _ _) rfl (by kernel_rfl) (by kernel_rfl) (by kernel_rfl) (by kernel_rfl) (by kernel_rfl) (fun _ _ _ h => h) (Or.inl ⟨by rfl, ?hy8⟩) hS ?rest8
    case hy8 => (intro w hSw; (try dsimp only at hSw); first | (go_simp; done) | (go_simp; with_reducible rfl))
    try simp only [Act.put, List.setIfInBounds_toArray, List.set_cons_zero, List.set_cons_succ]
    refine' wpAnyLast_take (i := 4) (oi := Oper.mk _ _ _ _ _ _) rfl (by kernel_rfl) (by kernel_rfl) (by kernel_rfl) (by kernel_rfl) (by kernel_rfl) (fun _ _ _ h => h) (Or.inl ⟨by rfl, ?hy9⟩) hS ?rest9
    case hy9 => (intro w hSw; (try dsimp only at hSw); first | (go_simp; done) | (go_simp; with_reducible rfl))
    try simp only [Act.put, List.setIfInBounds_toArray, List.set_cons_zero, List.set_cons_succ]
    refine' wpAnyLast_take (i := 5) (oi := Oper.mk _ _ _ _ _ _) rfl (by kernel_rfl) (by kernel_rfl) (by kernel_rfl) (by kernel_rfl) (by kernel_rfl) (fun _ _ _ h => h) (Or.inl ⟨by rfl, ?hy10⟩) hS ?rest10
    case hy10 => (intro w hSw; (try dsimp only at hSw); first | (go_simp; done) | (go_simp; with_reducible rfl))
    try simp only [Act.put, List.setIfInBounds_toArray, List.set_cons_zero, List.set_cons_succ]
    refine' wpAnyLast_take (i := 7) (oi := Oper.mk _ _ _ _ _ _) rfl (by kernel_rfl) (by kernel_rfl) (by kernel_rfl) (by kernel_rfl) (by kernel_rfl) (fun _ _ _ h => h) (Or.inl ⟨by rfl, ?hy11⟩) hS ?rest11
    case hy11 => (intro w hSw; (try dsimp only at hSw); first | (go_simp; done) | (go_simp; with_reducible rfl))
    try simp only [Act.put, List.setIfInBounds_toArray, List.set_cons_zero, List.set_cons_succ]
    refine wpAnyLast_ready (rs := [6]) (by kernel_rfl) (by simp) ?_
    refine AllReadyL.cons (o := Oper.mk _ _ _ _ _ _) rfl (by decide) (fun K hK => ?_) ?_
    · refine call_ 5 #[.string s] (by rfl) rfl (by first | (go_simp; done) | (go_simp; rfl)) ((IXs.out _ (HT.out.step HB.out)).mono ?_)
      rintro e W' ⟨v, rfl, hrow, hb'⟩
      obtain ⟨A5, c5, rfl⟩ := own_slice hrow
      have hb := Aside0.mk hb'
      have R5 := Aside0.mk (show RowK .i64 3 w.heap.size W' (.slice A5 ns c5, is_) from by have h := row_mono hrow HB.le; unfold RowK; rw [HLN.out.1]; exact h)
      clear hrow hb'
      have B12n := B12.below hb.out
      have HBn := HB.step hb.out
      have RIn := Aside0.mk (row_below RI.out hb.out)
      have RWn := Aside0.mk (row_below RW.out hb.out)
      clear B12 HB RI RW
      have B12 := B12n
      have HB := HBn
      have RI := RIn
      have RW := RWn
      clear B12n HBn RIn RWn
      refine ⟨_, rfl, ?_⟩
      refine hK.out _ _ B12 (fun hS => ?_)
      clear hK K hb
      try simp only [Act.put, List.setIfInBounds_toArray, List.set_cons_zero, List.set_cons_succ]
      refine wpAnyLast_ready (rs := [8]) (by kernel_rfl) (by simp) ?_
      refine AllReadyL.cons (o := Oper.mk _ _ _ _ _ _) rfl (by decide) (fun K hK => ?_) ?_
      · refine rg_call (by rfl) _ _ (.bool true) (by first | (go_simp; done) | (go_simp; rfl)) (SIT.out _ ns is_ A5 A4 c5 c4 HLN.out.1 R5.out RI.out HLN.out.2.2.2.2.1) ?_
        intro W' hb
        have B12n := B12.below hb.out
        have HBn := HB.step hb.out
        have RWn := Aside0.mk (row_below RW.out hb.out)
        clear B12 HB RW
        have B12 := B12n
        have HB := HBn
        have RW := RWn
        clear B12n HBn RWn
        clear RI R5
        refine hK.out _ _ B12 (fun hS => ?_)
        clear hK K hb
        try simp only [Act.put, List.setIfInBounds_toArray, List.set_cons_zero, List.set_cons_succ]
        refine' wpAnyLast_take (i := 9) (oi := Oper.mk _ _ _ _ _ _) rfl (by kernel_rfl) (by kernel_rfl) (by kernel_rfl) (by kernel_rfl) (by kernel_rfl) (fun _ _ _ h => h) (Or.inl ⟨by rfl, ?hy12⟩) hS ?rest12
        case hy12 => (intro w hSw; (try dsimp only at hSw); first | (go_simp; done) | (go_simp; with_reducible rfl))
        try simp only [Act.put, List.setIfInBounds_toArray, List.set_cons_zero, List.set_cons_succ]
        refine' wpAnyLast_take (i := 10) (oi := Oper.mk _ _ _ _ _ _) rfl (by kernel_rfl) (by kernel_rfl) (by kernel_rfl) (by kernel_rfl) (by kernel_rfl) (fun _ _ _ h => h) (Or.inl ⟨by rfl, ?hy13⟩) hS ?rest13
        case hy13 => (intro w hSw; (try dsimp only at hSw); first | (go_simp; done) | (go_simp; with_reducible rfl))
        try simp only [Act.put, List.setIfInBounds_toArray, List.set_cons_zero, List.set_cons_succ]
        refine' wpAnyLast_take (i := 11) (oi := Oper.mk _ _ _ _ _ _) rfl (by kernel_rfl) (by kernel_rfl) (by kernel_rfl) (by kernel_rfl) (by kernel_rfl) (fun _ _ _ h => h) (Or.inl ⟨by rfl, ?hy14⟩) hS ?rest14
        case hy14 => (intro w hSw; (try dsimp only at hSw); first | (go_simp; done) | (go_simp; with_reducible rfl))
        try simp only [Act.put, List.setIfInBounds_toArray, List.set_cons_zero, List.set_cons_succ]
        refine wpAnyLast_take (i := 13) (oi := Oper.mk _ _ _ _ _ _) rfl (by kernel_rfl) (by kernel_rfl) (by kernel_rfl) (by kernel_rfl) (by kernel_rfl) (fun _ _ _ h => h) (rg_load (by rfl) (fun _ hS => hS) 27 _ rfl rfl Tryd.underlying27 rfl (by kernel_rfl)) hS ?_
        try simp only [Act.put, List.setIfInBounds_toArray, List.set_cons_zero, List.set_cons_succ]
        refine wpAnyLast_ready (rs := [12]) (by kernel_rfl) (by simp) ?_
        refine AllReadyL.cons (o := Oper.mk _ _ _ _ _ _) rfl (by decide) (fun K hK => ?_) ?_
        · refine call_ 6 #[.string s] (by rfl) rfl (by first | (go_simp; done) | (go_simp; rfl)) ((BKs.out _).mono ?_)
          rintro e W' ⟨v, rfl, hrow, hb'⟩
          obtain ⟨A6, c6, rfl⟩ := own_slice hrow
          have hb := Aside0.mk hb'
          have R6 := Aside0.mk (show RowK .u64 41 w.heap.size W' (.slice A6 bn c6, bs) from by have h := row_mono hrow HB.le; unfold RowK; rw [HLN.out.2.2.1]; exact h)
          clear hrow hb'
          have B12n := B12.below hb.out
          have HBn := HB.step hb.out
          have RWn := Aside0.mk (row_below RW.out hb.out)
          clear B12 HB RW
          have B12 := B12n
          have HB := HBn
          have RW := RWn
          clear B12n HBn RWn
          refine ⟨_, rfl, ?_⟩
          refine hK.out _ _ B12 (fun hS => ?_)
          clear hK K hb
          try simp only [Act.put, List.setIfInBounds_toArray, List.set_cons_zero, List.set_cons_succ]
          refine wpAnyLast_ready (rs := [14]) (by kernel_rfl) (by simp) ?_
          refine AllReadyL.cons (o := Oper.mk _ _ _ _ _ _) rfl (by decide) (fun K hK => ?_) ?_
          · refine rg_call (by rfl) _ _ (.bool true) (by first | (go_simp; done) | (go_simp; rfl)) (SBT.out _ zs bn bs A6 C4 c6 e4 HLN.out.2.2.1 R6.out RW.out HLN.out.2.2.2.2.2.2.1) ?_
            intro W' hb
            have B12n := B12.below hb.out
            have HBn := HB.step hb.out
            clear B12 HB
            have B12 := B12n
            have HB := HBn
            clear B12n HBn
            clear RW R6
            refine hK.out _ _ B12 (fun hS => ?_)
            clear hK K hb
            try simp only [Act.put, List.setIfInBounds_toArray, List.set_cons_zero, List.set_cons_succ]
            refine' wpAnyLast_take (i := 15) (oi := Oper.mk _ _ _ _ _ _) rfl (by kernel_rfl) (by kernel_rfl) (by kernel_rfl) (by kernel_rfl) (by kernel_rfl) (fun _ _ _ h => h) (Or.inl ⟨by rfl, ?hy15⟩) hS ?rest15
            case hy15 => (intro w hSw; (try dsimp only at hSw); first | (go_simp; done) | (go_simp; with_reducible rfl))
            try simp only [Act.put, List.setIfInBounds_toArray, List.set_cons_zero, List.set_cons_succ]
            refine' wpAnyLast_take (i := 16) (oi := Oper.mk _ _ _ _ _ _) rfl (by kernel_rfl) (by kernel_rfl) (by kernel_rfl) (by kernel_rfl) (by kernel_rfl) (fun _ _ _ h => h) (Or.inl ⟨by rfl, ?hy16⟩) hS ?rest16
            case hy16 => (intro w hSw; (try dsimp only at hSw); first | (go_simp; done) | (go_simp; with_reducible rfl))
            try simp only [Act.put, List.setIfInBounds_toArray, List.set_cons_zero, List.set_cons_succ]
            refine wpAnyLast_done (by kernel_rfl) ?_ _
            refine NoPanic.normal ?_
            go_wp2
            go_ret
            exact ⟨rfl, HB.out⟩
          exact AllReadyL.nil
        exact AllReadyL.nil
      exact AllReadyL.nil
    exact AllReadyL.nil
def quarrylaw08_MarksKeeps.f (a0 : ByteArray) (a1 : ByteArray) : Option Bool := if a0.size ≤ 1048576 ∧ a1.size ≤ 1048576 then some true else none
theorem quarrylaw08_MarksKeeps.calls (a0 : ByteArray) (a1 : ByteArray) (r : Bool) (w : World) (hT : TabOk w) (h : quarrylaw08_MarksKeeps.f a0 a1 = some r) :
    Calls Tryd.prog 3 #[.string a0, .string a1] w fun e w' => e = .returned (.bool r) ∧ Below w.heap.size w w' := by
  unfold quarrylaw08_MarksKeeps.f at h
  by_cases hs : a0.size ≤ 1048576 ∧ a1.size ≤ 1048576
  case neg => rw [if_neg hs] at h; cases h
  rw [if_pos hs] at h
  cases h
  exact quarrylaw08_MarksKeeps.true_ a0 a1 hs.1 hs.2 w hT
def quarrylaw08_MarksKeeps.Pure : Prop := ∀ (a0 : ByteArray) (a1 : ByteArray), a0.size ≤ 1048576 → a1.size ≤ 1048576 → quarrylaw08_MarksKeeps.f a0 a1 = some true
theorem quarrylaw08_MarksKeeps.walk (P : quarrylaw08_MarksKeeps.Pure) (a0 : ByteArray) (a1 : ByteArray) (w : World) (hT : TabOk w) (w0 : a0.size ≤ 1048576) (w1 : a1.size ≤ 1048576) :
    Calls Tryd.prog 3 #[.string a0, .string a1] w fun e w' => e = .returned (.bool true) ∧ Below w.heap.size w w' :=
  quarrylaw08_MarksKeeps.calls a0 a1 true w hT (P a0 a1 w0 w1)
end


end Go.Proofs.YtagcilcdgckbeaaDoor.PK
