-- Written by a program (myprint.py, over the kit's print) for this claim. Not trusted: Lean checks it.
import Derived.Test.YtadcgjmhhodnoaaDoorPTx0
import Derived.Test.YtadcgjmhhodnoaaDoorPTx1
namespace Go.Proofs.YtadcgjmhhodnoaaDoor.PT
open Go.RowKit Go.Proofs.YtadcgjmhhodnoaaDoorW.PrintWords Go.Proofs.YtadcgjmhhodnoaaDoorW.PrintLast Go.Proofs.YtadcgjmhhodnoaaDoorW.PrintMore
attribute [local go_sem] max2_int min2_int max_two min_two max_three min_three max_four min_four   -- for this text's walks alone
set_option linter.unusedVariables false
set_option linter.unusedSimpArgs false

/-! ### bitmap_Formed: function 70 -/
def bitmap_Formed.f (a0_0 : Int) (l0_1 : List Int) : Option (Bool) := if a0_0 < 0 then (some false) else ((bitmap_size.f a0_0).bind fun t102 => (if (l0_1.length : Int) = t102 then (if a0_0 = 0 then (some true) else (if 0 ≤ (wrap64 ((l0_1.length : Int) - 1)) then (if (wrap64 ((l0_1.length : Int) - 1)) < (l0_1.length : Int) then ((bitmap_tail.f a0_0).bind fun t104 => (some ((Go.bits .andNot .u64 (rd l0_1 (wrap64 ((l0_1.length : Int) - 1))) t104) == 0))) else (none)) else (none))) else (some false)))
set_option maxHeartbeats 8000000 in
set_option maxRecDepth 100000 in
theorem bitmap_Formed.calls (a0_0 : Int) (A0_1 : Option Addr) (c0_1 : Nat) (l0_1 : List Int) (r : Bool) (w : World) (hr0_1 : Kd.C (Kd.int .u64) w A0_1 l0_1.length l0_1) (hc0_1 : l0_1.length ≤ c0_1) (h : bitmap_Formed.f a0_0 l0_1 = some r) :
    Calls Tryd.prog 70 #[.agg #[.int .i64 a0_0, .slice A0_1 l0_1.length c0_1]] w fun e w' => e = .returned (.bool r) ∧ Below w.heap.size w w' := by
  have hu38 := Tryd.underlying38
  have HR0_1 := Aside0.mk hr0_1
  have HC0_1 := Aside0.mk hc0_1
  clear hr0_1 hc0_1
  have HB := Aside0.mk (Below.refl w.heap.size w)
  have H : (if a0_0 < 0 then (some false) else ((bitmap_size.f a0_0).bind fun t102 => (if (l0_1.length : Int) = t102 then (if a0_0 = 0 then (some true) else (if 0 ≤ (wrap64 ((l0_1.length : Int) - 1)) then (if (wrap64 ((l0_1.length : Int) - 1)) < (l0_1.length : Int) then ((bitmap_tail.f a0_0).bind fun t104 => (some ((Go.bits .andNot .u64 (rd l0_1 (wrap64 ((l0_1.length : Int) - 1))) t104) == 0))) else (none)) else (none))) else (some false)))) = some r := h
  clear h
  by_cases c2 : a0_0 < 0
  · rw [if_pos c2] at H
    have c2b0 : decide (a0_0 < 0) = true := decide_eq_true c2
    clear c2
    obtain rfl := Option.some.inj H
    go_enter Tryd.func70, Tryd.ntmps70
    go_wp2_with (first | ((with_reducible refine gate_dst (N := 1) rfl ?_); (try (refine gate_guard (by rfl) ?_; dsimp only)); refine box_event ?hg (N := 1) ?hd (cs := #[.int .i64 a0_0, .slice A0_1 l0_1.length c0_1]) (t := 38) ?hr ?_; (case hd => rfl); (case hg => rfl); (case hr => first | (go_simp; done) | (go_simp; rfl)); intro gb101 hg w3 hbox hb; have n0_ := Aside0.mk (below_step (by repeat (first | (with_reducible first | exact HB.out | apply below_alloc | apply pw_below_drewN | apply below_drew1) | exact HB.out)) hb); have n1_ := Aside0.mk (hbox); have n2_ := Aside0.mk ((by rw [hg]; exact (below_size (by repeat (first | (with_reducible first | exact HB.out | apply below_alloc | apply pw_below_drewN | apply below_drew1) | exact HB.out))) : w.heap.size ≤ gb101)); have n3_ := Aside0.mk ((by rw [hg]; exact (below_size (by repeat (first | (with_reducible first | exact HB.out | apply below_alloc | apply pw_below_drewN | apply below_drew1) | exact HB.out))) : w.heap.size ≤ gb101)); clear HB; have HB := n0_; have BK101 := n1_; have GW101 := n2_; have GE101 := n3_; clear n0_ n1_ n2_ n3_; clear hb hbox hg; have hcz4_0 : w3.cell? ⟨gb101, 0, none⟩ = some (.int .i64 a0_0) := (blk_cell BK101.out 0).trans rfl; have hcz4_1 : w3.cell? ⟨gb101, 1, none⟩ = some (.slice A0_1 l0_1.length c0_1) := (blk_cell BK101.out 1).trans rfl; have hfz4_0 := blk_frozen BK101.out 0; have hfz4_1 := blk_frozen BK101.out 1))
    repeat (go_quiet (first | ((with_reducible refine gate_dst (N := 1) rfl ?_); (try (refine gate_guard (by rfl) ?_; dsimp only)); refine box_event ?hg (N := 1) ?hd (cs := #[.int .i64 a0_0, .slice A0_1 l0_1.length c0_1]) (t := 38) ?hr ?_; (case hd => rfl); (case hg => rfl); (case hr => first | (go_simp; done) | (go_simp; rfl)); intro gb101 hg w3 hbox hb; have n0_ := Aside0.mk (below_step (by repeat (first | (with_reducible first | exact HB.out | apply below_alloc | apply pw_below_drewN | apply below_drew1) | exact HB.out)) hb); have n1_ := Aside0.mk (hbox); have n2_ := Aside0.mk ((by rw [hg]; exact (below_size (by repeat (first | (with_reducible first | exact HB.out | apply below_alloc | apply pw_below_drewN | apply below_drew1) | exact HB.out))) : w.heap.size ≤ gb101)); have n3_ := Aside0.mk ((by rw [hg]; exact (below_size (by repeat (first | (with_reducible first | exact HB.out | apply below_alloc | apply pw_below_drewN | apply below_drew1) | exact HB.out))) : w.heap.size ≤ gb101)); clear HB; have HB := n0_; have BK101 := n1_; have GW101 := n2_; have GE101 := n3_; clear n0_ n1_ n2_ n3_; clear hb hbox hg; have hcz4_0 : w3.cell? ⟨gb101, 0, none⟩ = some (.int .i64 a0_0) := (blk_cell BK101.out 0).trans rfl; have hcz4_1 : w3.cell? ⟨gb101, 1, none⟩ = some (.slice A0_1 l0_1.length c0_1) := (blk_cell BK101.out 1).trans rfl; have hfz4_0 := blk_frozen BK101.out 0; have hfz4_1 := blk_frozen BK101.out 1)); try go_wp2_with (first | ((with_reducible refine gate_dst (N := 1) rfl ?_); (try (refine gate_guard (by rfl) ?_; dsimp only)); refine box_event ?hg (N := 1) ?hd (cs := #[.int .i64 a0_0, .slice A0_1 l0_1.length c0_1]) (t := 38) ?hr ?_; (case hd => rfl); (case hg => rfl); (case hr => first | (go_simp; done) | (go_simp; rfl)); intro gb101 hg w3 hbox hb; have n0_ := Aside0.mk (below_step (by repeat (first | (with_reducible first | exact HB.out | apply below_alloc | apply pw_below_drewN | apply below_drew1) | exact HB.out)) hb); have n1_ := Aside0.mk (hbox); have n2_ := Aside0.mk ((by rw [hg]; exact (below_size (by repeat (first | (with_reducible first | exact HB.out | apply below_alloc | apply pw_below_drewN | apply below_drew1) | exact HB.out))) : w.heap.size ≤ gb101)); have n3_ := Aside0.mk ((by rw [hg]; exact (below_size (by repeat (first | (with_reducible first | exact HB.out | apply below_alloc | apply pw_below_drewN | apply below_drew1) | exact HB.out))) : w.heap.size ≤ gb101)); clear HB; have HB := n0_; have BK101 := n1_; have GW101 := n2_; have GE101 := n3_; clear n0_ n1_ n2_ n3_; clear hb hbox hg; have hcz4_0 : w3.cell? ⟨gb101, 0, none⟩ = some (.int .i64 a0_0) := (blk_cell BK101.out 0).trans rfl; have hcz4_1 : w3.cell? ⟨gb101, 1, none⟩ = some (.slice A0_1 l0_1.length c0_1) := (blk_cell BK101.out 1).trans rfl; have hfz4_0 := blk_frozen BK101.out 0; have hfz4_1 := blk_frozen BK101.out 1)))
    go_ret
    exact ⟨by first | rfl | (simp [errW_none, errW_some] <;> rfl) | (simp [*, errW_none, errW_some] <;> rfl), by repeat (first | (with_reducible first | exact HB.out | apply below_alloc | apply pw_below_drewN | apply below_drew1 | refine below_set ?_ GE101.out) | exact HB.out)⟩
  · rw [if_neg c2] at H
    have c2b0 : decide (a0_0 < 0) = false := decide_eq_false c2
    clear c2
    replace H := Option.bind_eq_some_iff.mp H
    obtain ⟨t102, A50, H⟩ := H
    replace H : (if (l0_1.length : Int) = t102 then (if a0_0 = 0 then (some true) else (if 0 ≤ (wrap64 ((l0_1.length : Int) - 1)) then (if (wrap64 ((l0_1.length : Int) - 1)) < (l0_1.length : Int) then ((bitmap_tail.f a0_0).bind fun t104 => (some ((Go.bits .andNot .u64 (rd l0_1 (wrap64 ((l0_1.length : Int) - 1))) t104) == 0))) else (none)) else (none))) else (some false)) = some r := H
    have A5 := Aside0.mk A50
    clear A50
    by_cases c6 : (l0_1.length : Int) = t102
    · rw [if_pos c6] at H
      have c6b0 : ((l0_1.length : Int) == t102) = true := beq_iff_eq.mpr c6
      have c6b1 : ((l0_1.length : Int) != t102) = false := bne_eq_false_iff_eq.mpr c6
      clear c6
      by_cases c7 : a0_0 = 0
      · rw [if_pos c7] at H
        have c7b0 : (a0_0 == 0) = true := beq_iff_eq.mpr c7
        have c7b1 : (a0_0 != 0) = false := bne_eq_false_iff_eq.mpr c7
        clear c7
        obtain rfl := Option.some.inj H
        go_enter Tryd.func70, Tryd.ntmps70
        go_wp2_with (first | ((with_reducible refine gate_dst (N := 1) rfl ?_); (try (refine gate_guard (by rfl) ?_; dsimp only)); refine box_event ?hg (N := 1) ?hd (cs := #[.int .i64 a0_0, .slice A0_1 l0_1.length c0_1]) (t := 38) ?hr ?_; (case hd => rfl); (case hg => rfl); (case hr => first | (go_simp; done) | (go_simp; rfl)); intro gb101 hg w8 hbox hb; have n0_ := Aside0.mk (below_step (by repeat (first | (with_reducible first | exact HB.out | apply below_alloc | apply pw_below_drewN | apply below_drew1) | exact HB.out)) hb); have n1_ := Aside0.mk (hbox); have n2_ := Aside0.mk ((by rw [hg]; exact (below_size (by repeat (first | (with_reducible first | exact HB.out | apply below_alloc | apply pw_below_drewN | apply below_drew1) | exact HB.out))) : w.heap.size ≤ gb101)); have n3_ := Aside0.mk ((by rw [hg]; exact (below_size (by repeat (first | (with_reducible first | exact HB.out | apply below_alloc | apply pw_below_drewN | apply below_drew1) | exact HB.out))) : w.heap.size ≤ gb101)); clear HB; have HB := n0_; have BK101 := n1_; have GW101 := n2_; have GE101 := n3_; clear n0_ n1_ n2_ n3_; clear hb hbox hg; have hcz9_0 : w8.cell? ⟨gb101, 0, none⟩ = some (.int .i64 a0_0) := (blk_cell BK101.out 0).trans rfl; have hcz9_1 : w8.cell? ⟨gb101, 1, none⟩ = some (.slice A0_1 l0_1.length c0_1) := (blk_cell BK101.out 1).trans rfl; have hfz9_0 := blk_frozen BK101.out 0; have hfz9_1 := blk_frozen BK101.out 1) | (go_at_call 90; (with_reducible refine (bitmap_size.calls a0_0 t102 _ A5.out).mono ?_); rintro e w' ⟨rfl, ⟨nd, rfl⟩⟩; (try first | exact ⟨rfl, _, World.drewN_drewN _ _ _⟩ | exact ⟨rfl, _, Eq.trans (World.drewN_drewN _ _ _) (congrArg (World.drewN _) (Nat.add_assoc _ _ _))⟩)))
        repeat (go_quiet (first | ((with_reducible refine gate_dst (N := 1) rfl ?_); (try (refine gate_guard (by rfl) ?_; dsimp only)); refine box_event ?hg (N := 1) ?hd (cs := #[.int .i64 a0_0, .slice A0_1 l0_1.length c0_1]) (t := 38) ?hr ?_; (case hd => rfl); (case hg => rfl); (case hr => first | (go_simp; done) | (go_simp; rfl)); intro gb101 hg w8 hbox hb; have n0_ := Aside0.mk (below_step (by repeat (first | (with_reducible first | exact HB.out | apply below_alloc | apply pw_below_drewN | apply below_drew1) | exact HB.out)) hb); have n1_ := Aside0.mk (hbox); have n2_ := Aside0.mk ((by rw [hg]; exact (below_size (by repeat (first | (with_reducible first | exact HB.out | apply below_alloc | apply pw_below_drewN | apply below_drew1) | exact HB.out))) : w.heap.size ≤ gb101)); have n3_ := Aside0.mk ((by rw [hg]; exact (below_size (by repeat (first | (with_reducible first | exact HB.out | apply below_alloc | apply pw_below_drewN | apply below_drew1) | exact HB.out))) : w.heap.size ≤ gb101)); clear HB; have HB := n0_; have BK101 := n1_; have GW101 := n2_; have GE101 := n3_; clear n0_ n1_ n2_ n3_; clear hb hbox hg; have hcz9_0 : w8.cell? ⟨gb101, 0, none⟩ = some (.int .i64 a0_0) := (blk_cell BK101.out 0).trans rfl; have hcz9_1 : w8.cell? ⟨gb101, 1, none⟩ = some (.slice A0_1 l0_1.length c0_1) := (blk_cell BK101.out 1).trans rfl; have hfz9_0 := blk_frozen BK101.out 0; have hfz9_1 := blk_frozen BK101.out 1) | (go_at_call 90; (with_reducible refine (bitmap_size.calls a0_0 t102 _ A5.out).mono ?_); rintro e w' ⟨rfl, ⟨nd, rfl⟩⟩; (try first | exact ⟨rfl, _, World.drewN_drewN _ _ _⟩ | exact ⟨rfl, _, Eq.trans (World.drewN_drewN _ _ _) (congrArg (World.drewN _) (Nat.add_assoc _ _ _))⟩))); try go_wp2_with (first | ((with_reducible refine gate_dst (N := 1) rfl ?_); (try (refine gate_guard (by rfl) ?_; dsimp only)); refine box_event ?hg (N := 1) ?hd (cs := #[.int .i64 a0_0, .slice A0_1 l0_1.length c0_1]) (t := 38) ?hr ?_; (case hd => rfl); (case hg => rfl); (case hr => first | (go_simp; done) | (go_simp; rfl)); intro gb101 hg w8 hbox hb; have n0_ := Aside0.mk (below_step (by repeat (first | (with_reducible first | exact HB.out | apply below_alloc | apply pw_below_drewN | apply below_drew1) | exact HB.out)) hb); have n1_ := Aside0.mk (hbox); have n2_ := Aside0.mk ((by rw [hg]; exact (below_size (by repeat (first | (with_reducible first | exact HB.out | apply below_alloc | apply pw_below_drewN | apply below_drew1) | exact HB.out))) : w.heap.size ≤ gb101)); have n3_ := Aside0.mk ((by rw [hg]; exact (below_size (by repeat (first | (with_reducible first | exact HB.out | apply below_alloc | apply pw_below_drewN | apply below_drew1) | exact HB.out))) : w.heap.size ≤ gb101)); clear HB; have HB := n0_; have BK101 := n1_; have GW101 := n2_; have GE101 := n3_; clear n0_ n1_ n2_ n3_; clear hb hbox hg; have hcz9_0 : w8.cell? ⟨gb101, 0, none⟩ = some (.int .i64 a0_0) := (blk_cell BK101.out 0).trans rfl; have hcz9_1 : w8.cell? ⟨gb101, 1, none⟩ = some (.slice A0_1 l0_1.length c0_1) := (blk_cell BK101.out 1).trans rfl; have hfz9_0 := blk_frozen BK101.out 0; have hfz9_1 := blk_frozen BK101.out 1) | (go_at_call 90; (with_reducible refine (bitmap_size.calls a0_0 t102 _ A5.out).mono ?_); rintro e w' ⟨rfl, ⟨nd, rfl⟩⟩; (try first | exact ⟨rfl, _, World.drewN_drewN _ _ _⟩ | exact ⟨rfl, _, Eq.trans (World.drewN_drewN _ _ _) (congrArg (World.drewN _) (Nat.add_assoc _ _ _))⟩))))
        go_ret
        exact ⟨by first | rfl | (simp [errW_none, errW_some] <;> rfl) | (simp [*, errW_none, errW_some] <;> rfl), by repeat (first | (with_reducible first | exact HB.out | apply below_alloc | apply pw_below_drewN | apply below_drew1 | refine below_set ?_ GE101.out) | exact HB.out)⟩
      · rw [if_neg c7] at H
        have c7b0 : (a0_0 == 0) = false := beq_eq_false_iff_ne.mpr c7
        have c7b1 : (a0_0 != 0) = true := bne_iff_ne.mpr c7
        obtain ⟨ji10, hji10⟩ : ∃ j_ : Int, (wrap64 ((l0_1.length : Int) - 1)) = j_ := ⟨_, rfl⟩
        replace H : (if 0 ≤ (ji10) then (if (ji10) < (l0_1.length : Int) then ((bitmap_tail.f a0_0).bind fun t104 => (some ((Go.bits .andNot .u64 (rd l0_1 (ji10)) t104) == 0))) else (none)) else (none)) = some r := by first | (rw [hji10] at H; exact H) | (simp only [hji10] at H ⊢; exact H)
        (try rw [hji10] at A5)
        have hji10w : (IntKind.i64.wrap ((l0_1.length : Int) - 1)) = ji10 := (i64_w _).trans hji10
        by_cases c11 : 0 ≤ (ji10)
        · rw [if_pos c11] at H
          have c11b0 : decide (0 ≤ (ji10)) = true := decide_eq_true c11
          clear c11
          by_cases c12 : (ji10) < (l0_1.length : Int)
          · rw [if_pos c12] at H
            have c12b0 : decide ((ji10) < (l0_1.length : Int)) = true := decide_eq_true c12
            clear c12
            replace H := Option.bind_eq_some_iff.mp H
            obtain ⟨t104, A130, H⟩ := H
            replace H : (some ((Go.bits .andNot .u64 (rd l0_1 (ji10)) t104) == 0)) = some r := H
            have A13 := Aside0.mk A130
            clear A130
            obtain rfl := Option.some.inj H
            go_enter Tryd.func70, Tryd.ntmps70
            go_wp2_with (first | ((with_reducible refine gate_dst (N := 1) rfl ?_); (try (refine gate_guard (by rfl) ?_; dsimp only)); refine box_event ?hg (N := 1) ?hd (cs := #[.int .i64 a0_0, .slice A0_1 l0_1.length c0_1]) (t := 38) ?hr ?_; (case hd => rfl); (case hg => rfl); (case hr => first | (go_simp; done) | (go_simp; rfl)); intro gb101 hg w14 hbox hb; have n0_ := Aside0.mk (below_step (by repeat (first | (with_reducible first | exact HB.out | apply below_alloc | apply pw_below_drewN | apply below_drew1) | exact HB.out)) hb); have n1_ := Aside0.mk (hbox); have n2_ := Aside0.mk ((by rw [hg]; exact (below_size (by repeat (first | (with_reducible first | exact HB.out | apply below_alloc | apply pw_below_drewN | apply below_drew1) | exact HB.out))) : w.heap.size ≤ gb101)); have n3_ := Aside0.mk ((by rw [hg]; exact (below_size (by repeat (first | (with_reducible first | exact HB.out | apply below_alloc | apply pw_below_drewN | apply below_drew1) | exact HB.out))) : w.heap.size ≤ gb101)); clear HB; have HB := n0_; have BK101 := n1_; have GW101 := n2_; have GE101 := n3_; clear n0_ n1_ n2_ n3_; clear hb hbox hg; have hcz15_0 : w14.cell? ⟨gb101, 0, none⟩ = some (.int .i64 a0_0) := (blk_cell BK101.out 0).trans rfl; have hcz15_1 : w14.cell? ⟨gb101, 1, none⟩ = some (.slice A0_1 l0_1.length c0_1) := (blk_cell BK101.out 1).trans rfl; have hfz15_0 := blk_frozen BK101.out 0; have hfz15_1 := blk_frozen BK101.out 1) | (go_at_call 90; (with_reducible refine (bitmap_size.calls a0_0 t102 _ A5.out).mono ?_); rintro e w' ⟨rfl, ⟨nd, rfl⟩⟩; (try first | exact ⟨rfl, _, World.drewN_drewN _ _ _⟩ | exact ⟨rfl, _, Eq.trans (World.drewN_drewN _ _ _) (congrArg (World.drewN _) (Nat.add_assoc _ _ _))⟩); have p103 : 0 ≤ ((ji10) : Int) := of_decide_eq_true (by first | (with_reducible assumption) | assumption); have q103 : (ji10) < (l0_1.length : Int) := of_decide_eq_true (by first | (with_reducible assumption) | assumption); obtain ⟨ad103, e103, hx103_0⟩ := Kd.at_int HR0_1.out (ji10) p103 q103; cases e103; replace hx103_0 := (HB.out.cell (World.block_lt_of_cell? w _ hx103_0)).trans hx103_0; replace p103 := eq_true p103; replace q103 := eq_true q103) | (go_at_call 76; (with_reducible refine (bitmap_tail.calls a0_0 t104 _ A13.out).mono ?_); rintro e w' ⟨rfl, ⟨nd, rfl⟩⟩; (try first | exact ⟨rfl, _, World.drewN_drewN _ _ _⟩ | exact ⟨rfl, _, Eq.trans (World.drewN_drewN _ _ _) (congrArg (World.drewN _) (Nat.add_assoc _ _ _))⟩)))
            repeat (go_quiet (first | ((with_reducible refine gate_dst (N := 1) rfl ?_); (try (refine gate_guard (by rfl) ?_; dsimp only)); refine box_event ?hg (N := 1) ?hd (cs := #[.int .i64 a0_0, .slice A0_1 l0_1.length c0_1]) (t := 38) ?hr ?_; (case hd => rfl); (case hg => rfl); (case hr => first | (go_simp; done) | (go_simp; rfl)); intro gb101 hg w14 hbox hb; have n0_ := Aside0.mk (below_step (by repeat (first | (with_reducible first | exact HB.out | apply below_alloc | apply pw_below_drewN | apply below_drew1) | exact HB.out)) hb); have n1_ := Aside0.mk (hbox); have n2_ := Aside0.mk ((by rw [hg]; exact (below_size (by repeat (first | (with_reducible first | exact HB.out | apply below_alloc | apply pw_below_drewN | apply below_drew1) | exact HB.out))) : w.heap.size ≤ gb101)); have n3_ := Aside0.mk ((by rw [hg]; exact (below_size (by repeat (first | (with_reducible first | exact HB.out | apply below_alloc | apply pw_below_drewN | apply below_drew1) | exact HB.out))) : w.heap.size ≤ gb101)); clear HB; have HB := n0_; have BK101 := n1_; have GW101 := n2_; have GE101 := n3_; clear n0_ n1_ n2_ n3_; clear hb hbox hg; have hcz15_0 : w14.cell? ⟨gb101, 0, none⟩ = some (.int .i64 a0_0) := (blk_cell BK101.out 0).trans rfl; have hcz15_1 : w14.cell? ⟨gb101, 1, none⟩ = some (.slice A0_1 l0_1.length c0_1) := (blk_cell BK101.out 1).trans rfl; have hfz15_0 := blk_frozen BK101.out 0; have hfz15_1 := blk_frozen BK101.out 1) | (go_at_call 90; (with_reducible refine (bitmap_size.calls a0_0 t102 _ A5.out).mono ?_); rintro e w' ⟨rfl, ⟨nd, rfl⟩⟩; (try first | exact ⟨rfl, _, World.drewN_drewN _ _ _⟩ | exact ⟨rfl, _, Eq.trans (World.drewN_drewN _ _ _) (congrArg (World.drewN _) (Nat.add_assoc _ _ _))⟩); have p103 : 0 ≤ ((ji10) : Int) := of_decide_eq_true (by first | (with_reducible assumption) | assumption); have q103 : (ji10) < (l0_1.length : Int) := of_decide_eq_true (by first | (with_reducible assumption) | assumption); obtain ⟨ad103, e103, hx103_0⟩ := Kd.at_int HR0_1.out (ji10) p103 q103; cases e103; replace hx103_0 := (HB.out.cell (World.block_lt_of_cell? w _ hx103_0)).trans hx103_0; replace p103 := eq_true p103; replace q103 := eq_true q103) | (go_at_call 76; (with_reducible refine (bitmap_tail.calls a0_0 t104 _ A13.out).mono ?_); rintro e w' ⟨rfl, ⟨nd, rfl⟩⟩; (try first | exact ⟨rfl, _, World.drewN_drewN _ _ _⟩ | exact ⟨rfl, _, Eq.trans (World.drewN_drewN _ _ _) (congrArg (World.drewN _) (Nat.add_assoc _ _ _))⟩))); try go_wp2_with (first | ((with_reducible refine gate_dst (N := 1) rfl ?_); (try (refine gate_guard (by rfl) ?_; dsimp only)); refine box_event ?hg (N := 1) ?hd (cs := #[.int .i64 a0_0, .slice A0_1 l0_1.length c0_1]) (t := 38) ?hr ?_; (case hd => rfl); (case hg => rfl); (case hr => first | (go_simp; done) | (go_simp; rfl)); intro gb101 hg w14 hbox hb; have n0_ := Aside0.mk (below_step (by repeat (first | (with_reducible first | exact HB.out | apply below_alloc | apply pw_below_drewN | apply below_drew1) | exact HB.out)) hb); have n1_ := Aside0.mk (hbox); have n2_ := Aside0.mk ((by rw [hg]; exact (below_size (by repeat (first | (with_reducible first | exact HB.out | apply below_alloc | apply pw_below_drewN | apply below_drew1) | exact HB.out))) : w.heap.size ≤ gb101)); have n3_ := Aside0.mk ((by rw [hg]; exact (below_size (by repeat (first | (with_reducible first | exact HB.out | apply below_alloc | apply pw_below_drewN | apply below_drew1) | exact HB.out))) : w.heap.size ≤ gb101)); clear HB; have HB := n0_; have BK101 := n1_; have GW101 := n2_; have GE101 := n3_; clear n0_ n1_ n2_ n3_; clear hb hbox hg; have hcz15_0 : w14.cell? ⟨gb101, 0, none⟩ = some (.int .i64 a0_0) := (blk_cell BK101.out 0).trans rfl; have hcz15_1 : w14.cell? ⟨gb101, 1, none⟩ = some (.slice A0_1 l0_1.length c0_1) := (blk_cell BK101.out 1).trans rfl; have hfz15_0 := blk_frozen BK101.out 0; have hfz15_1 := blk_frozen BK101.out 1) | (go_at_call 90; (with_reducible refine (bitmap_size.calls a0_0 t102 _ A5.out).mono ?_); rintro e w' ⟨rfl, ⟨nd, rfl⟩⟩; (try first | exact ⟨rfl, _, World.drewN_drewN _ _ _⟩ | exact ⟨rfl, _, Eq.trans (World.drewN_drewN _ _ _) (congrArg (World.drewN _) (Nat.add_assoc _ _ _))⟩); have p103 : 0 ≤ ((ji10) : Int) := of_decide_eq_true (by first | (with_reducible assumption) | assumption); have q103 : (ji10) < (l0_1.length : Int) := of_decide_eq_true (by first | (with_reducible assumption) | assumption); obtain ⟨ad103, e103, hx103_0⟩ := Kd.at_int HR0_1.out (ji10) p103 q103; cases e103; replace hx103_0 := (HB.out.cell (World.block_lt_of_cell? w _ hx103_0)).trans hx103_0; replace p103 := eq_true p103; replace q103 := eq_true q103) | (go_at_call 76; (with_reducible refine (bitmap_tail.calls a0_0 t104 _ A13.out).mono ?_); rintro e w' ⟨rfl, ⟨nd, rfl⟩⟩; (try first | exact ⟨rfl, _, World.drewN_drewN _ _ _⟩ | exact ⟨rfl, _, Eq.trans (World.drewN_drewN _ _ _) (congrArg (World.drewN _) (Nat.add_assoc _ _ _))⟩))))
            go_ret
            exact ⟨by first | rfl | (simp [errW_none, errW_some] <;> rfl) | (simp only [← hji10]; first | rfl | (simp [errW_none, errW_some] <;> rfl)) | (simp [*, errW_none, errW_some] <;> rfl), by repeat (first | (with_reducible first | exact HB.out | apply below_alloc | apply pw_below_drewN | apply below_drew1 | refine below_set ?_ GE101.out) | exact HB.out)⟩
          · rw [if_neg c12] at H
            exact absurd H (by simp)
        · rw [if_neg c11] at H
          exact absurd H (by simp)
    · rw [if_neg c6] at H
      have c6b0 : ((l0_1.length : Int) == t102) = false := beq_eq_false_iff_ne.mpr c6
      have c6b1 : ((l0_1.length : Int) != t102) = true := bne_iff_ne.mpr c6
      obtain rfl := Option.some.inj H
      go_enter Tryd.func70, Tryd.ntmps70
      go_wp2_with (first | ((with_reducible refine gate_dst (N := 1) rfl ?_); (try (refine gate_guard (by rfl) ?_; dsimp only)); refine box_event ?hg (N := 1) ?hd (cs := #[.int .i64 a0_0, .slice A0_1 l0_1.length c0_1]) (t := 38) ?hr ?_; (case hd => rfl); (case hg => rfl); (case hr => first | (go_simp; done) | (go_simp; rfl)); intro gb101 hg w16 hbox hb; have n0_ := Aside0.mk (below_step (by repeat (first | (with_reducible first | exact HB.out | apply below_alloc | apply pw_below_drewN | apply below_drew1) | exact HB.out)) hb); have n1_ := Aside0.mk (hbox); have n2_ := Aside0.mk ((by rw [hg]; exact (below_size (by repeat (first | (with_reducible first | exact HB.out | apply below_alloc | apply pw_below_drewN | apply below_drew1) | exact HB.out))) : w.heap.size ≤ gb101)); have n3_ := Aside0.mk ((by rw [hg]; exact (below_size (by repeat (first | (with_reducible first | exact HB.out | apply below_alloc | apply pw_below_drewN | apply below_drew1) | exact HB.out))) : w.heap.size ≤ gb101)); clear HB; have HB := n0_; have BK101 := n1_; have GW101 := n2_; have GE101 := n3_; clear n0_ n1_ n2_ n3_; clear hb hbox hg; have hcz17_0 : w16.cell? ⟨gb101, 0, none⟩ = some (.int .i64 a0_0) := (blk_cell BK101.out 0).trans rfl; have hcz17_1 : w16.cell? ⟨gb101, 1, none⟩ = some (.slice A0_1 l0_1.length c0_1) := (blk_cell BK101.out 1).trans rfl; have hfz17_0 := blk_frozen BK101.out 0; have hfz17_1 := blk_frozen BK101.out 1) | (go_at_call 90; (with_reducible refine (bitmap_size.calls a0_0 t102 _ A5.out).mono ?_); rintro e w' ⟨rfl, ⟨nd, rfl⟩⟩; (try first | exact ⟨rfl, _, World.drewN_drewN _ _ _⟩ | exact ⟨rfl, _, Eq.trans (World.drewN_drewN _ _ _) (congrArg (World.drewN _) (Nat.add_assoc _ _ _))⟩)))
      repeat (go_quiet (first | ((with_reducible refine gate_dst (N := 1) rfl ?_); (try (refine gate_guard (by rfl) ?_; dsimp only)); refine box_event ?hg (N := 1) ?hd (cs := #[.int .i64 a0_0, .slice A0_1 l0_1.length c0_1]) (t := 38) ?hr ?_; (case hd => rfl); (case hg => rfl); (case hr => first | (go_simp; done) | (go_simp; rfl)); intro gb101 hg w16 hbox hb; have n0_ := Aside0.mk (below_step (by repeat (first | (with_reducible first | exact HB.out | apply below_alloc | apply pw_below_drewN | apply below_drew1) | exact HB.out)) hb); have n1_ := Aside0.mk (hbox); have n2_ := Aside0.mk ((by rw [hg]; exact (below_size (by repeat (first | (with_reducible first | exact HB.out | apply below_alloc | apply pw_below_drewN | apply below_drew1) | exact HB.out))) : w.heap.size ≤ gb101)); have n3_ := Aside0.mk ((by rw [hg]; exact (below_size (by repeat (first | (with_reducible first | exact HB.out | apply below_alloc | apply pw_below_drewN | apply below_drew1) | exact HB.out))) : w.heap.size ≤ gb101)); clear HB; have HB := n0_; have BK101 := n1_; have GW101 := n2_; have GE101 := n3_; clear n0_ n1_ n2_ n3_; clear hb hbox hg; have hcz17_0 : w16.cell? ⟨gb101, 0, none⟩ = some (.int .i64 a0_0) := (blk_cell BK101.out 0).trans rfl; have hcz17_1 : w16.cell? ⟨gb101, 1, none⟩ = some (.slice A0_1 l0_1.length c0_1) := (blk_cell BK101.out 1).trans rfl; have hfz17_0 := blk_frozen BK101.out 0; have hfz17_1 := blk_frozen BK101.out 1) | (go_at_call 90; (with_reducible refine (bitmap_size.calls a0_0 t102 _ A5.out).mono ?_); rintro e w' ⟨rfl, ⟨nd, rfl⟩⟩; (try first | exact ⟨rfl, _, World.drewN_drewN _ _ _⟩ | exact ⟨rfl, _, Eq.trans (World.drewN_drewN _ _ _) (congrArg (World.drewN _) (Nat.add_assoc _ _ _))⟩))); try go_wp2_with (first | ((with_reducible refine gate_dst (N := 1) rfl ?_); (try (refine gate_guard (by rfl) ?_; dsimp only)); refine box_event ?hg (N := 1) ?hd (cs := #[.int .i64 a0_0, .slice A0_1 l0_1.length c0_1]) (t := 38) ?hr ?_; (case hd => rfl); (case hg => rfl); (case hr => first | (go_simp; done) | (go_simp; rfl)); intro gb101 hg w16 hbox hb; have n0_ := Aside0.mk (below_step (by repeat (first | (with_reducible first | exact HB.out | apply below_alloc | apply pw_below_drewN | apply below_drew1) | exact HB.out)) hb); have n1_ := Aside0.mk (hbox); have n2_ := Aside0.mk ((by rw [hg]; exact (below_size (by repeat (first | (with_reducible first | exact HB.out | apply below_alloc | apply pw_below_drewN | apply below_drew1) | exact HB.out))) : w.heap.size ≤ gb101)); have n3_ := Aside0.mk ((by rw [hg]; exact (below_size (by repeat (first | (with_reducible first | exact HB.out | apply below_alloc | apply pw_below_drewN | apply below_drew1) | exact HB.out))) : w.heap.size ≤ gb101)); clear HB; have HB := n0_; have BK101 := n1_; have GW101 := n2_; have GE101 := n3_; clear n0_ n1_ n2_ n3_; clear hb hbox hg; have hcz17_0 : w16.cell? ⟨gb101, 0, none⟩ = some (.int .i64 a0_0) := (blk_cell BK101.out 0).trans rfl; have hcz17_1 : w16.cell? ⟨gb101, 1, none⟩ = some (.slice A0_1 l0_1.length c0_1) := (blk_cell BK101.out 1).trans rfl; have hfz17_0 := blk_frozen BK101.out 0; have hfz17_1 := blk_frozen BK101.out 1) | (go_at_call 90; (with_reducible refine (bitmap_size.calls a0_0 t102 _ A5.out).mono ?_); rintro e w' ⟨rfl, ⟨nd, rfl⟩⟩; (try first | exact ⟨rfl, _, World.drewN_drewN _ _ _⟩ | exact ⟨rfl, _, Eq.trans (World.drewN_drewN _ _ _) (congrArg (World.drewN _) (Nat.add_assoc _ _ _))⟩))))
      go_ret
      exact ⟨by first | rfl | (simp [errW_none, errW_some] <;> rfl) | (simp [*, errW_none, errW_some] <;> rfl), by repeat (first | (with_reducible first | exact HB.out | apply below_alloc | apply pw_below_drewN | apply below_drew1 | refine below_set ?_ GE101.out) | exact HB.out)⟩

/-! ### bits_TrailingZeros64: function 80 -/
section
open Go.Proofs Go.Proofs.YtadcgjmhhodnoaaDoorQ
set_option maxHeartbeats 1000000 in
theorem bits_TrailingZeros64.core (x k idx : Nat) (w : World) (hx0 : ((x : Int) == 0) = false)
    (key : IntKind.u64.wrap (Go.bits BinOp.and IntKind.u64 (x : Int) (IntKind.u64.wrap (-(x : Int))) * 285870213051353865) / 288230376151711744 = (idx : Int))
    (hi : idx < 64) (hk : k < 64) (hcell : w.cell? ⟨0, idx, none⟩ = some (.int .u8 k)) :
    Calls Tryd.prog 80 #[.int .u64 x] w fun e w' => e = .returned (.int .i64 k) ∧ w' = w := by
  go_enter Tryd.func80, Tryd.ntmps80
  go_wp2_with (simp only [key])
  go_ret
  exact ⟨rfl, rfl⟩
/-- The place of the lowest set bit; the table stands in block 0. -/
theorem bits_TrailingZeros64.calls (x : Nat) (hx : x < 18446744073709551616) (hx0 : x ≠ 0) (w : World) (hT : TabAt 0 Lib.deBruijn64tab w) :
    Calls Tryd.prog 80 #[.int .u64 x] w fun e w' => e = .returned (.int .i64 (Lib.ctz 64 x)) ∧ w' = w := by
  obtain ⟨hlow, hk⟩ := Lib.lowest_bit 64 x hx0 hx
  obtain ⟨hi, htab⟩ := Lib.deBruijn64_at _ hk
  have hcell := hT _ hi
  rw [htab] at hcell
  exact bits_TrailingZeros64.core x _ _ w (by simp; omega) (tz64_key x _ hx hx0 hlow) hi hk hcell
end


/-! ### words_Each_1: function 79 -/
section
open Go.Proofs.YtadcgjmhhodnoaaDoorQ Go.Proofs.YtadcgjmhhodnoaaDoorM Go.Shelf
attribute [local go_sem] Oper.semAt_some
theorem tz_up (q : Nat → Bool) (i k : Nat) (h : upW q i ≠ 0#64) (hk : k = Lib.ctz 64 (upW q i).toNat) (w : World) (hT : TabOk w) :
    Calls Tryd.prog 80 #[.int .u64 (iv (upW q i))] w fun e w' => e = .returned (.int .i64 (k : Int)) ∧ w = w' := by
  have h0 : (upW q i).toNat ≠ 0 := fun e => h (BitVec.eq_of_toNat_eq (by rw [e]; rfl))
  subst hk
  exact (bits_TrailingZeros64.calls (upW q i).toNat (upW q i).isLt h0 w hT.out).mono fun e w' hw => ⟨hw.1, hw.2.symm⟩
set_option maxHeartbeats 4000000 in
set_option maxRecDepth 100000 in
theorem words_Each_1.walk (F : Fence) (HF : Aside0 (F = Fence.wide)) (n : Nat) (hn : 3 ≤ n) (l g1 : Nat) (q : Nat → Bool) (J Jx : List (SetP 64 q) → World → Prop) (W0 : World)
    (hY : ∀ pre (x : SetP 64 q) W, J pre W → pre ++ [x] <+: setP 64 q 64 → YieldAt F (n - 1) Tryd.prog l #[.int .i64 (x.val : Int)] W fun e W' =>
      (e = .returned (.bool true) ∧ J (pre ++ [x]) W' ∧ Keep2 0 0 W W') ∨ (e = .returned (.bool false) ∧ Jx (pre ++ [x]) W'))
    (B1 : Blk W0 g1 #[.int .u64 (iv (word q))] 64) (hT : TabOk W0) (h0 : J [] W0) :
    CallsIn F n Tryd.prog 79 #[.func (.yield l) #[] #[], .pointer (some ⟨g1, 0, none⟩)] W0 fun e W' => (∃ v, e = .returned v) ∧
      ((∃ ys, ys = setP 64 q 64 ∧ J ys W') ∨ (∃ pre, pre <+: setP 64 q 64 ∧ Jx pre W')) := by
  have HY := Aside0.mk hY
  have HJ0 := Aside0.mk h0
  have HT := Aside0.mk hT
  clear hY h0 hT
  have f0 := wide_fn HF 80
  have n1 : 1 ≤ n := by omega
  have n2 : 1 ≤ n - 1 := by omega
  have hro := wide_round HF
  have c1 := B1.cell (i := 0) rfl
  refine callsIn_of_wp Tryd.func79 rfl (wide_fn HF _) ?_ (wide_round HF)
  simp only [Tryd.ntmps79, List.size_toArray, List.length_cons, List.length_nil, Nat.reduceAdd, Nat.reduceSub, Array.replicate_succ, Array.replicate_zero, List.push_toArray, List.append_toArray, List.nil_append, List.cons_append]
  gi_wp2
  gi_loopw [3] (fun v wr => ∃ i : Nat, v = .int .u64 (iv (upW q i)) ∧ Aside0 (i ≤ 64) ∧ Aside0 (J (setP 64 q i) wr) ∧ Aside0 (TabOk wr)) (fun v _ => (intOf v).toNat)
  case atStart => exact ⟨0, by rw [upW_zero], ⟨Nat.zero_le _⟩, HJ0, HT⟩
  case round =>
    clear B1 HJ0 HT c1
    obtain ⟨i, rfl, HI, HJi, HT⟩ := hrel
    by_cases hz : upW q i = 0#64
    · have hz0 : (iv (upW q i) != 0) = false := by rw [hz]; rfl
      have HZ := Aside0.mk hz
      clear hz
      gi_wp2
      go_end0
      have h := HJi.out
      rw [← up_end q i HI.out HZ.out] at h
      exact ⟨⟨_, rfl⟩, .inl ⟨_, rfl, h⟩⟩
    · have hz0 : (iv (upW q i) != 0) = true := by
        rw [bne_iff_ne]
        intro e
        exact hz (iv_inj.1 (e.trans (by decide)))
      obtain ⟨k, hk, h1, h2, h3, h4⟩ := up_set q i hz
      have LESS := Aside0.mk (up_less hz)
      have TZ : Aside0 (∀ w, TabOk w → Calls Tryd.prog 80 #[.int .u64 (iv (upW q i))] w fun e w' => e = .returned (.int .i64 (k : Int)) ∧ w = w') := ⟨fun w hw => tz_up q i k hz h1 w hw⟩
      have NEXT : Aside0 (bits .and .u64 (iv (upW q i)) (IntKind.u64.wrap (iv (upW q i) - 1)) = iv (upW q (k + 1))) := ⟨by
        rw [show (1 : Int) = iv 1#64 from by decide, wrap_sub, bits_and, h4]⟩
      have HK := Aside0.mk hk
      have HS : Aside0 (setP 64 q (k + 1) = setP 64 q i ++ [⟨k, HK.out⟩]) := ⟨h3⟩
      rw [h4] at LESS
      have HL : setP 64 q i ++ [⟨k, HK.out⟩] <+: setP 64 q 64 := by
        rw [← HS.out]
        exact setP_le (by have := HK.out.1; omega)
      obtain ⟨fn, tmps, assign, body, hy, hR⟩ := HY.out (setP 64 q i) ⟨k, HK.out⟩ wr HJi.out HL
      have HR := Aside0.mk hR
      dsimp only at hy
      clear hR h1 h2 h3 h4 hz hk HL
      gi_wp2_with (first
        | (gi_at_call 80; refine (callsIn_of HF (TZ.out _ HT.out)).mono ?_; rintro e w3 ⟨rfl, rfl⟩))
      refine HR.out.mono ?_
      rintro e W6 (⟨rfl, hJ6, hk6⟩ | ⟨rfl, hJx6⟩)
      · have HT6 := Aside0.mk (HT.out.keep hk6)
        have HJ6 := Aside0.mk (show J (setP 64 q (k + 1)) W6 by rw [HS.out]; exact hJ6)
        clear hJ6 hk6
        gi_wp2
        go_roundw
        case rel => exact ⟨k + 1, by rw [NEXT.out], ⟨by have := HK.out.1; omega⟩, HJ6, HT6⟩
        case measure =>
          have := LESS.out
          simp only [intOf]
          rw [NEXT.out]
          unfold iv
          omega
      · have HJ6 := Aside0.mk hJx6
        clear hJx6
        gi_wp2
        refine bodyPost_ret (results_none rfl _ _ _) rfl ?_
        refine ⟨⟨_, rfl⟩, .inr ⟨_, ?_, HJ6.out⟩⟩
        rw [← HS.out]
        exact setP_le (by have := HK.out.1; omega)
theorem set64_lt {q : Nat → Bool} {pre : List (SetP 64 q)} {x : SetP 64 q} (h : pre ++ [x] <+: setP 64 q 64) : pre.length < 64 := by
  have h1 := h.length_le
  have h2 := setP_length (n := 64) (q := q) 64
  rw [List.length_append, List.length_singleton] at h1
  omega
/-- What Each hands back tells the set places, rising. -/
theorem words_Each_1.stops (F : Fence) (HF : Aside0 (F = Fence.wide)) (n : Nat) (hn : 3 ≤ n) (g1 : Nat) (q : Nat → Bool) (w : World)
    (B1 : Blk w g1 #[.int .u64 (iv (word q))] 64) (hT : TabOk w) :
    SeqStopsK F n Tryd.prog 79 #[.pointer (some ⟨g1, 0, none⟩)] (fun x : SetP 64 q => #[.int .i64 (x.val : Int)]) (Keep2 0 0) (fun ys => ys = setP 64 q 64) (fun pre => pre <+: setP 64 q 64) 64 w := by
  intro l J Jx W hW _ _ hY h0
  exact words_Each_1.walk F HF n hn l g1 q J Jx W (fun pre x A hA hp => hY pre x A hA (set64_lt hp)) (B1.below hW) (hT.step hW) h0
/-- The same in the wider form. -/
theorem words_Each_1.stopsO (F : Fence) (HF : Aside0 (F = Fence.wide)) (n : Nat) (hn : 3 ≤ n) (g1 : Nat) (q : Nat → Bool) (w : World)
    (B1 : Blk w g1 #[.int .u64 (iv (word q))] 64) (hT : TabOk w) :
    SeqO F n Tryd.prog 79 #[.pointer (some ⟨g1, 0, none⟩)] (fun x : SetP 64 q => #[.int .i64 (x.val : Int)]) (Keep2 0 0) (fun ys => ys = setP 64 q 64) (fun pre => pre <+: setP 64 q 64) w := by
  intro l J Jx W hW _ _ _ _ hY h0
  refine (words_Each_1.walk F HF n hn l g1 q (J []) Jx W (fun pre x A hA hp => (hY [] pre x A (fun k hk => (List.not_mem_nil hk).elim) hA hp).mono fun e A' h => h.2.2) (B1.below hW) (hT.step hW) h0).mono ?_
  rintro e W' ⟨hv, (⟨ys, h1, h2⟩ | h)⟩
  · exact ⟨hv, .inl ⟨ys, [], h1, fun k hk => (List.not_mem_nil hk).elim, h2⟩⟩
  · exact ⟨hv, .inr h⟩
end


/-! ### words_Each: function 51 -/
open Go.Proofs.YtadcgjmhhodnoaaDoorQ Go.Proofs.YtadcgjmhhodnoaaDoorM in
set_option maxHeartbeats 4000000 in
set_option maxRecDepth 100000 in
theorem words_Each.calls (x : Int) (w : World) :
    Calls Tryd.prog 51 #[.int .u64 x] w fun e w' => ∃ g1 : Nat, e = .returned (.func (.func 79) #[] #[.pointer (some ⟨g1, 0, none⟩)]) ∧
      w.heap.size ≤ g1 ∧ Blk w' g1 #[.int .u64 x] 64 ∧ BelowH w w' := by
  have HB := BelowH.refl w
  go_enter Tryd.func51, Tryd.ntmps51
  go_wp2_with (first | ((with_reducible refine gate_dst (N := 1) rfl ?_); refine ev_alloc HB rfl (#[.int .u64 x]) 64 ?hr ?_; (case hr => first | (go_simp; done) | (go_simp; rfl)); intro g1 w1 G_g1 GE_g1 B_g1 HBn K_g1; clear HB; have HB := HBn; clear HBn))
  go_ret
  exact ⟨g1, rfl, GE_g1.out, B_g1, HB⟩


/-! ### bitmap_Each_1: function 88 -/
section
open Go.Proofs.YtadcgjmhhodnoaaDoorQ Go.Proofs.YtadcgjmhhodnoaaDoorM Go.Shelf
attribute [local go_sem] Oper.semAt_some
/-- A row of words, as a variable holds it: in block g. -/
structure RowV (v : Value) (g : Nat) (l : List Int) (W : World) : Prop where mk ::
  out : (v = .slice none 0 0 ∧ l = []) ∨ ∃ cap cur, v = .slice (some ⟨g, 0, none⟩) l.length cap ∧ Blk W g cur 64 ∧ RowA cur (l.map (Value.int .u64))
theorem RowV.heap {v : Value} {g : Nat} {l : List Int} {W W' : World} (h : RowV v g l W) (e : W'.heap[g]? = W.heap[g]?) : RowV v g l W' := by
  rcases h.out with h0 | ⟨cap, cur, h1, h2, h3⟩
  · exact ⟨.inl h0⟩
  · exact ⟨.inr ⟨cap, cur, h1, ⟨e.trans h2.out⟩, h3⟩⟩
/-- The set places of a row of words. -/
def bitL (l : List Int) (p : Nat) : Bool := (l.getD (p / 64) 0).toNat.testBit (p % 64)
theorem iv_bitsE {x : Int} (h0 : 0 ≤ x) (h1 : x < 18446744073709551616) : x = iv (word fun j => x.toNat.testBit j) := by
  obtain ⟨v, rfl⟩ := iv_of h0 h1
  exact congrArg iv (eq_word fun i _ => rfl)
theorem bitL_word (l : List Int) (i : Nat) (h : ∀ x ∈ l, 0 ≤ x ∧ x < 18446744073709551616) (hi : i < l.length) : (l.map (Value.int .u64))[i]? = some (.int .u64 (iv (word fun j => bitL l (64 * i + j)))) := by
  have hg : l[i]? = some (l.getD i 0) := by rw [List.getD_eq_getElem?_getD, List.getElem?_eq_getElem hi]; rfl
  rw [List.getElem?_map, hg, Option.map_some]
  obtain ⟨h0, h1⟩ := h (l.getD i 0) (List.mem_of_getElem? hg)
  have e : word (fun j => bitL l (64 * i + j)) = word (fun j => (l.getD i 0).toNat.testBit j) := word_ext fun j hj => by
    unfold bitL
    rw [show (64 * i + j) / 64 = i by omega, show (64 * i + j) % 64 = j by omega]
  rw [e, ← iv_bitsE h0 h1]
/-- The places of one word among those of the row. -/
def inRow (l : List Int) (i : Nat) (hi : i < l.length) (x : SetP 64 fun j => bitL l (64 * i + j)) : SetP (64 * l.length) (bitL l) := ⟨64 * i + x.val, by have := x.2.1; omega, x.2.2⟩
theorem row_set (l : List Int) (i : Nat) (hi : i < l.length) : ∀ k, k ≤ 64 → setP (64 * l.length) (bitL l) (64 * i + k) = setP (64 * l.length) (bitL l) (64 * i) ++ (setP 64 (fun j => bitL l (64 * i + j)) k).map (inRow l i hi)
  | 0, _ => by simp [setP]
  | k + 1, hk => by
    have ih := row_set l i hi k (by omega)
    by_cases h : bitL l (64 * i + k) = true
    · rw [show 64 * i + (k + 1) = (64 * i + k) + 1 by omega, setP_at ⟨by omega, h⟩, setP_at (n := 64) (q := fun j => bitL l (64 * i + j)) ⟨by omega, h⟩, ih, List.map_append, ← List.append_assoc]
      rfl
    · rw [show 64 * i + (k + 1) = (64 * i + k) + 1 by omega, setP_skip (fun c => h c.2), setP_skip (n := 64) (q := fun j => bitL l (64 * i + j)) (fun c => h c.2), ih]
/-- Between two set bits of one word. -/
structure BEI (α : Type) (J : List Nat → List α → World → Prop) (X : List Nat) (pre0 : List α) {β : Type} (f : β → α) (g2 g5 : Nat) (l i : Nat) (v : Value) (gr : Nat) (L : List Int) (W0 : World) (Ds : List Nat) (m : Nat) (pre : List β) (W : World) : Prop where mk ::
  j : J X (pre0 ++ pre.map f) W
  b2 : Blk W g2 #[.func (.yield l) #[] #[]] 105
  b5 : Blk W g5 #[.int .i64 (i : Int)] 3
  rv : RowV v gr L W
  ht : TabOk W
  mk_ : Marks W0.heap.size Ds W
  sz : m ≤ W.heap.size
theorem RowV.kept {v : Value} {g : Nat} {l : List Int} {W W' : World} (h : RowV v g l W) {row : Option Nat} (hg : W.grownBy W' row) (hr : ∀ r, row = some r → ∃ o : Obj, W.heap[r]? = some o ∧ o.isCells = false) : RowV v g l W' := by
  rcases h.out with h0 | ⟨cap, cur, h1, h2, h3⟩
  · exact ⟨.inl h0⟩
  · exact ⟨.inr ⟨cap, cur, h1, h2.kept hg hr, h3⟩⟩
theorem RowV.below {v : Value} {g : Nat} {l : List Int} {W W' : World} (h : RowV v g l W) (hb : Below W.heap.size W W') : RowV v g l W' := by
  rcases h.out with h0 | ⟨cap, cur, h1, h2, h3⟩
  · exact ⟨.inl h0⟩
  · exact ⟨.inr ⟨cap, cur, h1, h2.below hb, h3⟩⟩
theorem BEI.kept {α : Type} {J : List Nat → List α → World → Prop} {X : List Nat} {pre0 : List α} {β : Type} {f : β → α} {g2 g5 l i : Nat} {v : Value} {gr : Nat} {L : List Int} {W0 : World} {Ds : List Nat} {m : Nat} {pre : List β} {W W' : World}
    (h : BEI α J X pre0 f g2 g5 l i v gr L W0 Ds m pre W) (hJ : OwnFrom W0.heap.size (J X)) (hm : W0.heap.size ≤ m) (hD : ∀ D ∈ Ds, D < m) {row : Option Nat} (hg : W.grownBy W' row) (hr : ∀ r, row = some r → m ≤ r ∧ ∃ o : Obj, W.heap[r]? = some o ∧ o.isCells = false) : BEI α J X pre0 f g2 g5 l i v gr L W0 Ds m pre W' := by
  have hr' : ∀ r, row = some r → ∃ o : Obj, W.heap[r]? = some o ∧ o.isCells = false := fun r e => (hr r e).2
  exact ⟨hJ _ _ _ _ h.j hg (fun r e => ⟨Nat.le_trans hm (hr r e).1, (hr r e).2⟩), h.b2.kept hg hr', h.b5.kept hg hr', h.rv.kept hg hr', h.ht.kept hg hr', h.mk_.grown hg hD (fun r e => (hr r e).1), Nat.le_trans h.sz hg.size⟩
set_option maxHeartbeats 4000000 in
set_option maxRecDepth 100000 in
theorem bitmap_Each_1.stops (F : Fence) (HF : Aside0 (F = Fence.wide)) (n : Nat) (hn : 5 ≤ n) (g3 gr : Nat) (v : Value) (L : List Int) (hL : ∀ x ∈ L, 0 ≤ x ∧ x < 18446744073709551616) (hl8 : L.length ≤ 17592186044416) (w : World)
    (B3 : Blk w g3 #[v] 36) (hRV : RowV v gr L w) (hgr : gr < w.heap.size) (hT : TabOk w) :
    SeqO F n Tryd.prog 88 #[.pointer (some ⟨g3, 0, none⟩)] (fun x : SetP (64 * L.length) (bitL L) => #[.int .i64 (x.val : Int)]) (Keep2 0 gr) (fun ys => ys = setP (64 * L.length) (bitL L) (64 * L.length)) (fun pre => pre <+: setP (64 * L.length) (bitL L) (64 * L.length)) w := by
  intro l J Jx W0 hW hJo hJxo hE hA hY h0
  have HAB := Aside0.mk hA
  clear hA
  have HY := Aside0.mk hY
  have HJ0 := Aside0.mk h0
  have HT := Aside0.mk (hT.step hW)
  have HRV := Aside0.mk (hRV.below hW)
  have HGR := Aside0.mk (Nat.lt_of_lt_of_le hgr hW.size)
  have HJO := Aside0.mk hJo
  have HJXO := Aside0.mk hJxo
  have HE := Aside0.mk hE
  have HL := Aside0.mk hL
  have HL8 := Aside0.mk hl8
  have C3 := B3.below hW
  clear hJo hJxo hE hY h0 hT hRV hgr hW hL hl8 B3
  have f0 := wide_fn HF 51
  have f2 := wide_fn HF 79
  have n1 : 1 ≤ n := by omega
  have n2 : 1 ≤ n - 1 := by omega
  have n3 : 1 ≤ n - 1 - 1 := by omega
  have hro := wide_round HF
  have HB := BelowH.refl W0
  have c3 := C3.cell (i := 0) rfl
  rcases HRV.out.out with ⟨rfl, rfl⟩ | ⟨cap, cur, rfl, _, _⟩
  · refine callsIn_of_wp_marks Tryd.func88 rfl (wide_fn HF _) ?_ hro
    simp only [Tryd.ntmps88, List.size_toArray, List.length_cons, List.length_nil, Nat.reduceAdd, Nat.reduceSub, Array.replicate_succ, Array.replicate_zero, List.push_toArray, List.append_toArray, List.nil_append, List.cons_append]
    gi_wp2_with (first
      | (((with_reducible refine gate_dstIn (N := 2) rfl ?_); refine ev_allocIn HB rfl rfl (#[.func (.yield l) #[] #[]]) 105 ?hr ?_; (case hr => first | (go_simp; done) | (go_simp; rfl)); intro g2 w2 G_g2 GE_g2 B_g2 HBn K_g2 KO_w2; clear HB; have HB := HBn; clear HBn); have c3' := (C3.below K_g2.out).cell (i := 0) rfl))
    refine wpIn_loopM (fun k a W => a = { tmps := #[.func (.yield l) #[] #[], .pointer (some ⟨g3, 0, none⟩), .pointer (some ⟨g2, 0, none⟩), undef, undef, undef, .slice none 0 0, .int .i64 0, .int .i64 0, undef, undef, undef, undef, undef, undef, undef, undef, undef, undef, undef, undef, undef, undef, undef], defers := [] } ∧ W = w2) 0 ⟨rfl, rfl⟩ ?_
    rintro k a W ⟨rfl, rfl⟩ K hK
    gi_wp2
    exact ⟨_, results_none rfl _ _ _, ⟨_, rfl⟩, .inl ⟨[], [], rfl, fun k hk => (List.not_mem_nil hk).elim, HJO.out [] [] _ _ none HJ0.out ⟨K_g2.out.os, K_g2.out.tape, K_g2.out.output, K_g2.out.size, fun k hk _ => K_g2.out.block k hk⟩ (fun r e => by cases e)⟩⟩
  refine callsIn_of_wp_marks Tryd.func88 rfl (wide_fn HF _) ?_ hro
  simp only [Tryd.ntmps88, List.size_toArray, List.length_cons, List.length_nil, Nat.reduceAdd, Nat.reduceSub, Array.replicate_succ, Array.replicate_zero, List.push_toArray, List.append_toArray, List.nil_append, List.cons_append]
  gi_wp2_with (first
    | (((with_reducible refine gate_dstIn (N := 2) rfl ?_); refine ev_allocIn HB rfl rfl (#[.func (.yield l) #[] #[]]) 105 ?hr ?_; (case hr => first | (go_simp; done) | (go_simp; rfl)); intro g2 w2 G_g2 GE_g2 B_g2 HBn K_g2 KO_w2; clear HB; have HB := HBn; clear HBn); have c3' := (C3.below K_g2.out).cell (i := 0) rfl))
  have HJ2 := Aside0.mk (HJO.out [g2] [] _ _ none (HE.out [] [] W0 g2 HJ0.out G_g2.out) ⟨K_g2.out.os, K_g2.out.tape, K_g2.out.output, K_g2.out.size, fun k hk _ => K_g2.out.block k hk⟩ (fun r e => by cases e))
  have HX2 : Aside0 (∀ k ∈ [g2], W0.heap.size ≤ k ∧ k < w2.heap.size) := ⟨fun k hk => by rw [List.mem_singleton.1 hk]; exact ⟨G_g2.out, B_g2.lt⟩⟩
  have HRV2 := Aside0.mk (HRV.out.below K_g2.out)
  have HT2 := Aside0.mk (HT.out.step K_g2.out)
  have HZ2 := Aside0.mk K_g2.out.size
  refine wpIn_loopM (fun m a W => ∃ (i : Nat) (X Ds : List Nat) (z8 : Int) (u3 u4 u5 u9 u10 u11 u12 u13 u14 u15 u16 u17 u18 u19 u20 u21 u22 u23 : Value), m = L.length - i ∧ z8 = (i : Int) ∧ i ≤ L.length ∧ a = { tmps := #[.func (.yield l) #[] #[], .pointer (some ⟨g3, 0, none⟩), .pointer (some ⟨g2, 0, none⟩), u3, u4, u5, .slice (some ⟨gr, 0, none⟩) L.length cap, .int .i64 (L.length : Int), .int .i64 z8, u9, u10, u11, u12, u13, u14, u15, u16, u17, u18, u19, u20, u21, u22, u23], defers := marksD Ds } ∧
    Aside0 (J X (setP (64 * L.length) (bitL L) (64 * i)) W) ∧ Aside0 (g2 ∈ X ∧ ∀ k ∈ X, W0.heap.size ≤ k ∧ k < W.heap.size) ∧ Aside0 (Blk W g2 #[.func (.yield l) #[] #[]] 105) ∧ Aside0 (RowV (.slice (some ⟨gr, 0, none⟩) L.length cap) gr L W) ∧ Aside0 (TabOk W) ∧ Aside0 (Marks W0.heap.size Ds W) ∧ Aside0 (W0.heap.size ≤ W.heap.size)) L.length
    ⟨0, [g2], [], 0, _, _, _, _, _, _, _, _, _, _, _, _, _, _, _, _, _, _, rfl, rfl, Nat.zero_le _, rfl, HJ2, ⟨List.mem_singleton.2 rfl, HX2.out⟩, ⟨B_g2⟩, HRV2, HT2, ⟨Marks.nil⟩, HZ2⟩ ?_
  rintro m a W ⟨i, X, Ds, z8, u3, u4, u5, u9, u10, u11, u12, u13, u14, u15, u16, u17, u18, u19, u20, u21, u22, u23, rfl, hz8, hi, rfl, HJ, HX, B2, HRV, HT, HM, HZ⟩ K hK
  have HKK := Aside0.mk hK
  clear hK HJ0 HJ2 HX2 HRV2 HT2 HZ2 B_g2 C3 c3 c3' HB K_g2 KO_w2 G_g2 GE_g2
  by_cases hlt : i < L.length
  · have HLT := Aside0.mk hlt
    rcases HRV.out.out with ⟨h0, _⟩ | ⟨cap', cur', he, BG, HA⟩
    · cases h0
    have cw := BG.cell (HA.get (bitL_word L i HL.out hlt))
    obtain ⟨x, hx⟩ : ∃ x, x = iv (word fun j => bitL L (64 * i + j)) := ⟨_, rfl⟩
    rw [← hx] at cw
    have HX0 := Aside0.mk hx
    have hq1 : (i : Int) < (L.length : Int) := by omega
    have hq2 : (0 : Int) ≤ (i : Int) := by omega
    subst hz8
    have HB := BelowH.refl W
    clear hx hlt BG HA he hi
    gi_wp2_with (first
      | ((with_reducible refine gate_dstIn (N := 3) rfl ?_); refine ev_allocIn HB rfl rfl (#[.int .i64 0]) 3 ?hr ?_; (case hr => first | (go_simp; done) | (go_simp; rfl)); intro g5 w5 G_g5 GE_g5 B_g5 HBn K_g5 KO_w5; clear HB; have HB := HBn; clear HBn)
      | ((with_reducible refine gate_In (Op.store 3 (.tmp 3) (.tmp 10)) rfl ?_); refine ev_store1In (i := 0) HB B_g5 GE_g5 rfl 3 _ _ rfl rfl (.int .i64 (i : Int)) rfl (by simp) (by kernel_rfl) rfl ?_; intro w6 B6 HBn K_w6 KO_w6; clear HB; have HB := HBn; clear HBn)
      | (gi_at_call 51; refine (callsIn_of HF (words_Each.calls x _)).mono ?_; rintro e w7 ⟨g1, rfl, GE1, B1, HB7⟩))
    have HBW := HB.step HB7.out
    have B5 := B6.below HB7.out
    have E2 := B2.out.below HBW.out
    have RV7 := HRV.out.below HBW.out
    have HT7 := Aside0.mk (HT.out.step HBW.out)
    have HM7 := HM.out.below HBW.out
    have hD7 : ∀ D ∈ Ds, D < w7.heap.size := fun D hD => HM7.lt hD
    have hm7 : W0.heap.size ≤ w7.heap.size := Nat.le_trans HZ.out HBW.le
    have G15 : W.heap.size ≤ g1 := by have := HB.le; omega
    have HJ7 := HJO.out (g1 :: g5 :: X) _ _ _ none (HE.out _ _ _ g1 (HE.out _ _ _ g5 HJ.out G_g5.out) G15) ⟨HBW.out.os, HBW.out.tape, HBW.out.output, HBW.out.size, fun k hk _ => HBW.out.block k hk⟩ (fun r e => by cases e)
    have HXX : Aside0 (∀ k ∈ g1 :: g5 :: X, W0.heap.size ≤ k ∧ k < w7.heap.size) := ⟨fun k hk => by
      have z1 := HZ.out
      have z2 := HBW.le
      have z3 := B1.lt
      have z4 := B5.lt
      have z5 := G_g5.out
      rcases List.mem_cons.1 hk with rfl | hk
      · omega
      · rcases List.mem_cons.1 hk with rfl | hk
        · omega
        · have := HX.out.2 k hk
          omega⟩
    rw [HX0.out] at B1
    have P0 := HT7.out.pos
    have L1 := B1.lt
    have HP := Aside0.mk (And.intro hD7 hm7)
    have HG2 := Aside0.mk HX.out.1
    clear HB HB7 B6 B_g5 K_g5 K_w6 KO_w5 KO_w6 G_g5 GE_g5 GE1 G15 hD7 hm7 HX B2 HRV HT HM HJ cw
    refine wpIn_rangeFunc_O hro n1 (gf := 79) (lb := #[.pointer (some ⟨g1, 0, none⟩)]) rfl f2 (enters_of Tryd.func79 (by kernel_rfl) rfl)
      (words_Each_1.stopsO F HF (n - 1) (by omega) g1 (fun j => bitL L (64 * i + j)) w7 B1 HT7.out) Keep2.trans (fun W l o o' hl ho hc hw => Keep2.putObj P0 P0 W l o o' hl ho hc hw) (Below.refl _ _) (fun _ => rfl)
      (fun X' => BEI _ J (X' ++ g1 :: g5 :: X) (setP (64 * L.length) (bitL L) (64 * i)) (inRow L i HLT.out) g2 g5 l i (.slice (some ⟨gr, 0, none⟩) L.length cap) gr L W0 Ds w7.heap.size)
      (fun c pre W => c = .ret ∧ Jx (setP (64 * L.length) (bitL L) (64 * i) ++ pre.map (inRow L i HLT.out)) W ∧ Marks W0.heap.size Ds W)
      (fun _ pre A B row hs hg hr => hs.kept (HJO.out _) HP.out.2 HP.out.1 hg hr)
      (fun c pre A B row hs hg hr => ⟨hs.1, HJXO.out _ _ _ _ hs.2.1 hg (fun r e => ⟨Nat.le_trans HP.out.2 (hr r e).1, (hr r e).2⟩), hs.2.2.grown hg HP.out.1 (fun r e => (hr r e).1)⟩)
      (fun X' pre A k h hk => ⟨HE.out _ _ _ k h.j hk, h.b2, h.b5, h.rv, h.ht, h.mk_, h.sz⟩)
      (fun X' pre A C hX' h ht => by
        have z1 := HP.out.2
        have z2 := h.sz
        have hXA : ∀ k ∈ X' ++ g1 :: g5 :: X, W0.heap.size ≤ k := fun k hk => by
          rcases List.mem_append.1 hk with hk | hk
          · have := hX' k hk
            omega
          · exact (HXX.out k hk).1
        have n2 : g2 ∉ X' := not_mem_above hX' (HXX.out g2 (List.mem_cons_of_mem _ (List.mem_cons_of_mem _ HG2.out))).2
        have n5 : g5 ∉ X' := not_mem_above hX' (HXX.out g5 (List.mem_cons_of_mem _ (List.mem_cons_self ..))).2
        have nr : gr ∉ X' := not_mem_above hX' (by have := HGR.out; omega)
        have n0 : 0 ∉ X' := not_mem_above hX' (by have := HT7.out.pos; omega)
        exact ⟨HAB.out _ _ _ _ hXA h.j (ht.mono fun k hk => List.mem_append_left _ hk), h.b2.turned ht n2, h.b5.turned ht n5, h.rv.heap (ht.block gr (by have := HGR.out; omega) nr), h.ht.heap (ht.block 0 h.ht.pos n0), h.mk_.same (fun D hD => ht.block D (h.mk_.lt hD) (not_mem_above hX' (HP.out.1 D hD))), Nat.le_trans h.sz ht.size⟩)
      ⟨by rw [List.map_nil, List.append_nil]; exact HJ7, E2, B5, RV7, HT7.out, HM7, Nat.le_refl _⟩
      (fun y a' W => a' = { tmps := #[.func (.yield l) #[] #[], .pointer (some ⟨g3, 0, none⟩), .pointer (some ⟨g2, 0, none⟩), .pointer (some ⟨g5, 0, none⟩), .int .u64 x, .int .i64 ((y.val : Nat) : Int), .slice (some ⟨gr, 0, none⟩) L.length cap, .int .i64 (L.length : Int), .int .i64 (i : Int), .bool true, .int .i64 (i : Int), .pointer (some ⟨gr, i, none⟩), .int .u64 x, .int .u64 x, .func (.func 79) #[] #[.pointer (some ⟨g1, 0, none⟩)], .int .i64 ((y.val : Nat) : Int), u16, u17, u18, u19, u20, u21, u22, u23], defers := [] })
      (fun x a' pre A B row hs hg hr => hs)
      ?assign ?body ?done ?stop
    case assign =>
      intro X' l' pre y W K' hX' hI hsp hK'
      dsimp only
      gi_wp2
      exact hK' _ _ ((KeepsOthers.refl _).from _) (fun _ _ => rfl) ⟨rfl, rfl, Nat.le_refl _⟩ hI rfl
    case body =>
      rintro X' l' pre y a' W' hX' hl ⟨r, hr⟩ hI rfl hsp
      clear hr
      have hpx : (setP (64 * L.length) (bitL L) (64 * i) ++ pre.map (inRow L i HLT.out)) ++ [inRow L i HLT.out y] <+: setP (64 * L.length) (bitL L) (64 * L.length) := by
        have h1 := row_set L i HLT.out 64 (Nat.le_refl _)
        refine List.IsPrefix.trans ?_ (setP_le (i := 64 * i + 64) (by have := HLT.out; omega))
        rw [h1, List.append_assoc]
        refine (List.prefix_append_right_inj _).2 ?_
        have h2 := hsp.map (inRow L i HLT.out)
        rwa [List.map_append] at h2
      have hXi : ∀ k ∈ X' ++ g1 :: g5 :: X, W0.heap.size ≤ k ∧ k < W'.heap.size := fun k hk => by
        rcases List.mem_append.1 hk with hk | hk
        · have := hX' k hk
          have := HP.out.2
          omega
        · have := HXX.out k hk
          have := hI.sz
          omega
      obtain ⟨fn, tmps, assign, body, hy, hR⟩ := HY.out (X' ++ g1 :: g5 :: X) _ (inRow L i HLT.out y) W' hXi hI.j hpx
      have e64 : (((inRow L i HLT.out y).val : Nat) : Int) = 64 * (i : Int) + ((y.val : Nat) : Int) := by
        show ((64 * i + y.val : Nat) : Int) = _
        omega
      rw [e64] at hy
      have HR := Aside0.mk hR
      have c2 := hI.b2.cell (i := 0) rfl
      have c5 := hI.b5.cell (i := 0) rfl
      have hb1 : (i : Int) ≤ 17592186044416 := by have := HL8.out; have := HLT.out; omega
      have hb2 : ((y.val : Nat) : Int) < 64 := by have := y.2.1; omega
      have hw1 : wrap64 (64 * (i : Int)) = 64 * (i : Int) := by unfold wrap64; omega
      have hw2 : wrap64 (64 * (i : Int) + ((y.val : Nat) : Int)) = 64 * (i : Int) + ((y.val : Nat) : Int) := by unfold wrap64; omega
      clear hR e64 hpx hXi hsp
      gi_wp2
      refine (roundIn_wide HF HR.out).mono ?_
      rintro e W2 ⟨hkf, hx, (⟨rfl, hJ2, hk2⟩ | ⟨rfl, hJx2⟩)⟩
      · have R5 := hx g5 (List.mem_append_right _ (List.mem_cons_of_mem _ (List.mem_cons_self ..)))
        have R2 := hx g2 (List.mem_append_right _ (List.mem_cons_of_mem _ (List.mem_cons_of_mem _ HG2.out)))
        have HJ2 := Aside0.mk hJ2
        clear hJ2
        gi_wp2
        refine ⟨KeepsFrom.up hkf HP.out.2, fun k hk => hx k (List.mem_append_left _ hk), ⟨hk2.1, hk2.1, hkf.size⟩, ?_, ⟨R2.trans hI.b2.out⟩, ⟨R5.trans hI.b5.out⟩, hI.rv.heap hk2.2.1, hI.ht.keep hk2, hI.mk_.keeps hkf (Nat.le_refl _), Nat.le_trans hI.sz hkf.size⟩
        rw [List.map_append, ← List.append_assoc]
        exact HJ2.out
      · have HJ2 := Aside0.mk hJx2
        clear hJx2
        gi_wp2
        refine ⟨KeepsFrom.up hkf HP.out.2, fun k hk => hx k (List.mem_append_left _ hk), rfl, ?_, hI.mk_.keeps hkf (Nat.le_refl _)⟩
        rw [List.map_append, ← List.append_assoc]
        exact HJ2.out
    case done =>
      rintro D X' ys W' hD hX' rfl hI hK'
      have HXD := Aside0.mk hX'
      clear hX'
      have HDn : D ∉ Ds := fun c => by have := HP.out.1 D c; omega
      have HM' := Aside0.mk (hI.mk_.cons (Nat.le_trans HP.out.2 hD) hK' HDn)
      have hI' := Aside0.mk hI
      have hb1 : (i : Int) ≤ 17592186044416 := by have := HL8.out; have := HLT.out; omega
      have hw1 : wrap64 ((i : Int) + 1) = (i : Int) + 1 := by unfold wrap64; omega
      have HD' := Aside0.mk (Nat.le_trans HP.out.2 hI.sz)
      clear hI hK' hD HDn
      gi_wp2
      refine HKK.out (L.length - (i + 1)) _ _ (by have := HLT.out; omega) ⟨i + 1, X' ++ g1 :: g5 :: X, D :: Ds, _, _, _, _, _, _, _, _, _, _, _, _, _, _, _, _, _, _, _, rfl, by omega, by have := HLT.out; omega, rfl, ?_, ⟨List.mem_append_right _ (List.mem_cons_of_mem _ (List.mem_cons_of_mem _ HG2.out)), fun k hk => by
        rcases List.mem_append.1 hk with hk | hk
        · have := HXD.out k hk
          have := HP.out.2
          omega
        · have := HXX.out k hk
          have := hI'.out.sz
          omega⟩, ⟨hI'.out.b2⟩, ⟨hI'.out.rv⟩, ⟨hI'.out.ht⟩, HM', HD'⟩
      refine ⟨?_⟩
      rw [show 64 * (i + 1) = 64 * i + 64 by omega, row_set L i HLT.out 64 (Nat.le_refl _)]
      exact hI'.out.j
    case stop =>
      rintro D c pre W' hD hp ⟨rfl, hJ2, hM2⟩ hK'
      have HDn : D ∉ Ds := fun c => by have := HP.out.1 D c; omega
      have HM' := Aside0.mk (hM2.cons (Nat.le_trans HP.out.2 hD) hK' HDn)
      have HJ2 := Aside0.mk hJ2
      have HPR := Aside0.mk hp
      clear hJ2 hM2 hK' hD HDn hp
      gi_wp2
      refine leaves_marksS (S := fun A => Jx (setP (64 * L.length) (bitL L) (64 * i) ++ pre.map (inRow L i HLT.out)) A) (fun A D' hs h1 h2 => HJXO.out.putObj _ hs h1 h2 rfl) (D :: Ds) W' HJ2.out HM'.out fun A hA => ⟨_, results_none rfl _ _ _, ⟨_, rfl⟩, .inr ⟨_, ?_, hA⟩⟩
      have h1 := row_set L i HLT.out 64 (Nat.le_refl _)
      refine List.IsPrefix.trans ?_ (setP_le (i := 64 * i + 64) (by have := HLT.out; omega))
      rw [h1]
      exact (List.prefix_append_right_inj _).2 (HPR.out.map _)
  · have EI : i = L.length := by omega
    subst hz8
    have hq1 : decide (i < L.length) = false := decide_eq_false (by omega)
    have HI := Aside0.mk EI
    clear EI hlt hi
    gi_wp2
    refine leaves_marksS (S := fun A => J X (setP (64 * L.length) (bitL L) (64 * i)) A ∧ W.heap.size ≤ A.heap.size) (fun A D' hs h1 h2 => ⟨(HJO.out X).putObj _ hs.1 h1 h2 rfl, by simpa using hs.2⟩) Ds W ⟨HJ.out, Nat.le_refl _⟩ HM.out fun A hA => ⟨_, results_none rfl _ _ _, ⟨_, rfl⟩, .inl ⟨_, X, ?_, ?_, hA.1⟩⟩
    · rw [HI.out]
    · intro k hk
      have := HX.out.2 k hk
      have := hA.2
      omega
end


/-! ### bitmap_Each: function 68 -/
section
open Go.Proofs.YtadcgjmhhodnoaaDoorQ Go.Proofs.YtadcgjmhhodnoaaDoorM
/-- What bitmap.Each leaves: a copy of the words, in a variable. -/
structure BEachO (w w' : World) (g3 : Nat) (l : List Int) : Prop where mk ::
  out : ∃ (gr : Nat) (v : Value), w.heap.size ≤ g3 ∧ w.heap.size ≤ gr ∧ gr < w'.heap.size ∧ Blk w' g3 #[v] 36 ∧ RowV v gr l w'
  hb : BelowH w w'
set_option maxHeartbeats 4000000 in
set_option maxRecDepth 100000 in
theorem bitmap_Each.calls (n : Int) (A : Option Addr) (cap : Nat) (l : List Int) (t : Bool) (w : World) (hr : Kd.C (Kd.int .u64) w A l.length l) (hc : l.length ≤ cap) (hb8 : l.length * 8 ≤ 140737488355328) (hF : bitmap_Formed.f n l = some t) :
    Calls Tryd.prog 68 #[.agg #[.int .i64 n, .slice A l.length cap]] w fun e w' => ∃ g3 : Nat, e = .returned (.func (.func 88) #[] #[.pointer (some ⟨g3, 0, none⟩)]) ∧ BEachO w w' g3 (if t then l else []) := by
  have HB := BelowH.refl w
  have HR := Aside0.mk hr
  have HC := Aside0.mk hc
  have HF := Aside0.mk hF
  have H8 := Aside0.mk hb8
  clear hr hc hF hb8
  cases t with
  | false =>
    go_enter Tryd.func68, Tryd.ntmps68
    go_wp2_with (first
      | ((with_reducible refine gate_dst (N := 1) rfl ?_); refine ev_alloc HB rfl (#[.int .i64 n, .slice A l.length cap]) 38 ?hr ?_; (case hr => first | (go_simp; done) | (go_simp; rfl)); intro g1 w1 G_g1 GE_g1 B_g1 HBn K_g1; clear HB; have HB := HBn; clear HBn)
      | ((with_reducible refine gate_dst (N := 3) rfl ?_); refine ev_alloc HB rfl (#[.slice none 0 0]) 36 ?hr ?_; (case hr => first | (go_simp; done) | (go_simp; rfl)); intro g3 w3 G_g3 GE_g3 B_g3 HBn K_g3; clear HB; have HB := HBn; clear HBn)
      | ((with_reducible refine gate_dst (N := 4) rfl ?_); refine ev_loadS (B_g1.below K_g3.out) rfl 38 _ rfl rfl Tryd.underlying38 rfl (by kernel_rfl) ?_)
      | (go_at_call 70; refine (bitmap_Formed.calls n A cap l false _ (Kd.C_below HR.out HB.out) HC.out HF.out).mono ?_; rintro e w4 ⟨rfl, hb4⟩; have HK4 := Aside0.mk hb4; have HB4 := HB.step hb4; clear hb4))
    go_ret
    exact ⟨g3, rfl, ⟨g3, _, GE_g3.out, GE_g3.out, (B_g3.below HK4.out).lt, B_g3.below HK4.out, ⟨.inl ⟨rfl, rfl⟩⟩⟩, HB4⟩
  | true =>
    go_enter Tryd.func68, Tryd.ntmps68
    go_upto_region 3 with (first
      | ((with_reducible refine gate_dst (N := 1) rfl ?_); refine ev_alloc HB rfl (#[.int .i64 n, .slice A l.length cap]) 38 ?hr ?_; (case hr => first | (go_simp; done) | (go_simp; rfl)); intro g1 w1 G_g1 GE_g1 B_g1 HBn K_g1; clear HB; have HB := HBn; clear HBn)
      | ((with_reducible refine gate_dst (N := 3) rfl ?_); refine ev_alloc HB rfl (#[.slice none 0 0]) 36 ?hr ?_; (case hr => first | (go_simp; done) | (go_simp; rfl)); intro g3 w3 G_g3 GE_g3 B_g3 HBn K_g3; clear HB; have HB := HBn; clear HBn)
      | ((with_reducible refine gate_dst (N := 4) rfl ?_); refine ev_loadS (B_g1.below K_g3.out) rfl 38 _ rfl rfl Tryd.underlying38 rfl (by kernel_rfl) ?_)
      | (go_at_call 70; refine (bitmap_Formed.calls n A cap l true _ (Kd.C_below HR.out HB.out) HC.out HF.out).mono ?_; rintro e w4 ⟨rfl, hb4⟩; have HK4 := Aside0.mk hb4; have HB4 := HB.step hb4; clear hb4))
    have D1 := (B_g1.below K_g3.out).below HK4.out
    have D3 := B_g3.below HK4.out
    have c11 := D1.cell (i := 1) rfl
    have c3 := D3.cell (i := 0) rfl
    go_wp2_with (first
      | ((with_reducible refine gate_dst (N := 9) rfl ?_); refine print_append_row_of (w0 := w) (Value.int .u64) (0 : Int) w.heap.size rfl _ _ 36 64 (.int .u64 0) 8 rfl Tryd.underlying36 (by kernel_rfl) rfl (by decide) (fun _ => rfl) (.slice none 0 0) [] l A l.length cap rfl rfl (World.ownsRow_nil _ _ _ _) (Kd.reads_of_C (d := (0 : Int)) (Kd.C_below HR.out HB4.out)) HB4.out HB4.le (by simpa using H8.out) ?_; intro v5 w5 hrow5 hb5 hg5 hat5; have HROW := Aside0.mk hrow5; have HB5 : BelowH w w5 := ⟨hb5⟩; have HG5 := Aside0.mk hg5; have d3 : Blk w5 g3 #[.slice none 0 0] 36 := ⟨(hg5.block _ D3.lt (fun e => by simp [Value.ownBlock] at e)).trans D3.out⟩; clear hrow5 hb5 hg5 hat5)
      | ((with_reducible refine gate_ (Op.store 36 (.tmp 3) (.tmp 9)) rfl ?_); refine ev_store1 (i := 0) HB5 d3 GE_g3 rfl 36 _ _ rfl rfl v5 rfl (by simp) (by kernel_rfl) (row_one HROW.out) ?_; intro w6 B6 HB6 K_w6))
    go_ret
    obtain ⟨hl, hv⟩ := row_open HROW.out
    rcases hv with ⟨rfl, h0⟩ | ⟨g, cap', cur, rfl, hbg, BG, h1, h2, h3, HA⟩
    · refine ⟨g3, rfl, ⟨g3, _, GE_g3.out, GE_g3.out, B6.lt, B6, ⟨.inl ⟨rfl, ?_⟩⟩⟩, HB6⟩
      simpa using h0
    · have hne : g ≠ g3 := BG.ne d3 (by decide)
      have BG6 := BG.other K_w6 hne
      refine ⟨g3, rfl, ⟨g, _, GE_g3.out, hbg, BG6.lt, B6, ⟨.inr ⟨cap', cur, ?_, BG6, ?_⟩⟩⟩, HB6⟩
      · simp
      · simpa [encs] using HA
end


/-! ### quotes_Texts_1: function 67 -/
section
open Go.Proofs.YtadcgjmhhodnoaaDoorQ Go.Proofs.YtadcgjmhhodnoaaDoorM Go.Shelf
attribute [local go_sem] Oper.semAt_some
namespace TxF
theorem size_eq (n : Nat) (h : n ≤ 281474976710656) : bitmap_size.f (n : Int) = some ((nwords n : Nat) : Int) := by
  unfold bitmap_size.f
  have e1 : Int.tmod (n : Int) 64 = ((n % 64 : Nat) : Int) := rfl
  have e2 : Int.tdiv (n : Int) 64 = ((n / 64 : Nat) : Int) := rfl
  have e3 : wrap64 ((n / 64 : Nat) : Int) = ((n / 64 : Nat) : Int) := by unfold wrap64; omega
  rw [e1, e2, e3]
  have e4 : wrap64 (((n / 64 : Nat) : Int) + 1) = ((n / 64 : Nat) : Int) + 1 := by unfold wrap64; omega
  rw [e4]
  unfold nwords
  by_cases h : n % 64 = 0
  · rw [if_pos (by omega)]; congr 1; omega
  · rw [if_neg (by omega)]; congr 1; omega
/-- The bits that the last word of a row may have. -/
def tailW (n : Nat) : BitVec 64 := if n % 64 = 0 then 18446744073709551615#64 else BitVec.ofNat 64 (2 ^ (n % 64) - 1)
theorem shl_one (m : Nat) (h : m < 64) : shl .u64 1 (m : Int) = ((2 ^ m : Nat) : Int) := by
  have : ∀ m : Fin 64, shl .u64 1 ((m.val : Nat) : Int) = ((2 ^ m.val : Nat) : Int) := by decide
  exact this ⟨m, h⟩
theorem tail_eq (n : Nat) : bitmap_tail.f (n : Int) = some (iv (tailW n)) := by
  unfold bitmap_tail.f tailW
  have e1 : Int.tmod (n : Int) 64 = ((n % 64 : Nat) : Int) := rfl
  rw [e1]
  by_cases h : n % 64 = 0
  · rw [if_pos (by omega), if_pos h]; rfl
  · rw [if_neg (by omega), if_neg h, if_pos (by omega), shl_one _ (by omega)]
    have hp : 0 < 2 ^ (n % 64) := Nat.pow_pos (by decide)
    have hq : 2 ^ (n % 64) < 2 ^ 64 := Nat.pow_lt_pow_right (by decide) (by omega)
    have : ((2 ^ (n % 64) : Nat) : Int) - 1 = ((2 ^ (n % 64) - 1 : Nat) : Int) := by omega
    rw [this, wrap_nat]
    unfold iv
    rw [BitVec.toNat_ofNat]
theorem rd_words (n : Nat) (p : Nat → Bool) (k : Nat) (h : k < nwords n) : rd (wordsOf n p) (k : Int) = iv (wordAt n p k) := by
  unfold rd
  rw [Int.toNat_natCast]
  exact wordsOf_get n p k h
/-- What is told of a row of bits is well formed. -/
theorem formed_eq (n : Nat) (p : Nat → Bool) (h : n ≤ 281474976710656) : bitmap_Formed.f (n : Int) (wordsOf n p) = some true := by
  unfold bitmap_Formed.f
  rw [if_neg (by omega), size_eq n h, Option.bind_some, wordsOf_length, if_pos rfl]
  by_cases h0 : n = 0
  · rw [if_pos (by omega)]
  · have hw : 0 < nwords n := by unfold nwords; omega
    have hb : nwords n ≤ 281474976710656 := by unfold nwords; omega
    have e : wrap64 (((nwords n : Nat) : Int) - 1) = ((nwords n - 1 : Nat) : Int) := by unfold wrap64; omega
    rw [if_neg (by omega), e, if_pos (by omega), if_pos (by omega), tail_eq, Option.bind_some, rd_words n p _ (by omega), bits_andNot]
    have hz : wordAt n p (nwords n - 1) &&& ~~~tailW n = 0#64 := by
      refine BitVec.eq_of_getLsbD_eq fun i hi => ?_
      rw [BitVec.getLsbD_and, BitVec.getLsbD_not]
      unfold wordAt
      rw [word_bit]
      unfold tailW
      have hn : nwords n = (n + 63) / 64 := rfl
      by_cases g : n % 64 = 0
      · rw [if_pos g]
        have : (18446744073709551615#64).getLsbD i = true := by
          have : ∀ i : Fin 64, (18446744073709551615#64).getLsbD i.val = true := by decide
          exact this ⟨i, hi⟩
        rw [this]; simp
      · rw [if_neg g, BitVec.getLsbD_ofNat, Nat.testBit_two_pow_sub_one]
        by_cases g2 : i < n % 64
        · simp [g2, hi]
        · have : ¬ (64 * (nwords n - 1) + i < n) := by omega
          simp [this]
    rw [hz]
    rfl
end TxF
/-- Between two marks. -/
structure TxI (J : List Nat → List (Nat × Nat) → World → Prop) (X : List Nat) (gy gf g1 : Nat) (l : Nat) (s : ByteArray) {n : Nat} {q : Nat → Bool} (m : Nat) (pre : List (SetP n q)) (W : World) : Prop where mk ::
  j : J X (foldT (pre.map (·.val))).1 W
  by_ : Blk W gy #[.func (.yield l) #[] #[]] 72
  bf : Blk W gf #[.int .i64 (fromI (foldT (pre.map (·.val))).2)] 3
  bs : Blk W g1 #[.string s] 9
  ht : TabOk W
  sz : m ≤ W.heap.size
theorem TxI.kept {J : List Nat → List (Nat × Nat) → World → Prop} {X : List Nat} {gy gf g1 : Nat} {l : Nat} {s : ByteArray} {n : Nat} {q : Nat → Bool} {m : Nat} {pre : List (SetP n q)} {W W' : World}
    (h : TxI J X gy gf g1 l s m pre W) {b : Nat} (hJ : OwnFrom b (J X)) (hm : b ≤ m) {row : Option Nat} (hg : W.grownBy W' row) (hr : ∀ r, row = some r → m ≤ r ∧ ∃ o : Obj, W.heap[r]? = some o ∧ o.isCells = false) : TxI J X gy gf g1 l s m pre W' := by
  have hr' : ∀ r, row = some r → ∃ o : Obj, W.heap[r]? = some o ∧ o.isCells = false := fun r e => (hr r e).2
  exact ⟨hJ _ _ _ _ h.j hg (fun r e => ⟨Nat.le_trans hm (hr r e).1, (hr r e).2⟩), h.by_.kept hg hr', h.bf.kept hg hr', h.bs.kept hg hr', h.ht.kept hg hr', Nat.le_trans h.sz hg.size⟩
theorem marks_set (s : ByteArray) : (setP (64 * (wordsOf s.size (mkq s)).length) (bitL (wordsOf s.size (mkq s))) (64 * (wordsOf s.size (mkq s)).length)).map (·.val) = marksP s := by
  rw [setP_val, wordsOf_length]
  have e : (List.range (64 * nwords s.size)).filter (fun k => decide (k < 64 * nwords s.size) && bitL (wordsOf s.size (mkq s)) k) = (List.range (64 * nwords s.size)).filter (fun k => decide (k < s.size) && mkq s k) := List.filter_congr fun j hj => by
    have hj' := List.mem_range.1 hj
    rw [decide_eq_true hj', Bool.true_and]
    exact wordsOf_bit s.size (mkq s) j hj'
  rw [e]
  exact range_filter_le _ _ _ (by unfold nwords; omega)
/-- The encoding of a span. -/
def spanEnc (x : Nat × Nat) : Array Value := #[.agg #[.int .i64 (x.1 : Int), .int .i64 (x.2 : Int)]]
set_option maxHeartbeats 4000000 in
set_option maxRecDepth 100000 in
theorem quotes_Texts_1.stops (F : Fence) (HF : Aside0 (F = Fence.wide)) (n : Nat) (hn : 7 ≤ n) (g3 g1 : Nat) (s : ByteArray) (hs : s.size ≤ 1099511627776) (A : Option Addr) (cap : Nat) (w : World)
    (B3 : Blk w g3 #[.int .i64 s.size, .slice A (wordsOf s.size (mkq s)).length cap] 38) (hC : Kd.C (Kd.int .u64) w A (wordsOf s.size (mkq s)).length (wordsOf s.size (mkq s))) (hcap : (wordsOf s.size (mkq s)).length ≤ cap) (B1 : Blk w g1 #[.string s] 9) (hT : TabOk w) :
    SeqO F n Tryd.prog 67 #[.pointer (some ⟨g3, 0, none⟩), .pointer (some ⟨g1, 0, none⟩)] spanEnc (Keep2 0 g1) (fun ys => ys = textsL s) (fun pre => pre <+: textsL s) w := by
  intro l J Jx W0 hW hJo hJxo hE hAb hY h0
  obtain ⟨R0, hR0⟩ : ∃ R0 : Ending → World → Prop, R0 = fun e W' => (∃ v, e = .returned v) ∧ ((∃ xs X, xs = textsL s ∧ (∀ k ∈ X, W0.heap.size ≤ k ∧ k < W'.heap.size) ∧ J X xs W') ∨ (∃ pre, pre <+: textsL s ∧ Jx pre W')) := ⟨_, rfl⟩
  rw [← hR0]
  have HR0 := Aside0.mk hR0
  clear hR0
  have HAB := Aside0.mk hAb
  clear hAb
  have HY := Aside0.mk hY
  have HJ0 := Aside0.mk h0
  have HT := Aside0.mk (hT.step hW)
  have HJO := Aside0.mk hJo
  have HJXO := Aside0.mk hJxo
  have HE := Aside0.mk hE
  have HS := Aside0.mk hs
  obtain ⟨L, hL⟩ : ∃ L, L = wordsOf s.size (mkq s) := ⟨_, rfl⟩
  rw [← hL] at B3 hC hcap
  have HLL := Aside0.mk hL
  have C3 := B3.below hW
  have D1 := B1.below hW
  have HC := Aside0.mk (Kd.C_below hC hW)
  have HCP := Aside0.mk hcap
  have HLN : Aside0 (L.length = nwords s.size) := ⟨by rw [hL, wordsOf_length]⟩
  have HL8 : Aside0 (L.length ≤ 17592186044416) := ⟨by rw [HLN.out]; unfold nwords; omega⟩
  have HRG : Aside0 (∀ x ∈ L, 0 ≤ x ∧ x < 18446744073709551616) := ⟨fun x hx => by
    rw [hL] at hx
    unfold wordsOf at hx
    obtain ⟨k, _, rfl⟩ := List.mem_map.1 hx
    exact ⟨iv_nonneg _, iv_lt _⟩⟩
  have HFM : Aside0 (bitmap_Formed.f (s.size : Int) L = some true) := ⟨by rw [hL]; exact TxF.formed_eq s.size (mkq s) (by omega)⟩
  have HMS : Aside0 ((setP (64 * L.length) (bitL L) (64 * L.length)).map (·.val) = marksP s) := ⟨by rw [hL]; exact marks_set s⟩
  clear hJo hJxo hE hY h0 hT hW hs hL B3 B1 hC hcap
  have f0 := wide_fn HF 68
  have f2 := wide_fn HF 88
  have n1 : 1 ≤ n := by omega
  have n2 : 1 ≤ n - 1 := by omega
  have n3 : 1 ≤ n - 1 - 1 := by omega
  have hro := wide_round HF
  have HB := BelowH.refl W0
  have c30 := C3.cell (i := 0) rfl
  refine callsIn_of_wp_marks Tryd.func67 rfl (wide_fn HF _) ?_ hro
  simp only [Tryd.ntmps67, List.size_toArray, List.length_cons, List.length_nil, Nat.reduceAdd, Nat.reduceSub, Array.replicate_succ, Array.replicate_zero, List.push_toArray, List.append_toArray, List.nil_append, List.cons_append]
  gi_upto_region 2 with (first
    | ((with_reducible refine gate_dstIn (N := 3) rfl ?_); refine ev_allocIn HB rfl rfl (#[.func (.yield l) #[] #[]]) 72 ?hr ?_; (case hr => first | (go_simp; done) | (go_simp; rfl)); intro gy w3 G_gy GE_gy B_gy HBn K_gy KO_w3; clear HB; have HB := HBn; clear HBn)
    | ((with_reducible refine gate_dstIn (N := 4) rfl ?_); refine ev_allocIn HB rfl rfl (#[.int .i64 0]) 3 ?hr ?_; (case hr => first | (go_simp; done) | (go_simp; rfl)); intro gf w4 G_gf GE_gf B_gf HBn K_gf KO_w4; clear HB; have HB := HBn; clear HBn)
    | ((with_reducible refine gate_In (Op.store 3 (.tmp 4) (.const (.int .i64 (-1)))) rfl ?_); refine ev_store1In (i := 0) HB B_gf GE_gf rfl 3 _ _ rfl rfl (.int .i64 (-1)) rfl (by simp) (by kernel_rfl) rfl ?_; intro w5 B5 HBn K_w5 KO_w5; clear HB; have HB := HBn; clear HBn))
  have HBW := HB
  have Nyf : gy ≠ gf := by have := B_gy.lt; have := G_gf.out; omega
  have Y5 := (B_gy.below K_gf.out).other K_w5 Nyf
  have HC5 := Aside0.mk (Kd.C_below HC.out HB.out)
  have E3 := C3.below HB.out
  have EC := Aside0.mk (bitmap_Each.calls (s.size : Int) A cap L true w5 HC5.out HCP.out (by have := HL8.out; omega) HFM.out)
  clear C3 c30
  gi_wp2_with (first
    | ((with_reducible refine gate_dstIn (N := 6) rfl ?_); refine ev_loadSIn E3 rfl 38 _ rfl rfl Tryd.underlying38 rfl (by kernel_rfl) ?_)
    | (gi_at_call 68; refine (callsIn_of HF EC.out).mono ?_; rintro e w6 ⟨ge, rfl, hO⟩; have HO := Aside0.mk hO; clear hO))
  obtain ⟨⟨gr, vr, GEe, GEr, Lr, BE, RV⟩, HB6⟩ := HO.out
  have HBW := HB.step HB6.out
  have Y6 := Y5.below HB6.out
  have F6 := B5.below HB6.out
  have S6 := D1.below HBW.out
  have T6 := HT.out.step HBW.out
  have X0 : Aside0 (∀ k ∈ [gr, gf, gy], W0.heap.size ≤ k ∧ k < w6.heap.size) := ⟨fun k hk => by
    have z1 := GE_gy.out
    have z2 := GE_gf.out
    have z3 := Y6.lt
    have z4 := F6.lt
    have z5 := HB.le
    simp only [List.mem_cons, List.not_mem_nil, or_false] at hk
    rcases hk with rfl | rfl | rfl <;> omega⟩
  have J6 := HJO.out [gr, gf, gy] [] W0 w6 none (HE.out _ _ _ gr (HE.out _ _ _ gf (HE.out _ _ _ gy HJ0.out GE_gy.out) GE_gf.out) (X0.out gr (List.mem_cons_self ..)).1) ⟨HBW.out.os, HBW.out.tape, HBW.out.output, HBW.out.size, fun k hk _ => HBW.out.block k hk⟩ (fun r e => by cases e)
  have NN := Aside0.mk (And.intro Nyf HBW.le)
  have NX : Aside0 (gr ≠ gf ∧ gf < w6.heap.size ∧ 0 < gf ∧ g1 < W0.heap.size ∧ gy < w6.heap.size ∧ W0.heap.size ≤ gf) := ⟨by
    have := F6.lt
    have := GE_gf.out
    have := HT.out.pos
    have := D1.lt
    have := Y6.lt
    have := B5.lt
    omega⟩
  have P0 := T6.pos
  clear HC5 EC HO GEe GEr HB6 HB E3 Y5 B5 B_gy B_gf K_gy K_gf K_w5 KO_w3 KO_w4 KO_w5 G_gy G_gf HBW D1 Nyf
  refine wpIn_rangeFunc_O hro n1 (gf := 88) (lb := #[.pointer (some ⟨ge, 0, none⟩)]) rfl f2 (enters_of Tryd.func88 (by kernel_rfl) rfl)
    (bitmap_Each_1.stops F HF (n - 1) (by omega) ge gr vr L HRG.out HL8.out w6 BE RV Lr T6) Keep2.trans (fun W l o o' hl ho hc hw => Keep2.putObj P0 Lr W l o o' hl ho hc hw) (Below.refl _ _) (fun _ => rfl)
    (fun X => TxI J (X ++ [gr, gf, gy]) gy gf g1 l s w6.heap.size)
    (fun c pre W => c = .ret ∧ ∃ ts, ts <+: textsL s ∧ Jx ts W)
    (fun _ pre A B row hs hg hr => hs.kept (HJO.out _) NN.out.2 hg hr)
    (fun c pre A B row hs hg hr => ⟨hs.1, hs.2.imp fun ts h => ⟨h.1, HJXO.out _ _ _ _ h.2 hg (fun r e => ⟨Nat.le_trans NN.out.2 (hr r e).1, (hr r e).2⟩)⟩⟩)
    (fun X pre A k h hk => ⟨HE.out _ _ _ k h.j hk, h.by_, h.bf, h.bs, h.ht, h.sz⟩)
    (fun X pre A C hX h ht => by
      have z1 := NX.out
      have z2 := NN.out.2
      have z3 := h.sz
      have z4 := h.ht.pos
      have hXA : ∀ k ∈ X ++ [gr, gf, gy], W0.heap.size ≤ k := fun k hk => by
        rcases List.mem_append.1 hk with hk | hk
        · have := hX k hk
          omega
        · exact (X0.out k hk).1
      exact ⟨HAB.out _ _ _ _ hXA h.j (ht.mono fun k hk => List.mem_append_left _ hk), h.by_.turned ht (not_mem_above hX (by omega)), h.bf.turned ht (not_mem_above hX (by omega)), h.bs.turned ht (not_mem_above hX (by omega)), h.ht.heap (ht.block 0 z4 (not_mem_above hX (by omega))), Nat.le_trans h.sz ht.size⟩)
    ⟨J6, Y6, F6, S6, T6, Nat.le_refl _⟩
    (fun y a' W => ∃ u6, a' = { tmps := #[.func (.yield l) #[] #[], .pointer (some ⟨g3, 0, none⟩), .pointer (some ⟨g1, 0, none⟩), .pointer (some ⟨gy, 0, none⟩), .pointer (some ⟨gf, 0, none⟩), .int .i64 ((y.val : Nat) : Int), u6, .func (.func 88) #[] #[.pointer (some ⟨ge, 0, none⟩)], .int .i64 ((y.val : Nat) : Int), undef, undef, undef, undef, undef, undef, undef, undef, undef, undef, undef, undef, undef, undef, undef, undef, undef, undef], defers := [] })
    (fun x a' pre A B row hs hg hr => hs)
    ?assign ?body ?done ?stop
  case assign =>
    intro X' l' pre y W K' hX' hI hsp hK'
    dsimp only
    gi_wp2
    exact hK' _ _ ((KeepsOthers.refl _).from _) (fun _ _ => rfl) ⟨rfl, rfl, Nat.le_refl _⟩ hI ⟨_, rfl⟩
  case body =>
    rintro X' l' pre y a' W' hX' hl ⟨r, hr⟩ hI ⟨u6, rfl⟩ hsp
    clear hr
    obtain ⟨st, hst⟩ : ∃ st, st = foldT (pre.map (·.val)) := ⟨_, rfl⟩
    have hst2 : foldT ((pre ++ [y]).map (·.val)) = stepQ st y.val := by
      rw [List.map_append, hst]
      exact foldT_snoc _ _
    have hpx : (stepQ st y.val).1 <+: textsL s := by
      rw [← hst2]
      refine (foldT_prefix ?_).trans (endT_prefix _ _)
      rw [← HMS.out]
      exact hsp.map _
    have hXr : ∀ k ∈ X' ++ [gr, gf, gy], W0.heap.size ≤ k ∧ k < W'.heap.size := fun k hk => by
      have z3 := hI.sz
      have z2 := NN.out.2
      rcases List.mem_append.1 hk with hk | hk
      · have := hX' k hk
        omega
      · have := X0.out k hk
        omega
    have hIj := hI.j
    have hIf := hI.bf
    rw [← hst] at hIj hIf
    have HI := Aside0.mk hI
    have HX := Aside0.mk hX'
    have HXR := Aside0.mk hXr
    have HS2 := Aside0.mk hst2
    have cy := hI.by_.cell (i := 0) rfl
    have hyb : ((y.val : Nat) : Int) ≤ 1125899906842624 := by have := y.2.1; have := HL8.out; omega
    have hw1 : wrap64 (((y.val : Nat) : Int) + 1) = ((y.val : Nat) : Int) + 1 := by unfold wrap64; omega
    clear hI hX' hXr hst2 hsp hl
    obtain ⟨ts, o⟩ := st
    cases o with
    | none =>
      obtain ⟨wc, HBc, hwc⟩ := below_cut W' gf (Nat.le_of_lt hIf.lt)
      have GEc : Aside0 (wc.heap.size ≤ gf) := ⟨Nat.le_of_eq hwc⟩
      have HIJ := Aside0.mk hIj
      have cf := hIf.cell (i := 0) rfl
      dsimp only [fromI] at cf
      clear hIj hpx hst hwc
      gi_wp2_with (first
        | ((with_reducible refine gate_In (Op.store 3 (.tmp 4) (.tmp 12)) rfl ?_); refine ev_store1In (i := 0) HBc hIf GEc rfl 3 _ _ rfl rfl (.int .i64 (((y.val : Nat) : Int) + 1)) rfl (by simp) (by kernel_rfl) rfl ?_; intro w8 B8 HB8 K_w8 KO_w8))
      have NXo := NX.out
      have NT : Turned (X' ++ [gr, gf, gy]) W' w8 := ⟨HB8.out.os.trans HBc.out.os.symm, HB8.out.tape.trans HBc.out.tape.symm, HB8.out.output.trans HBc.out.output.symm, K_w8.out.1, fun k hk hn => K_w8.out.2 k fun c => hn (c ▸ List.mem_append_right _ (by simp))⟩
      have J8 := HAB.out _ _ _ _ (fun k hk => (HXR.out k hk).1) HIJ.out NT
      refine ⟨KO_w8.out.from _, fun k hk => K_w8.out.2 k (fun c => by have := HX.out k hk; omega), ⟨K_w8.out.2 0 (by omega), K_w8.out.2 gr (by omega), K_w8.out.1⟩, ?_, HI.out.by_.other K_w8 NN.out.1, ?_, HI.out.bs.other K_w8 (by omega), HI.out.ht.other (by omega) K_w8, Nat.le_trans HI.out.sz K_w8.out.1⟩
      · rw [HS2.out]
        exact J8
      · rw [HS2.out]
        exact B8
    | some f =>
      have cf := hIf.cell (i := 0) rfl
      dsimp only [fromI] at cf
      obtain ⟨fn, tmps, assign, body, hy, hR⟩ := HY.out (X' ++ [gr, gf, gy]) ts (f, y.val) W' HXR.out hIj hpx
      dsimp only [spanEnc] at hy
      have HR := Aside0.mk hR
      have HPX : Aside0 (ts ++ [(f, y.val)] <+: textsL s) := ⟨hpx⟩
      have hf0 : decide ((f : Int) < 0) = false := decide_eq_false (by omega)
      clear hR hpx hst hIj
      gi_wp2
      refine (roundIn_wide HF HR.out).mono ?_
      rintro e W2 ⟨hkf, hx, (⟨rfl, hJ2, hk2⟩ | ⟨rfl, hJx2⟩)⟩
      · have Ry := hx gy (List.mem_append_right _ (by simp))
        have Rf := hx gf (List.mem_append_right _ (by simp))
        have Rr := hx gr (List.mem_append_right _ (by simp))
        have F2 : Blk W2 gf #[.int .i64 (f : Int)] 3 := ⟨Rf.trans hIf.out⟩
        obtain ⟨wc, HBc, hwc⟩ := below_cut W2 gf (Nat.le_of_lt F2.lt)
        have GEc : Aside0 (wc.heap.size ≤ gf) := ⟨Nat.le_of_eq hwc⟩
        have HJ2 := Aside0.mk hJ2
        have HK2 := Aside0.mk (And.intro hkf (And.intro hx hk2))
        clear hJ2 hkf hx hk2 hwc cf cy
        gi_wp2_with (first
          | ((with_reducible refine gate_In (Op.store 3 (.tmp 4) (.const (.int .i64 (-1)))) rfl ?_); refine ev_store1In (i := 0) HBc F2 GEc rfl 3 _ _ rfl rfl (.int .i64 (-1)) rfl (by simp) (by kernel_rfl) rfl ?_; intro w8 B8 HB8 K_w8 KO_w8))
        have NXo := NX.out
        obtain ⟨hkf, hx, hk2⟩ := HK2.out
        have NT : Turned (X' ++ [gr, gf, gy]) W2 w8 := ⟨HB8.out.os.trans HBc.out.os.symm, HB8.out.tape.trans HBc.out.tape.symm, HB8.out.output.trans HBc.out.output.symm, K_w8.out.1, fun k hk hn => K_w8.out.2 k fun c => hn (c ▸ List.mem_append_right _ (by simp))⟩
        have J8 := HAB.out _ _ _ _ (fun k hk => (HXR.out k hk).1) HJ2.out NT
        refine ⟨(KeepsFrom.up hkf NN.out.2).trans (KO_w8.out.from _), fun k hk => (K_w8.out.2 k (fun c => by have := HX.out k hk; omega)).trans (hx k (List.mem_append_left _ hk)), ⟨(K_w8.out.2 0 (by omega)).trans hk2.1, (K_w8.out.2 gr (by omega)).trans Rr, Nat.le_trans hkf.size K_w8.out.1⟩, ?_, ⟨(K_w8.out.2 gy NN.out.1).trans (Ry.trans HI.out.by_.out)⟩, ?_, ⟨(K_w8.out.2 g1 (by omega)).trans (hk2.2.1.trans HI.out.bs.out)⟩, (HI.out.ht.keep hk2).other (by omega) K_w8, Nat.le_trans HI.out.sz (Nat.le_trans hkf.size K_w8.out.1)⟩
        · rw [HS2.out]
          exact J8
        · rw [HS2.out]
          exact B8
      · have HJ2 := Aside0.mk hJx2
        have HK2 := Aside0.mk (And.intro hkf hx)
        clear hJx2 hkf hx
        gi_wp2
        refine ⟨KeepsFrom.up HK2.out.1 NN.out.2, fun k hk => HK2.out.2 k (List.mem_append_left _ hk), rfl, _, HPX.out, HJ2.out⟩
  case done =>
    rintro D X' ys W' hD hX' rfl hI hK'
    have HX := Aside0.mk hX'
    have hIj := hI.j
    have hIf := hI.bf
    rw [HMS.out] at hIj hIf
    obtain ⟨st, hst⟩ : ∃ st, st = foldT (marksP s) := ⟨_, rfl⟩
    rw [← hst] at hIj hIf
    have hTX : textsL s = endT st s.size := by rw [hst]; rfl
    have HTX := Aside0.mk hTX
    have HXR : Aside0 (∀ k ∈ X' ++ [gr, gf, gy], W0.heap.size ≤ k ∧ k < W'.heap.size) := ⟨fun k hk => by
      have z3 := hI.sz
      have z2 := NN.out.2
      rcases List.mem_append.1 hk with hk | hk
      · have := hX' k hk
        omega
      · have := X0.out k hk
        omega⟩
    have hD0 := Nat.le_trans NN.out.2 hD
    have cy := hI.by_.cell (i := 0) rfl
    have cs := hI.bs.cell (i := 0) rfl
    have cf := hIf.cell (i := 0) rfl
    have HM := Aside0.mk (Marks.cons (Marks.nil (W := W')) hD0 hK' (List.not_mem_nil))
    have hsz : (s.size : Int) ≤ 1099511627776 := by have := HS.out; omega
    clear hI hX' hK' hD hst hTX hD0
    obtain ⟨ts, o⟩ := st
    cases o with
    | none =>
      dsimp only [fromI] at cf
      have HIJ := Aside0.mk hIj
      clear hIj hIf cy cs
      gi_wp2
      refine leaves_marksS (S := fun A => J (X' ++ [gr, gf, gy]) ts A ∧ W'.heap.size ≤ A.heap.size) (fun A D' hs h1 h2 => ⟨(HJO.out _).putObj _ hs.1 h1 h2 rfl, by simpa using hs.2⟩) [D] W' ⟨HIJ.out, Nat.le_refl _⟩ HM.out fun A hA => ⟨_, results_none rfl _ _ _, by rw [HR0.out]; exact ⟨⟨_, rfl⟩, .inl ⟨_, X' ++ [gr, gf, gy], HTX.out.symm, fun k hk => by have := HXR.out k hk; have := hA.2; omega, hA.1⟩⟩⟩
    | some f =>
      dsimp only [fromI] at cf
      obtain ⟨fn, tmps, assign, body, hy, hR⟩ := HY.out (X' ++ [gr, gf, gy]) ts (f, s.size) W' HXR.out hIj (by rw [HTX.out]; exact List.prefix_rfl)
      dsimp only [spanEnc] at hy
      have HR := Aside0.mk hR
      have hf0 : decide (0 ≤ (f : Int)) = true := decide_eq_true (by omega)
      clear hR hIj hIf
      gi_wp2
      refine (roundIn_any HF HR.out).mono ?_
      rintro e W2 ⟨hkf, hx, (⟨rfl, hJ2, hk2⟩ | ⟨rfl, hJx2⟩)⟩
      · have HJ2 := Aside0.mk hJ2
        have HM2 := Aside0.mk (HM.out.keeps hkf (Nat.le_refl _))
        have HZ2 := Aside0.mk hkf.size
        clear hJ2 hkf hx hk2 cy cs cf
        gi_wp2
        refine leaves_marksS (S := fun A => J (X' ++ [gr, gf, gy]) (ts ++ [(f, s.size)]) A ∧ W2.heap.size ≤ A.heap.size) (fun A D' hs h1 h2 => ⟨(HJO.out _).putObj _ hs.1 h1 h2 rfl, by simpa using hs.2⟩) [D] W2 ⟨HJ2.out, Nat.le_refl _⟩ HM2.out fun A hA => ⟨_, results_none rfl _ _ _, by rw [HR0.out]; exact ⟨⟨_, rfl⟩, .inl ⟨_, X' ++ [gr, gf, gy], HTX.out.symm, fun k hk => by have := HXR.out k hk; have := hA.2; have := HZ2.out; omega, hA.1⟩⟩⟩
      · have HJ2 := Aside0.mk hJx2
        have HM2 := Aside0.mk (HM.out.keeps hkf (Nat.le_refl _))
        clear hJx2 hkf hx cy cs cf
        gi_wp2
        refine leaves_marksS (S := fun A => Jx (ts ++ [(f, s.size)]) A) (fun A D' hs h1 h2 => HJXO.out.putObj _ hs h1 h2 rfl) [D] W2 HJ2.out HM2.out fun A hA => ⟨_, results_none rfl _ _ _, by rw [HR0.out]; exact ⟨⟨_, rfl⟩, .inr ⟨_, by rw [HTX.out]; exact List.prefix_rfl, hA⟩⟩⟩
  case stop =>
    rintro D c pre W' hD hp ⟨rfl, ts, hts, hJ2⟩ hK'
    have hD0 := Nat.le_trans NN.out.2 hD
    have HM := Aside0.mk (Marks.cons (Marks.nil (W := W')) hD0 hK' (List.not_mem_nil))
    have HJ2 := Aside0.mk hJ2
    have HTS := Aside0.mk hts
    clear hp hJ2 hts hK' hD hD0
    gi_wp2
    exact leaves_marksS (S := fun A => Jx ts A) (fun A D' hs h1 h2 => HJXO.out.putObj _ hs h1 h2 rfl) [D] W' HJ2.out HM.out fun A hA => ⟨_, results_none rfl _ _ _, by rw [HR0.out]; exact ⟨⟨_, rfl⟩, .inr ⟨_, HTS.out, hA⟩⟩⟩
end


/-! ### quotes_Texts: function 32 -/
section
open Go.Proofs.YtadcgjmhhodnoaaDoorQ Go.Proofs.YtadcgjmhhodnoaaDoorM
/-- What quotes.Texts leaves: the marks, and the text, in variables. -/
structure TextsO (s : ByteArray) (w w' : World) (g3 g1 : Nat) : Prop where mk ::
  out : ∃ (A : Option Addr) (cap : Nat), Blk w' g3 #[.int .i64 s.size, .slice A (wordsOf s.size (mkq s)).length cap] 38 ∧ Kd.C (Kd.int .u64) w' A (wordsOf s.size (mkq s)).length (wordsOf s.size (mkq s)) ∧ (wordsOf s.size (mkq s)).length ≤ cap
  b1 : Blk w' g1 #[.string s] 9
  hb : BelowH w w'
set_option maxHeartbeats 4000000 in
set_option maxRecDepth 100000 in
theorem quotes_Texts.calls (s : ByteArray) (w : World) (hs : s.size ≤ 281474976702464) :
    Calls Tryd.prog 32 #[.string s] w fun e w' => ∃ g3 g1 : Nat, e = .returned (.func (.func 67) #[] #[.pointer (some ⟨g3, 0, none⟩), .pointer (some ⟨g1, 0, none⟩)]) ∧ TextsO s w w' g3 g1 := by
  have HB := BelowH.refl w
  have MK : Aside0 (∀ w, Calls Tryd.prog 22 #[.string s] w fun e w' => ∃ v1_ : Value, e = .returned (.agg #[.int .i64 s.size, v1_]) ∧ Kd.R (Kd.int .u64) 64 w' w.heap.size (fun _ => True) v1_ (wordsOf s.size (mkq s)) ∧ Below w.heap.size w w') := ⟨fun w => quotes_Marks.calls s _ _ w (by unfold quotes_Marks.f; rw [if_pos hs])⟩
  clear hs
  go_enter Tryd.func32, Tryd.ntmps32
  go_wp2_with (first
    | (((with_reducible refine gate_dst (N := 1) rfl ?_); refine ev_alloc HB rfl (#[.string s]) 9 ?hr ?_; (case hr => first | (go_simp; done) | (go_simp; rfl)); intro g1 w1 G_g1 GE_g1 B_g1 HBn K_g1; clear HB; have HB := HBn; clear HBn); have c1 := B_g1.cell (i := 0) rfl)
    | (go_at_call 22; refine (MK.out _).mono ?_; rintro e w4 ⟨v, rfl, hR, hb4⟩; have HR4 := Aside0.mk hR; have D1 := B_g1.below hb4; have HBW := Aside0.mk (HB.step hb4); have HQ := BelowH.refl w4; clear HB; have HB := HQ; clear HQ hR hb4; obtain ⟨Ao, co, rfl⟩ := Kd.R_slice HR4.out)
    | ((with_reducible refine gate_dst (N := 3) rfl ?_); refine ev_alloc HB rfl (#[.int .i64 0, .slice none 0 0]) 38 ?hr ?_; (case hr => first | (go_simp; done) | (go_simp; rfl)); intro g3 w5 G_g3 GE_g3 B_g3 HBn K_g3; clear HB; have HB := HBn; clear HBn)
    | ((with_reducible refine gate_ (Op.store 38 (.tmp 3) (.tmp 5)) rfl ?_); refine ev_store HB B_g3 GE_g3 rfl 38 _ _ rfl rfl rfl (by kernel_rfl) rfl (by simp [Value.oneCell']) ?_; intro w6 B6 HB6 K_w6))
  go_ret
  have hC := Kd.R_reads' HR4.out
  exact ⟨g3, g1, rfl, ⟨_, _, B6, Kd.C_below hC.2.2 HB6.out, hC.2.1⟩, D1.below HB6.out, HBW.out.step HB6.out⟩
end


/-! ### bitmap_Get: function 36 -/
def bitmap_Get.f (a0_0 : Int) (l0_1 : List Int) (a1 : Int) : Option (Bool) := (bitmap_Formed.f a0_0 l0_1).bind fun t106 => (if t106 = true then (if a1 ≥ 0 then (if a1 < a0_0 then (if 0 ≤ (wrap64 (Int.tdiv a1 64)) then (if (wrap64 (Int.tdiv a1 64)) < (l0_1.length : Int) then (if 0 ≤ (Int.tmod a1 64) then (some ((Go.bits .and .u64 (shr .u64 (rd l0_1 (wrap64 (Int.tdiv a1 64))) (Int.tmod a1 64)) 1) == 1)) else (none)) else (none)) else (none)) else (some false)) else (some false)) else (some false))
set_option maxHeartbeats 8000000 in
set_option maxRecDepth 100000 in
theorem bitmap_Get.calls (a0_0 : Int) (A0_1 : Option Addr) (c0_1 : Nat) (l0_1 : List Int) (a1 : Int) (r : Bool) (w : World) (hr0_1 : Kd.C (Kd.int .u64) w A0_1 l0_1.length l0_1) (hc0_1 : l0_1.length ≤ c0_1) (h : bitmap_Get.f a0_0 l0_1 a1 = some r) :
    Calls Tryd.prog 36 #[.agg #[.int .i64 a0_0, .slice A0_1 l0_1.length c0_1], .int .i64 a1] w fun e w' => e = .returned (.bool r) ∧ Below w.heap.size w w' := by
  have hu38 := Tryd.underlying38
  have HR0_1 := Aside0.mk hr0_1
  have HC0_1 := Aside0.mk hc0_1
  clear hr0_1 hc0_1
  have HB := Aside0.mk (Below.refl w.heap.size w)
  have H : ((bitmap_Formed.f a0_0 l0_1).bind fun t106 => (if t106 = true then (if a1 ≥ 0 then (if a1 < a0_0 then (if 0 ≤ (wrap64 (Int.tdiv a1 64)) then (if (wrap64 (Int.tdiv a1 64)) < (l0_1.length : Int) then (if 0 ≤ (Int.tmod a1 64) then (some ((Go.bits .and .u64 (shr .u64 (rd l0_1 (wrap64 (Int.tdiv a1 64))) (Int.tmod a1 64)) 1) == 1)) else (none)) else (none)) else (none)) else (some false)) else (some false)) else (some false))) = some r := h
  clear h
  replace H := Option.bind_eq_some_iff.mp H
  obtain ⟨t106, A30, H⟩ := H
  replace H : (if t106 = true then (if a1 ≥ 0 then (if a1 < a0_0 then (if 0 ≤ (wrap64 (Int.tdiv a1 64)) then (if (wrap64 (Int.tdiv a1 64)) < (l0_1.length : Int) then (if 0 ≤ (Int.tmod a1 64) then (some ((Go.bits .and .u64 (shr .u64 (rd l0_1 (wrap64 (Int.tdiv a1 64))) (Int.tmod a1 64)) 1) == 1)) else (none)) else (none)) else (none)) else (some false)) else (some false)) else (some false)) = some r := H
  have A3 := Aside0.mk A30
  clear A30
  by_cases c4 : t106 = true
  · subst c4
    have H1 : (if a1 ≥ 0 then (if a1 < a0_0 then (if 0 ≤ (wrap64 (Int.tdiv a1 64)) then (if (wrap64 (Int.tdiv a1 64)) < (l0_1.length : Int) then (if 0 ≤ (Int.tmod a1 64) then (some ((Go.bits .and .u64 (shr .u64 (rd l0_1 (wrap64 (Int.tdiv a1 64))) (Int.tmod a1 64)) 1) == 1)) else (none)) else (none)) else (none)) else (some false)) else (some false)) = some r := by rw [if_pos rfl] at H; exact H
    clear H
    have H := H1
    clear H1
    by_cases c5 : a1 ≥ 0
    · rw [if_pos c5] at H
      have c5b0 : decide (0 ≤ a1) = true := decide_eq_true c5
      clear c5
      by_cases c6 : a1 < a0_0
      · rw [if_pos c6] at H
        have c6b0 : decide (a1 < a0_0) = true := decide_eq_true c6
        clear c6
        obtain ⟨ji7, hji7⟩ : ∃ j_ : Int, (wrap64 (Int.tdiv a1 64)) = j_ := ⟨_, rfl⟩
        replace H : (if 0 ≤ (ji7) then (if (ji7) < (l0_1.length : Int) then (if 0 ≤ (Int.tmod a1 64) then (some ((Go.bits .and .u64 (shr .u64 (rd l0_1 (ji7)) (Int.tmod a1 64)) 1) == 1)) else (none)) else (none)) else (none)) = some r := by first | (rw [hji7] at H; exact H) | (simp only [hji7] at H ⊢; exact H)
        (try rw [hji7] at A3)
        have hji7w : (IntKind.i64.wrap (Int.tdiv a1 64)) = ji7 := (i64_w _).trans hji7
        by_cases c8 : 0 ≤ (ji7)
        · rw [if_pos c8] at H
          have c8b0 : decide (0 ≤ (ji7)) = true := decide_eq_true c8
          clear c8
          by_cases c9 : (ji7) < (l0_1.length : Int)
          · rw [if_pos c9] at H
            have c9b0 : decide ((ji7) < (l0_1.length : Int)) = true := decide_eq_true c9
            clear c9
            obtain ⟨ji10, hji10⟩ : ∃ j_ : Int, (Int.tmod a1 64) = j_ := ⟨_, rfl⟩
            replace H : (if 0 ≤ (ji10) then (some ((Go.bits .and .u64 (shr .u64 (rd l0_1 (ji7)) (ji10)) 1) == 1)) else (none)) = some r := by first | (rw [hji10] at H; exact H) | (simp only [hji10] at H ⊢; exact H)
            (try rw [hji10] at A3)
            by_cases c11 : 0 ≤ (ji10)
            · rw [if_pos c11] at H
              have c11b0 := eq_true c11
              have c11b1 : decide (0 ≤ (ji10)) = true := decide_eq_true c11
              clear c11
              obtain ⟨ji12, hji12⟩ : ∃ j_ : Int, (shr .u64 (rd l0_1 (ji7)) (ji10)) = j_ := ⟨_, rfl⟩
              replace H : (some ((Go.bits .and .u64 (ji12) 1) == 1)) = some r := by first | (rw [hji12] at H; exact H) | (simp only [hji12] at H ⊢; exact H)
              (try rw [hji12] at A3)
              have hji12_ : ((rd l0_1 (ji7)) / 2 ^ min (ji10).toNat 64) = ji12 := hji12
              have hji12z : (ji10) ≤ 64 → ((rd l0_1 (ji7)) / 2 ^ (ji10).toNat) = ji12 := shr_small hji12
              obtain rfl := Option.some.inj H
              go_enter Tryd.func36, Tryd.ntmps36
              go_wp2_with (first | ((with_reducible refine gate_dst (N := 2) rfl ?_); refine box_event ?hg (N := 2) ?hd (cs := #[.int .i64 a0_0, .slice A0_1 l0_1.length c0_1]) (t := 38) ?hr ?_; (case hd => rfl); (case hg => rfl); (case hr => first | (go_simp; done) | (go_simp; rfl)); intro gb105 hg w13 hbox hb; have n0_ := Aside0.mk (below_step (by repeat (first | (with_reducible first | exact HB.out | apply below_alloc | apply pw_below_drewN | apply below_drew1) | exact HB.out)) hb); have n1_ := Aside0.mk (hbox); have n2_ := Aside0.mk ((by rw [hg]; exact (below_size (by repeat (first | (with_reducible first | exact HB.out | apply below_alloc | apply pw_below_drewN | apply below_drew1) | exact HB.out))) : w.heap.size ≤ gb105)); have n3_ := Aside0.mk ((by rw [hg]; exact (below_size (by repeat (first | (with_reducible first | exact HB.out | apply below_alloc | apply pw_below_drewN | apply below_drew1) | exact HB.out))) : w.heap.size ≤ gb105)); clear HB; have HB := n0_; have BK105 := n1_; have GW105 := n2_; have GE105 := n3_; clear n0_ n1_ n2_ n3_; clear hb hbox hg; have hcz14_0 : w13.cell? ⟨gb105, 0, none⟩ = some (.int .i64 a0_0) := (blk_cell BK105.out 0).trans rfl; have hcz14_1 : w13.cell? ⟨gb105, 1, none⟩ = some (.slice A0_1 l0_1.length c0_1) := (blk_cell BK105.out 1).trans rfl; have hfz14_0 := blk_frozen BK105.out 0; have hfz14_1 := blk_frozen BK105.out 1) | ((with_reducible refine gate_callee (f := 70) rfl ?_); refine goesL_ (some 6) rfl rfl Tryd.func70 (by kernel_rfl) rfl #[.agg #[.int .i64 a0_0, .slice A0_1 l0_1.length c0_1]] rfl (by (try simp only [List.map_toArray, List.map_cons, List.map_nil]); first | done | rfl | (simp only [List.length_drop, List.length_take]; rfl)) ?_; (with_reducible refine (bitmap_Formed.calls a0_0 _ _ l0_1 true _ ?side1 ?side2 A3.out).mono ?_); (case side1 => repeat (first | exact (Kd.C_below HR0_1.out HB.out) | (with_reducible refine Kd.C_alloc ?_ _) | (with_reducible refine Kd.C_drewN ?_ _) | (with_reducible refine Kd.C_drew ?_))); (case side2 => exact HC0_1.out); rintro e w15 ⟨rfl, hb⟩; refine ⟨_, rfl, ?_⟩; have n0_ := Aside0.mk (blk_below (g := gb105) (o := .cells #[.int .i64 a0_0, .slice A0_1 l0_1.length c0_1] 38 (0, 0)) (by (with_reducible repeat (first | refine blk_drewN ?_ _ | refine blk_drew ?_ | refine blk_alloc ?_ _)); exact BK105.out) hb); have n1_ := Aside0.mk (below_step (by repeat (first | (with_reducible first | exact HB.out | apply below_alloc | apply pw_below_drewN | apply below_drew1 | refine below_set ?_ GE105.out) | exact HB.out)) hb); clear BK105; clear HB; have BK105 := n0_; have HB := n1_; clear n0_ n1_; (try clear hb); (try clear hb2); (try clear hk); (try clear hi); have hcz16_0 : w15.cell? ⟨gb105, 0, none⟩ = some (.int .i64 a0_0) := (blk_cell BK105.out 0).trans rfl; have hcz16_1 : w15.cell? ⟨gb105, 1, none⟩ = some (.slice A0_1 l0_1.length c0_1) := (blk_cell BK105.out 1).trans rfl; have hfz16_0 := blk_frozen BK105.out 0; have hfz16_1 := blk_frozen BK105.out 1; have p107 : 0 ≤ ((ji7) : Int) := of_decide_eq_true (by first | (with_reducible assumption) | assumption); have q107 : (ji7) < (l0_1.length : Int) := of_decide_eq_true (by first | (with_reducible assumption) | assumption); obtain ⟨ad107, e107, hx107_0⟩ := Kd.at_int HR0_1.out (ji7) p107 q107; cases e107; replace hx107_0 := (HB.out.cell (World.block_lt_of_cell? w _ hx107_0)).trans hx107_0; replace p107 := eq_true p107; replace q107 := eq_true q107))
              go_ret
              exact ⟨by first | rfl | (simp [errW_none, errW_some] <;> rfl) | (simp only [← hji7, ← hji10, ← hji12]; first | rfl | (simp [errW_none, errW_some] <;> rfl)) | (simp [*, errW_none, errW_some] <;> rfl), by repeat (first | (with_reducible first | exact HB.out | apply below_alloc | apply pw_below_drewN | apply below_drew1 | refine below_set ?_ GE105.out) | exact HB.out)⟩
            · rw [if_neg c11] at H
              exact absurd H (by simp)
          · rw [if_neg c9] at H
            exact absurd H (by simp)
        · rw [if_neg c8] at H
          exact absurd H (by simp)
      · rw [if_neg c6] at H
        have c6b0 : decide (a1 < a0_0) = false := decide_eq_false c6
        clear c6
        obtain rfl := Option.some.inj H
        go_enter Tryd.func36, Tryd.ntmps36
        go_wp2_with (first | ((with_reducible refine gate_dst (N := 2) rfl ?_); refine box_event ?hg (N := 2) ?hd (cs := #[.int .i64 a0_0, .slice A0_1 l0_1.length c0_1]) (t := 38) ?hr ?_; (case hd => rfl); (case hg => rfl); (case hr => first | (go_simp; done) | (go_simp; rfl)); intro gb105 hg w17 hbox hb; have n0_ := Aside0.mk (below_step (by repeat (first | (with_reducible first | exact HB.out | apply below_alloc | apply pw_below_drewN | apply below_drew1) | exact HB.out)) hb); have n1_ := Aside0.mk (hbox); have n2_ := Aside0.mk ((by rw [hg]; exact (below_size (by repeat (first | (with_reducible first | exact HB.out | apply below_alloc | apply pw_below_drewN | apply below_drew1) | exact HB.out))) : w.heap.size ≤ gb105)); have n3_ := Aside0.mk ((by rw [hg]; exact (below_size (by repeat (first | (with_reducible first | exact HB.out | apply below_alloc | apply pw_below_drewN | apply below_drew1) | exact HB.out))) : w.heap.size ≤ gb105)); clear HB; have HB := n0_; have BK105 := n1_; have GW105 := n2_; have GE105 := n3_; clear n0_ n1_ n2_ n3_; clear hb hbox hg; have hcz18_0 : w17.cell? ⟨gb105, 0, none⟩ = some (.int .i64 a0_0) := (blk_cell BK105.out 0).trans rfl; have hcz18_1 : w17.cell? ⟨gb105, 1, none⟩ = some (.slice A0_1 l0_1.length c0_1) := (blk_cell BK105.out 1).trans rfl; have hfz18_0 := blk_frozen BK105.out 0; have hfz18_1 := blk_frozen BK105.out 1) | ((with_reducible refine gate_callee (f := 70) rfl ?_); refine goesL_ (some 6) rfl rfl Tryd.func70 (by kernel_rfl) rfl #[.agg #[.int .i64 a0_0, .slice A0_1 l0_1.length c0_1]] rfl (by (try simp only [List.map_toArray, List.map_cons, List.map_nil]); first | done | rfl | (simp only [List.length_drop, List.length_take]; rfl)) ?_; (with_reducible refine (bitmap_Formed.calls a0_0 _ _ l0_1 true _ ?side1 ?side2 A3.out).mono ?_); (case side1 => repeat (first | exact (Kd.C_below HR0_1.out HB.out) | (with_reducible refine Kd.C_alloc ?_ _) | (with_reducible refine Kd.C_drewN ?_ _) | (with_reducible refine Kd.C_drew ?_))); (case side2 => exact HC0_1.out); rintro e w19 ⟨rfl, hb⟩; refine ⟨_, rfl, ?_⟩; have n0_ := Aside0.mk (blk_below (g := gb105) (o := .cells #[.int .i64 a0_0, .slice A0_1 l0_1.length c0_1] 38 (0, 0)) (by (with_reducible repeat (first | refine blk_drewN ?_ _ | refine blk_drew ?_ | refine blk_alloc ?_ _)); exact BK105.out) hb); have n1_ := Aside0.mk (below_step (by repeat (first | (with_reducible first | exact HB.out | apply below_alloc | apply pw_below_drewN | apply below_drew1 | refine below_set ?_ GE105.out) | exact HB.out)) hb); clear BK105; clear HB; have BK105 := n0_; have HB := n1_; clear n0_ n1_; (try clear hb); (try clear hb2); (try clear hk); (try clear hi); have hcz20_0 : w19.cell? ⟨gb105, 0, none⟩ = some (.int .i64 a0_0) := (blk_cell BK105.out 0).trans rfl; have hcz20_1 : w19.cell? ⟨gb105, 1, none⟩ = some (.slice A0_1 l0_1.length c0_1) := (blk_cell BK105.out 1).trans rfl; have hfz20_0 := blk_frozen BK105.out 0; have hfz20_1 := blk_frozen BK105.out 1))
        go_ret
        exact ⟨by first | rfl | (simp [errW_none, errW_some] <;> rfl) | (simp [*, errW_none, errW_some] <;> rfl), by repeat (first | (with_reducible first | exact HB.out | apply below_alloc | apply pw_below_drewN | apply below_drew1 | refine below_set ?_ GE105.out) | exact HB.out)⟩
    · rw [if_neg c5] at H
      have c5b0 : decide (0 ≤ a1) = false := decide_eq_false c5
      clear c5
      obtain rfl := Option.some.inj H
      go_enter Tryd.func36, Tryd.ntmps36
      go_wp2_with (first | ((with_reducible refine gate_dst (N := 2) rfl ?_); refine box_event ?hg (N := 2) ?hd (cs := #[.int .i64 a0_0, .slice A0_1 l0_1.length c0_1]) (t := 38) ?hr ?_; (case hd => rfl); (case hg => rfl); (case hr => first | (go_simp; done) | (go_simp; rfl)); intro gb105 hg w21 hbox hb; have n0_ := Aside0.mk (below_step (by repeat (first | (with_reducible first | exact HB.out | apply below_alloc | apply pw_below_drewN | apply below_drew1) | exact HB.out)) hb); have n1_ := Aside0.mk (hbox); have n2_ := Aside0.mk ((by rw [hg]; exact (below_size (by repeat (first | (with_reducible first | exact HB.out | apply below_alloc | apply pw_below_drewN | apply below_drew1) | exact HB.out))) : w.heap.size ≤ gb105)); have n3_ := Aside0.mk ((by rw [hg]; exact (below_size (by repeat (first | (with_reducible first | exact HB.out | apply below_alloc | apply pw_below_drewN | apply below_drew1) | exact HB.out))) : w.heap.size ≤ gb105)); clear HB; have HB := n0_; have BK105 := n1_; have GW105 := n2_; have GE105 := n3_; clear n0_ n1_ n2_ n3_; clear hb hbox hg; have hcz22_0 : w21.cell? ⟨gb105, 0, none⟩ = some (.int .i64 a0_0) := (blk_cell BK105.out 0).trans rfl; have hcz22_1 : w21.cell? ⟨gb105, 1, none⟩ = some (.slice A0_1 l0_1.length c0_1) := (blk_cell BK105.out 1).trans rfl; have hfz22_0 := blk_frozen BK105.out 0; have hfz22_1 := blk_frozen BK105.out 1) | ((with_reducible refine gate_callee (f := 70) rfl ?_); refine goesL_ (some 6) rfl rfl Tryd.func70 (by kernel_rfl) rfl #[.agg #[.int .i64 a0_0, .slice A0_1 l0_1.length c0_1]] rfl (by (try simp only [List.map_toArray, List.map_cons, List.map_nil]); first | done | rfl | (simp only [List.length_drop, List.length_take]; rfl)) ?_; (with_reducible refine (bitmap_Formed.calls a0_0 _ _ l0_1 true _ ?side1 ?side2 A3.out).mono ?_); (case side1 => repeat (first | exact (Kd.C_below HR0_1.out HB.out) | (with_reducible refine Kd.C_alloc ?_ _) | (with_reducible refine Kd.C_drewN ?_ _) | (with_reducible refine Kd.C_drew ?_))); (case side2 => exact HC0_1.out); rintro e w23 ⟨rfl, hb⟩; refine ⟨_, rfl, ?_⟩; have n0_ := Aside0.mk (blk_below (g := gb105) (o := .cells #[.int .i64 a0_0, .slice A0_1 l0_1.length c0_1] 38 (0, 0)) (by (with_reducible repeat (first | refine blk_drewN ?_ _ | refine blk_drew ?_ | refine blk_alloc ?_ _)); exact BK105.out) hb); have n1_ := Aside0.mk (below_step (by repeat (first | (with_reducible first | exact HB.out | apply below_alloc | apply pw_below_drewN | apply below_drew1 | refine below_set ?_ GE105.out) | exact HB.out)) hb); clear BK105; clear HB; have BK105 := n0_; have HB := n1_; clear n0_ n1_; (try clear hb); (try clear hb2); (try clear hk); (try clear hi)))
      go_ret
      exact ⟨by first | rfl | (simp [errW_none, errW_some] <;> rfl) | (simp [*, errW_none, errW_some] <;> rfl), by repeat (first | (with_reducible first | exact HB.out | apply below_alloc | apply pw_below_drewN | apply below_drew1 | refine below_set ?_ GE105.out) | exact HB.out)⟩
  · replace c4 := Bool.eq_false_iff.mpr c4
    subst c4
    have H1 : (some false) = some r := by rw [if_neg (show ¬ (false = true) by decide)] at H; exact H
    clear H
    have H := H1
    clear H1
    obtain rfl := Option.some.inj H
    go_enter Tryd.func36, Tryd.ntmps36
    go_wp2_with (first | ((with_reducible refine gate_dst (N := 2) rfl ?_); refine box_event ?hg (N := 2) ?hd (cs := #[.int .i64 a0_0, .slice A0_1 l0_1.length c0_1]) (t := 38) ?hr ?_; (case hd => rfl); (case hg => rfl); (case hr => first | (go_simp; done) | (go_simp; rfl)); intro gb105 hg w24 hbox hb; have n0_ := Aside0.mk (below_step (by repeat (first | (with_reducible first | exact HB.out | apply below_alloc | apply pw_below_drewN | apply below_drew1) | exact HB.out)) hb); have n1_ := Aside0.mk (hbox); have n2_ := Aside0.mk ((by rw [hg]; exact (below_size (by repeat (first | (with_reducible first | exact HB.out | apply below_alloc | apply pw_below_drewN | apply below_drew1) | exact HB.out))) : w.heap.size ≤ gb105)); have n3_ := Aside0.mk ((by rw [hg]; exact (below_size (by repeat (first | (with_reducible first | exact HB.out | apply below_alloc | apply pw_below_drewN | apply below_drew1) | exact HB.out))) : w.heap.size ≤ gb105)); clear HB; have HB := n0_; have BK105 := n1_; have GW105 := n2_; have GE105 := n3_; clear n0_ n1_ n2_ n3_; clear hb hbox hg; have hcz25_0 : w24.cell? ⟨gb105, 0, none⟩ = some (.int .i64 a0_0) := (blk_cell BK105.out 0).trans rfl; have hcz25_1 : w24.cell? ⟨gb105, 1, none⟩ = some (.slice A0_1 l0_1.length c0_1) := (blk_cell BK105.out 1).trans rfl; have hfz25_0 := blk_frozen BK105.out 0; have hfz25_1 := blk_frozen BK105.out 1) | ((with_reducible refine gate_callee (f := 70) rfl ?_); refine goesL_ (some 6) rfl rfl Tryd.func70 (by kernel_rfl) rfl #[.agg #[.int .i64 a0_0, .slice A0_1 l0_1.length c0_1]] rfl (by (try simp only [List.map_toArray, List.map_cons, List.map_nil]); first | done | rfl | (simp only [List.length_drop, List.length_take]; rfl)) ?_; (with_reducible refine (bitmap_Formed.calls a0_0 _ _ l0_1 false _ ?side1 ?side2 A3.out).mono ?_); (case side1 => repeat (first | exact (Kd.C_below HR0_1.out HB.out) | (with_reducible refine Kd.C_alloc ?_ _) | (with_reducible refine Kd.C_drewN ?_ _) | (with_reducible refine Kd.C_drew ?_))); (case side2 => exact HC0_1.out); rintro e w26 ⟨rfl, hb⟩; refine ⟨_, rfl, ?_⟩; have n0_ := Aside0.mk (blk_below (g := gb105) (o := .cells #[.int .i64 a0_0, .slice A0_1 l0_1.length c0_1] 38 (0, 0)) (by (with_reducible repeat (first | refine blk_drewN ?_ _ | refine blk_drew ?_ | refine blk_alloc ?_ _)); exact BK105.out) hb); have n1_ := Aside0.mk (below_step (by repeat (first | (with_reducible first | exact HB.out | apply below_alloc | apply pw_below_drewN | apply below_drew1 | refine below_set ?_ GE105.out) | exact HB.out)) hb); clear BK105; clear HB; have BK105 := n0_; have HB := n1_; clear n0_ n1_; (try clear hb); (try clear hb2); (try clear hk); (try clear hi)))
    go_ret
    exact ⟨by first | rfl | (simp [errW_none, errW_some] <;> rfl) | (simp [*, errW_none, errW_some] <;> rfl), by repeat (first | (with_reducible first | exact HB.out | apply below_alloc | apply pw_below_drewN | apply below_drew1 | refine below_set ?_ GE105.out) | exact HB.out)⟩

/-! ### quarryref00_SameInts: function 15 -/
def quarryref00_SameInts.l0 : Nat → List Int → List Int → Int → Option (Bool)
  | 0, _, _, _ => none
  | k + 1, x0, x1, x5 => if x5 < (x0.length : Int) then (if 0 ≤ x5 then (if x5 < (x1.length : Int) then (if (rd x0 x5) = (rd x1 x5) then (quarryref00_SameInts.l0 k x0 x1 (wrap64 (x5 + 1))) else (some false)) else (none)) else (none)) else (some true)
def quarryref00_SameInts.f (k : Nat) (l0 : List Int) (l1 : List Int) : Option (Bool) := if (l0.length : Int) = (l1.length : Int) then (quarryref00_SameInts.l0 k l0 l1 0) else (some false)
theorem quarryref00_SameInts.mono_l : ∀ k, (∀ y0 y1 y2, LeO (quarryref00_SameInts.l0 k y0 y1 y2) (quarryref00_SameInts.l0 (k + 1) y0 y1 y2))
  | 0 => fun _ _ _ r h => by simp [quarryref00_SameInts.l0] at h
  | k + 1 => by
    have ih0 := quarryref00_SameInts.mono_l k
    · intro y0 y1 y2
      unfold quarryref00_SameInts.l0
      repeat' first
      | (with_reducible exact ih0 _ _ _)
      | (with_reducible exact LeO.refl _)
      | (with_reducible exact LeO.none _)
      | (with_reducible refine LeO.ite ?_ ?_)
      | (with_reducible refine LeO.bind ?_ (fun _ => ?_))
      | exact ih0 _ _ _
      | exact LeO.none _
      | refine LeO.ite ?_ ?_
      | refine LeO.bind ?_ (fun _ => ?_)
theorem quarryref00_SameInts.mono : ∀ a0 a1 k, LeO (quarryref00_SameInts.f k a0 a1) (quarryref00_SameInts.f (k + 1) a0 a1) := by
  intro a0 a1 k
  have ih0 := quarryref00_SameInts.mono_l k
  unfold quarryref00_SameInts.f
  repeat' first
      | (with_reducible exact ih0 _ _ _)
      | (with_reducible exact LeO.refl _)
      | (with_reducible exact LeO.none _)
      | (with_reducible refine LeO.ite ?_ ?_)
      | (with_reducible refine LeO.bind ?_ (fun _ => ?_))
      | exact ih0 _ _ _
      | exact LeO.none _
      | refine LeO.ite ?_ ?_
      | refine LeO.bind ?_ (fun _ => ?_)
set_option maxHeartbeats 8000000 in
set_option maxRecDepth 100000 in
theorem quarryref00_SameInts.calls (k : Nat) (A0 : Option Addr) (c0 : Nat) (l0 : List Int) (A1 : Option Addr) (c1 : Nat) (l1 : List Int) (r : Bool) (w : World) (hr0 : Kd.C (Kd.int .i64) w A0 l0.length l0) (hc0 : l0.length ≤ c0) (hr1 : Kd.C (Kd.int .i64) w A1 l1.length l1) (hc1 : l1.length ≤ c1) (h : quarryref00_SameInts.f k l0 l1 = some r) :
    Calls Tryd.prog 15 #[.slice A0 l0.length c0, .slice A1 l1.length c1] w fun e w' => e = .returned (.bool r) ∧ Drawn0 w w' := by
  have HR0 := Aside0.mk hr0
  have HC0 := Aside0.mk hc0
  clear hr0 hc0
  have HR1 := Aside0.mk hr1
  have HC1 := Aside0.mk hc1
  clear hr1 hc1
  have H : (if (l0.length : Int) = (l1.length : Int) then (quarryref00_SameInts.l0 k l0 l1 0) else (some false)) = some r := h
  clear h
  by_cases c3 : (l0.length : Int) = (l1.length : Int)
  · rw [if_pos c3] at H
    have c3b0 : ((l0.length : Int) == (l1.length : Int)) = true := beq_iff_eq.mpr c3
    have c3b1 : ((l0.length : Int) != (l1.length : Int)) = false := bne_eq_false_iff_eq.mpr c3
    have c3b2 : (l0.length == l1.length) = true := by first | simpa using c3 | (simp at c3 ⊢; omega)
    clear c3
    have H' := Aside0.mk H
    clear H
    go_enter Tryd.func15, Tryd.ntmps15
    go_wp2
    repeat (go_quiet (fail); try go_wp2)
    go_loopg [5] k (fun kq v5 w' => ∃ (x5_1 : Int), v5 = .int .i64 x5_1 ∧ Aside0 (quarryref00_SameInts.l0 kq l0 l1 x5_1 = some r) ∧ Aside0 (kq ≤ k) ∧ Drawn0 w w')
    case atStart => exact ⟨(0), (by first | rfl | (simp; done) | (simp [*]; done)), H', ⟨Nat.le_refl _⟩, by repeat (first | exact Drawn0.refl _ | apply Drawn0.step)⟩
    case round =>
      clear H'
      try clear c1
      try clear p2
      try clear c3
      try clear c3b0
      try clear c3b1
      try clear c3b2
      obtain ⟨x5_1, rfl, HA, HK1, ⟨m1, rfl⟩⟩ := hrel
      cases gk with
      | zero => exact absurd HA.out (by simp [quarryref00_SameInts.l0])
      | succ k1 =>
        have H := HA.out
        clear HA
        simp only [quarryref00_SameInts.l0] at H
        by_cases c4 : x5_1 < (l0.length : Int)
        · rw [if_pos c4] at H
          have c4b0 : decide (x5_1 < (l0.length : Int)) = true := decide_eq_true c4
          clear c4
          by_cases c5 : 0 ≤ x5_1
          · rw [if_pos c5] at H
            have c5b0 : decide (0 ≤ x5_1) = true := decide_eq_true c5
            clear c5
            by_cases c6 : x5_1 < (l1.length : Int)
            · rw [if_pos c6] at H
              have c6b0 : decide (x5_1 < (l1.length : Int)) = true := decide_eq_true c6
              clear c6
              by_cases c7 : (rd l0 x5_1) = (rd l1 x5_1)
              · rw [if_pos c7] at H
                have c7b0 : ((rd l0 x5_1) == (rd l1 x5_1)) = true := beq_iff_eq.mpr c7
                have c7b1 : ((rd l0 x5_1) != (rd l1 x5_1)) = false := bne_eq_false_iff_eq.mpr c7
                clear c7
                have H' := Aside0.mk H
                clear H
                have p108 : 0 ≤ (x5_1 : Int) := of_decide_eq_true (by first | (with_reducible assumption) | assumption)
                have q108 : x5_1 < (l0.length : Int) := of_decide_eq_true (by first | (with_reducible assumption) | assumption)
                obtain ⟨ad108, e108, hx108_0⟩ := Kd.at_int HR0.out x5_1 p108 q108
                cases e108
                replace p108 := eq_true p108
                replace q108 := eq_true q108
                have p109 : 0 ≤ (x5_1 : Int) := of_decide_eq_true (by first | (with_reducible assumption) | assumption)
                have q109 : x5_1 < (l1.length : Int) := of_decide_eq_true (by first | (with_reducible assumption) | assumption)
                obtain ⟨ad109, e109, hx109_0⟩ := Kd.at_int HR1.out x5_1 p109 q109
                cases e109
                replace p109 := eq_true p109
                replace q109 := eq_true q109
                go_wp2
                repeat (go_quiet (fail); try go_wp2)
                go_roundg k1
                case measure => have := HK1.out; omega
                case rel => exact ⟨(wrap64 (x5_1 + 1)), (by first | rfl | (simp; done) | (simp [*]; done)), H', ⟨by have := HK1.out; omega⟩, by repeat (first | exact Drawn0.refl _ | apply Drawn0.step)⟩
              · rw [if_neg c7] at H
                have c7b0 : ((rd l0 x5_1) == (rd l1 x5_1)) = false := beq_eq_false_iff_ne.mpr c7
                have c7b1 : ((rd l0 x5_1) != (rd l1 x5_1)) = true := bne_iff_ne.mpr c7
                obtain rfl := Option.some.inj H
                have p108 : 0 ≤ (x5_1 : Int) := of_decide_eq_true (by first | (with_reducible assumption) | assumption)
                have q108 : x5_1 < (l0.length : Int) := of_decide_eq_true (by first | (with_reducible assumption) | assumption)
                obtain ⟨ad108, e108, hx108_0⟩ := Kd.at_int HR0.out x5_1 p108 q108
                cases e108
                replace p108 := eq_true p108
                replace q108 := eq_true q108
                have p109 : 0 ≤ (x5_1 : Int) := of_decide_eq_true (by first | (with_reducible assumption) | assumption)
                have q109 : x5_1 < (l1.length : Int) := of_decide_eq_true (by first | (with_reducible assumption) | assumption)
                obtain ⟨ad109, e109, hx109_0⟩ := Kd.at_int HR1.out x5_1 p109 q109
                cases e109
                replace p109 := eq_true p109
                replace q109 := eq_true q109
                go_wp2
                repeat (go_quiet (fail); try go_wp2)
                go_ret
                exact ⟨by first | rfl | (simp; done) | (simp [*]; done), by repeat (first | exact Drawn0.refl _ | apply Drawn0.step)⟩
            · rw [if_neg c6] at H
              exact absurd H (by simp)
          · rw [if_neg c5] at H
            exact absurd H (by simp)
        · rw [if_neg c4] at H
          have c4b0 : decide (x5_1 < (l0.length : Int)) = false := decide_eq_false c4
          clear c4
          obtain rfl := Option.some.inj H
          go_wp2
          repeat (go_quiet (fail); try go_wp2)
          go_ret
          exact ⟨by first | rfl | (simp; done) | (simp [*]; done), by repeat (first | exact Drawn0.refl _ | apply Drawn0.step)⟩
  · rw [if_neg c3] at H
    have c3b0 : ((l0.length : Int) == (l1.length : Int)) = false := beq_eq_false_iff_ne.mpr c3
    have c3b1 : ((l0.length : Int) != (l1.length : Int)) = true := bne_iff_ne.mpr c3
    have c3b2 : (l0.length == l1.length) = false := by first | simpa using c3 | (simp at c3 ⊢; omega)
    obtain rfl := Option.some.inj H
    go_enter Tryd.func15, Tryd.ntmps15
    go_wp2
    repeat (go_quiet (fail); try go_wp2)
    go_ret
    exact ⟨by first | rfl | (simp; done) | (simp [*]; done), by repeat (first | exact Drawn0.refl _ | apply Drawn0.step)⟩

/-! ### block_Mask: function 65 -/
open Go.Proofs.YtadcgjmhhodnoaaDoorQ Go.Proofs.YtadcgjmhhodnoaaDoorM in
set_option maxHeartbeats 400000 in
set_option maxRecDepth 100000 in
theorem block_Mask.calls (f : Nat → Int) (hf : ∀ i, 0 ≤ f i ∧ f i < 256) (p : Nat → Bool) (w : World) :
    Calls Tryd.prog 65 #[.agg (blkA f), .agg (clsA p)] w fun e w' => e = .returned (.int .u64 (iv (word fun j => p (f j).toNat))) ∧ Below w.heap.size w w' := by
  have HB := BelowH.refl w
  have HF := Aside0.mk fun i => hf i
  clear hf
  go_enter Tryd.func65, Tryd.ntmps65
  go_upto_region 1 with (first
    | ((with_reducible refine gate_dst (N := 2) rfl ?_); refine ev_alloc HB rfl (blkA f) 79 ?hr ?_; (case hr => first | (go_simp; done) | (go_simp; rfl)); intro g0 w1 G_g0 GE_g0 B_g0 HBn K_g0; clear HB; have HB := HBn; clear HBn)
    | ((with_reducible refine gate_dst (N := 3) rfl ?_); refine ev_alloc HB rfl (clsA (p)) 90 ?hr ?_; (case hr => first | (go_simp; done) | (go_simp; rfl)); intro g1 w2 G_g1 GE_g1 B_g1 HBn K_g1; clear HB; have HB := HBn; clear HBn))
  obtain ⟨bz, hbz⟩ : ∃ bz, bz = ((List.range 4).all fun j => iv (clsW p j) == 0) := ⟨_, rfl⟩
  have EQ : ∀ (W : World), (Op.equalIn 10000 88 (.agg (clsA p)) (.agg #[.int .u64 0, .int .u64 0, .int .u64 0, .int .u64 0])).run Tryd.prog W = .ok bz W := by
    intro W
    rw [hbz]
    exact run_eqArr (P := Tryd.prog) Tryd.underlying88 (by kernel_rfl) (by kernel_rfl) Tryd.underlying64 (fun j => iv (clsW p j)) (fun _ => 0) (fun j hj => clsA_get _ hj) (fun j hj => by
      have : ∀ j : Fin 4, (#[.int .u64 0, .int .u64 0, .int .u64 0, .int .u64 0] : Array Value)[j.val]? = some (.int .u64 0) := by
        intro j
        match j with
        | 0 => rfl
        | 1 => rfl
        | 2 => rfl
        | 3 => rfl
      exact this ⟨j, hj⟩) 9998 W
  cases bz with
  | true =>
    have HN := Aside0.mk (cls_none hbz.symm)
    clear hbz
    go_wp2_with (first
      | ((with_reducible refine gate_dst (N := 9) rfl ?_); refine ev_loadS B_g1 rfl 88 _ rfl rfl Tryd.underlying88 rfl (size4' _) ?_))
    go_ret
    exact ⟨by rw [word_none fun i _ => HN.out _ (by have := HF.out i; omega)]; rfl, HB.out⟩
  | false =>
    clear hbz
    go_upto_region 3 with (first
      | ((with_reducible refine gate_dst (N := 9) rfl ?_); refine ev_loadS B_g1 rfl 88 _ rfl rfl Tryd.underlying88 rfl (size4' _) ?_))
    clear EQ
    go_wp2_with (first
      | ((with_reducible refine gate_dst (N := 12) rfl ?_); refine ev_loadS (B_g0.below K_g1.out) rfl 79 _ rfl rfl Tryd.underlying79 rfl (size64' _) ?_))
    go_loopw [5, 13] (fun v5 v13 wr => ∃ i : Nat, i ≤ 64 ∧ v13 = .int .i64 i ∧ v5 = .int .u64 (iv (word fun j => decide (j < i) && p (f j).toNat)) ∧ Blk wr g1 (clsA p) 90 ∧ BelowH w wr) (fun _ v13 _ => 64 - (intOf v13).toNat)
    case atStart => exact ⟨0, by omega, rfl, by rw [word_none]; simp, B_g1, HB⟩
    case round =>
      clear B_g0 B_g1 HB
      obtain ⟨i, hi, rfl, rfl, B1, HB⟩ := hrel
      by_cases hlt : i < 64
      · obtain ⟨x, hx⟩ : ∃ x : Nat, f i = (x : Int) := ⟨(f i).toNat, by have := HF.out i; omega⟩
        have hx6 : x < 256 := by have := HF.out i; omega
        obtain ⟨k, hk⟩ : ∃ k : Nat, k = x / 64 := ⟨_, rfl⟩
        obtain ⟨m, hm⟩ : ∃ m : Nat, m = x % 64 := ⟨_, rfl⟩
        have hk1 : (x : Int) / 64 = (k : Int) := by omega
        have hk4 : (k : Int) < 4 := by omega
        have hm1 : bits .and .u8 (x : Int) 63 = (m : Int) := by rw [bits_and_u8_63 _ hx6, hm]
        have hm4 : (m : Int) < 64 := by omega
        have hc := B1.cell (clsA_get p (show k < 4 by omega))
        have hfi := blkA_get f hlt
        rw [hx] at hfi
        have IX : ∀ W : World, (Instr.index 79 (.agg (blkA f)) (.int .i64 (i : Int))).run Tryd.prog W = .ok (.int .u8 (x : Int)) W := fun W => run_index_arr (P := Tryd.prog) Tryd.underlying79 (by kernel_rfl) (by kernel_rfl) (by kernel_rfl) hlt hfi .i64 W
        have ST := Aside0.mk (mask_step_at p f hx hk hm hlt)
        have KI := Aside0.mk hlt
        have h1 : (i : Int) < 64 := by omega
        clear hx hx6 hk hm hlt hfi hi
        go_wp2
        go_roundw
        case rel => exact ⟨i + 1, by have := KI.out; omega, by go_num, by rw [ST.out], B1, HB⟩
        case measure =>
          simp [intOf]
          have := KI.out
          omega
      · obtain rfl : i = 64 := by omega
        go_wp2
        go_ret
        exact ⟨by rw [word_done]; rfl, HB.out⟩


/-! ### marks_kindOf: function 94 -/
section
open Go.Proofs.YtadcgjmhhodnoaaDoorQ Go.Proofs.YtadcgjmhhodnoaaDoorM
set_option maxHeartbeats 2000000 in
set_option maxRecDepth 100000 in
theorem marks_kindOf.tells (x : Nat) (hx : x < 256) (w : World) :
    Calls Tryd.prog 94 #[.int .u8 (x : Int)] w fun e w' => e = .returned (.int .i64 (kindN x)) ∧ Below w.heap.size w w' := by
  have HB := BelowH.refl w
  have H256 := Aside0.mk hx
  clear hx
  go_enter Tryd.func94, Tryd.ntmps94
  go_upto_region 2 with (first
    | ((with_reducible refine gate_dst (N := 3) rfl ?_); refine ev_alloc HB rfl (#[.int .u8 0, .int .i64 0, .int .u8 0, .int .i64 0, .int .u8 0, .int .i64 0, .int .u8 0, .int .i64 0, .int .u8 0, .int .i64 0, .int .u8 0, .int .i64 0, .int .u8 0, .int .i64 0, .int .u8 0, .int .i64 0, .int .u8 0, .int .i64 0, .int .u8 0, .int .i64 0]) 127 ?hr ?_; (case hr => first | (go_simp; done) | (go_simp; rfl)); intro g3 w1 G_g3 GE_g3 B_g3 HBn K_g3; clear HB; have HB := HBn; clear HBn)
    | ((with_reducible refine gate_ (Op.store 127 (.tmp 3) (.tmp 16)) rfl ?_); refine ev_store HB B_g3 GE_g3 rfl 127 _ _ rfl rfl rfl (by kernel_rfl) rfl (by simp [Value.oneCell']) ?_; intro w2 B3 HBn K_w2; clear HB; have HB := HBn; clear HBn))
  go_wp2_with (first
    | ((with_reducible refine gate_dst (N := 17) rfl ?_); refine ev_loadS B3 rfl 127 _ rfl rfl Tryd.underlying127 rfl (by kernel_rfl) ?_))
  clear B3 B_g3 K_w2 K_g3 G_g3 GE_g3
  go_loopw [18] (fun v18 wr => ∃ i : Nat, v18 = .int .i64 (i : Int) ∧ Aside0 (i ≤ 10) ∧ Aside0 (∀ j, j < i → kindsX.getD j 0 ≠ x) ∧ BelowH w wr) (fun v18 _ => 10 - (intOf v18).toNat)
  case atStart => exact ⟨0, rfl, ⟨by decide⟩, ⟨fun j hj => absurd hj (Nat.not_lt_zero j)⟩, HB⟩
  case round =>
    clear HB
    obtain ⟨i, rfl, HI, HJ, HB⟩ := hrel
    have hi := HI.out
    rcases (by omega : i = 0 ∨ i = 1 ∨ i = 2 ∨ i = 3 ∨ i = 4 ∨ i = 5 ∨ i = 6 ∨ i = 7 ∨ i = 8 ∨ i = 9 ∨ i = 10) with rfl | rfl | rfl | rfl | rfl | rfl | rfl | rfl | rfl | rfl | rfl
    · clear hi
      have ix : ∀ w, (Instr.index 127 (.agg #[.int .u8 123, .int .i64 1, .int .u8 125, .int .i64 1, .int .u8 91, .int .i64 1, .int .u8 93, .int .i64 1, .int .u8 58, .int .i64 1, .int .u8 44, .int .i64 1, .int .u8 32, .int .i64 2, .int .u8 9, .int .i64 2, .int .u8 10, .int .i64 2, .int .u8 13, .int .i64 2]) (.int .i64 0)).run Tryd.prog w = .ok (.agg #[.int .u8 123, .int .i64 1]) w := fun _ => by kernel_rfl
      by_cases hx : x = 123
      · have h1 : ((123 : Int) == (x : Int)) = true := by rw [hx]; rfl
        have HX := Aside0.mk hx
        clear hx
        go_wp2_with (first
          | ((with_reducible refine gate_dst (N := 5) rfl ?_); refine ev_alloc HB rfl (#[.int .u8 0, .int .i64 0]) 126 ?hr ?_; (case hr => first | (go_simp; done) | (go_simp; rfl)); intro g5 w3 G_g5 GE_g5 B_g5 HBn K_g5; clear HB; have HB := HBn; clear HBn)
          | ((with_reducible refine gate_ (Op.store 126 (.tmp 5) (.tmp 20)) rfl ?_); refine ev_store HB B_g5 GE_g5 rfl 126 _ _ rfl rfl rfl (by kernel_rfl) rfl (by simp [Value.oneCell']) ?_; intro w4 B5 HBn K_w4; have c50 := B5.cell (i := 0) rfl; have c51 := B5.cell (i := 1) rfl; clear HB; have HB := HBn; clear HBn))
        go_ret
        exact ⟨by rw [HX.out]; rfl, HB.out⟩
      · have h1 : ((123 : Int) == (x : Int)) = false := beq_eq_false_iff_ne.mpr (by omega)
        have HX := Aside0.mk hx
        clear hx
        go_wp2_with (first
          | ((with_reducible refine gate_dst (N := 5) rfl ?_); refine ev_alloc HB rfl (#[.int .u8 0, .int .i64 0]) 126 ?hr ?_; (case hr => first | (go_simp; done) | (go_simp; rfl)); intro g5 w3 G_g5 GE_g5 B_g5 HBn K_g5; clear HB; have HB := HBn; clear HBn)
          | ((with_reducible refine gate_ (Op.store 126 (.tmp 5) (.tmp 20)) rfl ?_); refine ev_store HB B_g5 GE_g5 rfl 126 _ _ rfl rfl rfl (by kernel_rfl) rfl (by simp [Value.oneCell']) ?_; intro w4 B5 HBn K_w4; have c50 := B5.cell (i := 0) rfl; have c51 := B5.cell (i := 1) rfl; clear HB; have HB := HBn; clear HBn))
        go_roundw
        case rel => exact ⟨1, rfl, ⟨by decide⟩, ⟨kinds_next HJ.out (show kindsX.getD 0 0 ≠ x from fun e => HX.out e.symm)⟩, HB⟩
        case measure => decide
    · clear hi
      have ix : ∀ w, (Instr.index 127 (.agg #[.int .u8 123, .int .i64 1, .int .u8 125, .int .i64 1, .int .u8 91, .int .i64 1, .int .u8 93, .int .i64 1, .int .u8 58, .int .i64 1, .int .u8 44, .int .i64 1, .int .u8 32, .int .i64 2, .int .u8 9, .int .i64 2, .int .u8 10, .int .i64 2, .int .u8 13, .int .i64 2]) (.int .i64 1)).run Tryd.prog w = .ok (.agg #[.int .u8 125, .int .i64 1]) w := fun _ => by kernel_rfl
      by_cases hx : x = 125
      · have h1 : ((125 : Int) == (x : Int)) = true := by rw [hx]; rfl
        have HX := Aside0.mk hx
        clear hx
        go_wp2_with (first
          | ((with_reducible refine gate_dst (N := 5) rfl ?_); refine ev_alloc HB rfl (#[.int .u8 0, .int .i64 0]) 126 ?hr ?_; (case hr => first | (go_simp; done) | (go_simp; rfl)); intro g5 w3 G_g5 GE_g5 B_g5 HBn K_g5; clear HB; have HB := HBn; clear HBn)
          | ((with_reducible refine gate_ (Op.store 126 (.tmp 5) (.tmp 20)) rfl ?_); refine ev_store HB B_g5 GE_g5 rfl 126 _ _ rfl rfl rfl (by kernel_rfl) rfl (by simp [Value.oneCell']) ?_; intro w4 B5 HBn K_w4; have c50 := B5.cell (i := 0) rfl; have c51 := B5.cell (i := 1) rfl; clear HB; have HB := HBn; clear HBn))
        go_ret
        exact ⟨by rw [HX.out]; rfl, HB.out⟩
      · have h1 : ((125 : Int) == (x : Int)) = false := beq_eq_false_iff_ne.mpr (by omega)
        have HX := Aside0.mk hx
        clear hx
        go_wp2_with (first
          | ((with_reducible refine gate_dst (N := 5) rfl ?_); refine ev_alloc HB rfl (#[.int .u8 0, .int .i64 0]) 126 ?hr ?_; (case hr => first | (go_simp; done) | (go_simp; rfl)); intro g5 w3 G_g5 GE_g5 B_g5 HBn K_g5; clear HB; have HB := HBn; clear HBn)
          | ((with_reducible refine gate_ (Op.store 126 (.tmp 5) (.tmp 20)) rfl ?_); refine ev_store HB B_g5 GE_g5 rfl 126 _ _ rfl rfl rfl (by kernel_rfl) rfl (by simp [Value.oneCell']) ?_; intro w4 B5 HBn K_w4; have c50 := B5.cell (i := 0) rfl; have c51 := B5.cell (i := 1) rfl; clear HB; have HB := HBn; clear HBn))
        go_roundw
        case rel => exact ⟨2, rfl, ⟨by decide⟩, ⟨kinds_next HJ.out (show kindsX.getD 1 0 ≠ x from fun e => HX.out e.symm)⟩, HB⟩
        case measure => decide
    · clear hi
      have ix : ∀ w, (Instr.index 127 (.agg #[.int .u8 123, .int .i64 1, .int .u8 125, .int .i64 1, .int .u8 91, .int .i64 1, .int .u8 93, .int .i64 1, .int .u8 58, .int .i64 1, .int .u8 44, .int .i64 1, .int .u8 32, .int .i64 2, .int .u8 9, .int .i64 2, .int .u8 10, .int .i64 2, .int .u8 13, .int .i64 2]) (.int .i64 2)).run Tryd.prog w = .ok (.agg #[.int .u8 91, .int .i64 1]) w := fun _ => by kernel_rfl
      by_cases hx : x = 91
      · have h1 : ((91 : Int) == (x : Int)) = true := by rw [hx]; rfl
        have HX := Aside0.mk hx
        clear hx
        go_wp2_with (first
          | ((with_reducible refine gate_dst (N := 5) rfl ?_); refine ev_alloc HB rfl (#[.int .u8 0, .int .i64 0]) 126 ?hr ?_; (case hr => first | (go_simp; done) | (go_simp; rfl)); intro g5 w3 G_g5 GE_g5 B_g5 HBn K_g5; clear HB; have HB := HBn; clear HBn)
          | ((with_reducible refine gate_ (Op.store 126 (.tmp 5) (.tmp 20)) rfl ?_); refine ev_store HB B_g5 GE_g5 rfl 126 _ _ rfl rfl rfl (by kernel_rfl) rfl (by simp [Value.oneCell']) ?_; intro w4 B5 HBn K_w4; have c50 := B5.cell (i := 0) rfl; have c51 := B5.cell (i := 1) rfl; clear HB; have HB := HBn; clear HBn))
        go_ret
        exact ⟨by rw [HX.out]; rfl, HB.out⟩
      · have h1 : ((91 : Int) == (x : Int)) = false := beq_eq_false_iff_ne.mpr (by omega)
        have HX := Aside0.mk hx
        clear hx
        go_wp2_with (first
          | ((with_reducible refine gate_dst (N := 5) rfl ?_); refine ev_alloc HB rfl (#[.int .u8 0, .int .i64 0]) 126 ?hr ?_; (case hr => first | (go_simp; done) | (go_simp; rfl)); intro g5 w3 G_g5 GE_g5 B_g5 HBn K_g5; clear HB; have HB := HBn; clear HBn)
          | ((with_reducible refine gate_ (Op.store 126 (.tmp 5) (.tmp 20)) rfl ?_); refine ev_store HB B_g5 GE_g5 rfl 126 _ _ rfl rfl rfl (by kernel_rfl) rfl (by simp [Value.oneCell']) ?_; intro w4 B5 HBn K_w4; have c50 := B5.cell (i := 0) rfl; have c51 := B5.cell (i := 1) rfl; clear HB; have HB := HBn; clear HBn))
        go_roundw
        case rel => exact ⟨3, rfl, ⟨by decide⟩, ⟨kinds_next HJ.out (show kindsX.getD 2 0 ≠ x from fun e => HX.out e.symm)⟩, HB⟩
        case measure => decide
    · clear hi
      have ix : ∀ w, (Instr.index 127 (.agg #[.int .u8 123, .int .i64 1, .int .u8 125, .int .i64 1, .int .u8 91, .int .i64 1, .int .u8 93, .int .i64 1, .int .u8 58, .int .i64 1, .int .u8 44, .int .i64 1, .int .u8 32, .int .i64 2, .int .u8 9, .int .i64 2, .int .u8 10, .int .i64 2, .int .u8 13, .int .i64 2]) (.int .i64 3)).run Tryd.prog w = .ok (.agg #[.int .u8 93, .int .i64 1]) w := fun _ => by kernel_rfl
      by_cases hx : x = 93
      · have h1 : ((93 : Int) == (x : Int)) = true := by rw [hx]; rfl
        have HX := Aside0.mk hx
        clear hx
        go_wp2_with (first
          | ((with_reducible refine gate_dst (N := 5) rfl ?_); refine ev_alloc HB rfl (#[.int .u8 0, .int .i64 0]) 126 ?hr ?_; (case hr => first | (go_simp; done) | (go_simp; rfl)); intro g5 w3 G_g5 GE_g5 B_g5 HBn K_g5; clear HB; have HB := HBn; clear HBn)
          | ((with_reducible refine gate_ (Op.store 126 (.tmp 5) (.tmp 20)) rfl ?_); refine ev_store HB B_g5 GE_g5 rfl 126 _ _ rfl rfl rfl (by kernel_rfl) rfl (by simp [Value.oneCell']) ?_; intro w4 B5 HBn K_w4; have c50 := B5.cell (i := 0) rfl; have c51 := B5.cell (i := 1) rfl; clear HB; have HB := HBn; clear HBn))
        go_ret
        exact ⟨by rw [HX.out]; rfl, HB.out⟩
      · have h1 : ((93 : Int) == (x : Int)) = false := beq_eq_false_iff_ne.mpr (by omega)
        have HX := Aside0.mk hx
        clear hx
        go_wp2_with (first
          | ((with_reducible refine gate_dst (N := 5) rfl ?_); refine ev_alloc HB rfl (#[.int .u8 0, .int .i64 0]) 126 ?hr ?_; (case hr => first | (go_simp; done) | (go_simp; rfl)); intro g5 w3 G_g5 GE_g5 B_g5 HBn K_g5; clear HB; have HB := HBn; clear HBn)
          | ((with_reducible refine gate_ (Op.store 126 (.tmp 5) (.tmp 20)) rfl ?_); refine ev_store HB B_g5 GE_g5 rfl 126 _ _ rfl rfl rfl (by kernel_rfl) rfl (by simp [Value.oneCell']) ?_; intro w4 B5 HBn K_w4; have c50 := B5.cell (i := 0) rfl; have c51 := B5.cell (i := 1) rfl; clear HB; have HB := HBn; clear HBn))
        go_roundw
        case rel => exact ⟨4, rfl, ⟨by decide⟩, ⟨kinds_next HJ.out (show kindsX.getD 3 0 ≠ x from fun e => HX.out e.symm)⟩, HB⟩
        case measure => decide
    · clear hi
      have ix : ∀ w, (Instr.index 127 (.agg #[.int .u8 123, .int .i64 1, .int .u8 125, .int .i64 1, .int .u8 91, .int .i64 1, .int .u8 93, .int .i64 1, .int .u8 58, .int .i64 1, .int .u8 44, .int .i64 1, .int .u8 32, .int .i64 2, .int .u8 9, .int .i64 2, .int .u8 10, .int .i64 2, .int .u8 13, .int .i64 2]) (.int .i64 4)).run Tryd.prog w = .ok (.agg #[.int .u8 58, .int .i64 1]) w := fun _ => by kernel_rfl
      by_cases hx : x = 58
      · have h1 : ((58 : Int) == (x : Int)) = true := by rw [hx]; rfl
        have HX := Aside0.mk hx
        clear hx
        go_wp2_with (first
          | ((with_reducible refine gate_dst (N := 5) rfl ?_); refine ev_alloc HB rfl (#[.int .u8 0, .int .i64 0]) 126 ?hr ?_; (case hr => first | (go_simp; done) | (go_simp; rfl)); intro g5 w3 G_g5 GE_g5 B_g5 HBn K_g5; clear HB; have HB := HBn; clear HBn)
          | ((with_reducible refine gate_ (Op.store 126 (.tmp 5) (.tmp 20)) rfl ?_); refine ev_store HB B_g5 GE_g5 rfl 126 _ _ rfl rfl rfl (by kernel_rfl) rfl (by simp [Value.oneCell']) ?_; intro w4 B5 HBn K_w4; have c50 := B5.cell (i := 0) rfl; have c51 := B5.cell (i := 1) rfl; clear HB; have HB := HBn; clear HBn))
        go_ret
        exact ⟨by rw [HX.out]; rfl, HB.out⟩
      · have h1 : ((58 : Int) == (x : Int)) = false := beq_eq_false_iff_ne.mpr (by omega)
        have HX := Aside0.mk hx
        clear hx
        go_wp2_with (first
          | ((with_reducible refine gate_dst (N := 5) rfl ?_); refine ev_alloc HB rfl (#[.int .u8 0, .int .i64 0]) 126 ?hr ?_; (case hr => first | (go_simp; done) | (go_simp; rfl)); intro g5 w3 G_g5 GE_g5 B_g5 HBn K_g5; clear HB; have HB := HBn; clear HBn)
          | ((with_reducible refine gate_ (Op.store 126 (.tmp 5) (.tmp 20)) rfl ?_); refine ev_store HB B_g5 GE_g5 rfl 126 _ _ rfl rfl rfl (by kernel_rfl) rfl (by simp [Value.oneCell']) ?_; intro w4 B5 HBn K_w4; have c50 := B5.cell (i := 0) rfl; have c51 := B5.cell (i := 1) rfl; clear HB; have HB := HBn; clear HBn))
        go_roundw
        case rel => exact ⟨5, rfl, ⟨by decide⟩, ⟨kinds_next HJ.out (show kindsX.getD 4 0 ≠ x from fun e => HX.out e.symm)⟩, HB⟩
        case measure => decide
    · clear hi
      have ix : ∀ w, (Instr.index 127 (.agg #[.int .u8 123, .int .i64 1, .int .u8 125, .int .i64 1, .int .u8 91, .int .i64 1, .int .u8 93, .int .i64 1, .int .u8 58, .int .i64 1, .int .u8 44, .int .i64 1, .int .u8 32, .int .i64 2, .int .u8 9, .int .i64 2, .int .u8 10, .int .i64 2, .int .u8 13, .int .i64 2]) (.int .i64 5)).run Tryd.prog w = .ok (.agg #[.int .u8 44, .int .i64 1]) w := fun _ => by kernel_rfl
      by_cases hx : x = 44
      · have h1 : ((44 : Int) == (x : Int)) = true := by rw [hx]; rfl
        have HX := Aside0.mk hx
        clear hx
        go_wp2_with (first
          | ((with_reducible refine gate_dst (N := 5) rfl ?_); refine ev_alloc HB rfl (#[.int .u8 0, .int .i64 0]) 126 ?hr ?_; (case hr => first | (go_simp; done) | (go_simp; rfl)); intro g5 w3 G_g5 GE_g5 B_g5 HBn K_g5; clear HB; have HB := HBn; clear HBn)
          | ((with_reducible refine gate_ (Op.store 126 (.tmp 5) (.tmp 20)) rfl ?_); refine ev_store HB B_g5 GE_g5 rfl 126 _ _ rfl rfl rfl (by kernel_rfl) rfl (by simp [Value.oneCell']) ?_; intro w4 B5 HBn K_w4; have c50 := B5.cell (i := 0) rfl; have c51 := B5.cell (i := 1) rfl; clear HB; have HB := HBn; clear HBn))
        go_ret
        exact ⟨by rw [HX.out]; rfl, HB.out⟩
      · have h1 : ((44 : Int) == (x : Int)) = false := beq_eq_false_iff_ne.mpr (by omega)
        have HX := Aside0.mk hx
        clear hx
        go_wp2_with (first
          | ((with_reducible refine gate_dst (N := 5) rfl ?_); refine ev_alloc HB rfl (#[.int .u8 0, .int .i64 0]) 126 ?hr ?_; (case hr => first | (go_simp; done) | (go_simp; rfl)); intro g5 w3 G_g5 GE_g5 B_g5 HBn K_g5; clear HB; have HB := HBn; clear HBn)
          | ((with_reducible refine gate_ (Op.store 126 (.tmp 5) (.tmp 20)) rfl ?_); refine ev_store HB B_g5 GE_g5 rfl 126 _ _ rfl rfl rfl (by kernel_rfl) rfl (by simp [Value.oneCell']) ?_; intro w4 B5 HBn K_w4; have c50 := B5.cell (i := 0) rfl; have c51 := B5.cell (i := 1) rfl; clear HB; have HB := HBn; clear HBn))
        go_roundw
        case rel => exact ⟨6, rfl, ⟨by decide⟩, ⟨kinds_next HJ.out (show kindsX.getD 5 0 ≠ x from fun e => HX.out e.symm)⟩, HB⟩
        case measure => decide
    · clear hi
      have ix : ∀ w, (Instr.index 127 (.agg #[.int .u8 123, .int .i64 1, .int .u8 125, .int .i64 1, .int .u8 91, .int .i64 1, .int .u8 93, .int .i64 1, .int .u8 58, .int .i64 1, .int .u8 44, .int .i64 1, .int .u8 32, .int .i64 2, .int .u8 9, .int .i64 2, .int .u8 10, .int .i64 2, .int .u8 13, .int .i64 2]) (.int .i64 6)).run Tryd.prog w = .ok (.agg #[.int .u8 32, .int .i64 2]) w := fun _ => by kernel_rfl
      by_cases hx : x = 32
      · have h1 : ((32 : Int) == (x : Int)) = true := by rw [hx]; rfl
        have HX := Aside0.mk hx
        clear hx
        go_wp2_with (first
          | ((with_reducible refine gate_dst (N := 5) rfl ?_); refine ev_alloc HB rfl (#[.int .u8 0, .int .i64 0]) 126 ?hr ?_; (case hr => first | (go_simp; done) | (go_simp; rfl)); intro g5 w3 G_g5 GE_g5 B_g5 HBn K_g5; clear HB; have HB := HBn; clear HBn)
          | ((with_reducible refine gate_ (Op.store 126 (.tmp 5) (.tmp 20)) rfl ?_); refine ev_store HB B_g5 GE_g5 rfl 126 _ _ rfl rfl rfl (by kernel_rfl) rfl (by simp [Value.oneCell']) ?_; intro w4 B5 HBn K_w4; have c50 := B5.cell (i := 0) rfl; have c51 := B5.cell (i := 1) rfl; clear HB; have HB := HBn; clear HBn))
        go_ret
        exact ⟨by rw [HX.out]; rfl, HB.out⟩
      · have h1 : ((32 : Int) == (x : Int)) = false := beq_eq_false_iff_ne.mpr (by omega)
        have HX := Aside0.mk hx
        clear hx
        go_wp2_with (first
          | ((with_reducible refine gate_dst (N := 5) rfl ?_); refine ev_alloc HB rfl (#[.int .u8 0, .int .i64 0]) 126 ?hr ?_; (case hr => first | (go_simp; done) | (go_simp; rfl)); intro g5 w3 G_g5 GE_g5 B_g5 HBn K_g5; clear HB; have HB := HBn; clear HBn)
          | ((with_reducible refine gate_ (Op.store 126 (.tmp 5) (.tmp 20)) rfl ?_); refine ev_store HB B_g5 GE_g5 rfl 126 _ _ rfl rfl rfl (by kernel_rfl) rfl (by simp [Value.oneCell']) ?_; intro w4 B5 HBn K_w4; have c50 := B5.cell (i := 0) rfl; have c51 := B5.cell (i := 1) rfl; clear HB; have HB := HBn; clear HBn))
        go_roundw
        case rel => exact ⟨7, rfl, ⟨by decide⟩, ⟨kinds_next HJ.out (show kindsX.getD 6 0 ≠ x from fun e => HX.out e.symm)⟩, HB⟩
        case measure => decide
    · clear hi
      have ix : ∀ w, (Instr.index 127 (.agg #[.int .u8 123, .int .i64 1, .int .u8 125, .int .i64 1, .int .u8 91, .int .i64 1, .int .u8 93, .int .i64 1, .int .u8 58, .int .i64 1, .int .u8 44, .int .i64 1, .int .u8 32, .int .i64 2, .int .u8 9, .int .i64 2, .int .u8 10, .int .i64 2, .int .u8 13, .int .i64 2]) (.int .i64 7)).run Tryd.prog w = .ok (.agg #[.int .u8 9, .int .i64 2]) w := fun _ => by kernel_rfl
      by_cases hx : x = 9
      · have h1 : ((9 : Int) == (x : Int)) = true := by rw [hx]; rfl
        have HX := Aside0.mk hx
        clear hx
        go_wp2_with (first
          | ((with_reducible refine gate_dst (N := 5) rfl ?_); refine ev_alloc HB rfl (#[.int .u8 0, .int .i64 0]) 126 ?hr ?_; (case hr => first | (go_simp; done) | (go_simp; rfl)); intro g5 w3 G_g5 GE_g5 B_g5 HBn K_g5; clear HB; have HB := HBn; clear HBn)
          | ((with_reducible refine gate_ (Op.store 126 (.tmp 5) (.tmp 20)) rfl ?_); refine ev_store HB B_g5 GE_g5 rfl 126 _ _ rfl rfl rfl (by kernel_rfl) rfl (by simp [Value.oneCell']) ?_; intro w4 B5 HBn K_w4; have c50 := B5.cell (i := 0) rfl; have c51 := B5.cell (i := 1) rfl; clear HB; have HB := HBn; clear HBn))
        go_ret
        exact ⟨by rw [HX.out]; rfl, HB.out⟩
      · have h1 : ((9 : Int) == (x : Int)) = false := beq_eq_false_iff_ne.mpr (by omega)
        have HX := Aside0.mk hx
        clear hx
        go_wp2_with (first
          | ((with_reducible refine gate_dst (N := 5) rfl ?_); refine ev_alloc HB rfl (#[.int .u8 0, .int .i64 0]) 126 ?hr ?_; (case hr => first | (go_simp; done) | (go_simp; rfl)); intro g5 w3 G_g5 GE_g5 B_g5 HBn K_g5; clear HB; have HB := HBn; clear HBn)
          | ((with_reducible refine gate_ (Op.store 126 (.tmp 5) (.tmp 20)) rfl ?_); refine ev_store HB B_g5 GE_g5 rfl 126 _ _ rfl rfl rfl (by kernel_rfl) rfl (by simp [Value.oneCell']) ?_; intro w4 B5 HBn K_w4; have c50 := B5.cell (i := 0) rfl; have c51 := B5.cell (i := 1) rfl; clear HB; have HB := HBn; clear HBn))
        go_roundw
        case rel => exact ⟨8, rfl, ⟨by decide⟩, ⟨kinds_next HJ.out (show kindsX.getD 7 0 ≠ x from fun e => HX.out e.symm)⟩, HB⟩
        case measure => decide
    · clear hi
      have ix : ∀ w, (Instr.index 127 (.agg #[.int .u8 123, .int .i64 1, .int .u8 125, .int .i64 1, .int .u8 91, .int .i64 1, .int .u8 93, .int .i64 1, .int .u8 58, .int .i64 1, .int .u8 44, .int .i64 1, .int .u8 32, .int .i64 2, .int .u8 9, .int .i64 2, .int .u8 10, .int .i64 2, .int .u8 13, .int .i64 2]) (.int .i64 8)).run Tryd.prog w = .ok (.agg #[.int .u8 10, .int .i64 2]) w := fun _ => by kernel_rfl
      by_cases hx : x = 10
      · have h1 : ((10 : Int) == (x : Int)) = true := by rw [hx]; rfl
        have HX := Aside0.mk hx
        clear hx
        go_wp2_with (first
          | ((with_reducible refine gate_dst (N := 5) rfl ?_); refine ev_alloc HB rfl (#[.int .u8 0, .int .i64 0]) 126 ?hr ?_; (case hr => first | (go_simp; done) | (go_simp; rfl)); intro g5 w3 G_g5 GE_g5 B_g5 HBn K_g5; clear HB; have HB := HBn; clear HBn)
          | ((with_reducible refine gate_ (Op.store 126 (.tmp 5) (.tmp 20)) rfl ?_); refine ev_store HB B_g5 GE_g5 rfl 126 _ _ rfl rfl rfl (by kernel_rfl) rfl (by simp [Value.oneCell']) ?_; intro w4 B5 HBn K_w4; have c50 := B5.cell (i := 0) rfl; have c51 := B5.cell (i := 1) rfl; clear HB; have HB := HBn; clear HBn))
        go_ret
        exact ⟨by rw [HX.out]; rfl, HB.out⟩
      · have h1 : ((10 : Int) == (x : Int)) = false := beq_eq_false_iff_ne.mpr (by omega)
        have HX := Aside0.mk hx
        clear hx
        go_wp2_with (first
          | ((with_reducible refine gate_dst (N := 5) rfl ?_); refine ev_alloc HB rfl (#[.int .u8 0, .int .i64 0]) 126 ?hr ?_; (case hr => first | (go_simp; done) | (go_simp; rfl)); intro g5 w3 G_g5 GE_g5 B_g5 HBn K_g5; clear HB; have HB := HBn; clear HBn)
          | ((with_reducible refine gate_ (Op.store 126 (.tmp 5) (.tmp 20)) rfl ?_); refine ev_store HB B_g5 GE_g5 rfl 126 _ _ rfl rfl rfl (by kernel_rfl) rfl (by simp [Value.oneCell']) ?_; intro w4 B5 HBn K_w4; have c50 := B5.cell (i := 0) rfl; have c51 := B5.cell (i := 1) rfl; clear HB; have HB := HBn; clear HBn))
        go_roundw
        case rel => exact ⟨9, rfl, ⟨by decide⟩, ⟨kinds_next HJ.out (show kindsX.getD 8 0 ≠ x from fun e => HX.out e.symm)⟩, HB⟩
        case measure => decide
    · clear hi
      have ix : ∀ w, (Instr.index 127 (.agg #[.int .u8 123, .int .i64 1, .int .u8 125, .int .i64 1, .int .u8 91, .int .i64 1, .int .u8 93, .int .i64 1, .int .u8 58, .int .i64 1, .int .u8 44, .int .i64 1, .int .u8 32, .int .i64 2, .int .u8 9, .int .i64 2, .int .u8 10, .int .i64 2, .int .u8 13, .int .i64 2]) (.int .i64 9)).run Tryd.prog w = .ok (.agg #[.int .u8 13, .int .i64 2]) w := fun _ => by kernel_rfl
      by_cases hx : x = 13
      · have h1 : ((13 : Int) == (x : Int)) = true := by rw [hx]; rfl
        have HX := Aside0.mk hx
        clear hx
        go_wp2_with (first
          | ((with_reducible refine gate_dst (N := 5) rfl ?_); refine ev_alloc HB rfl (#[.int .u8 0, .int .i64 0]) 126 ?hr ?_; (case hr => first | (go_simp; done) | (go_simp; rfl)); intro g5 w3 G_g5 GE_g5 B_g5 HBn K_g5; clear HB; have HB := HBn; clear HBn)
          | ((with_reducible refine gate_ (Op.store 126 (.tmp 5) (.tmp 20)) rfl ?_); refine ev_store HB B_g5 GE_g5 rfl 126 _ _ rfl rfl rfl (by kernel_rfl) rfl (by simp [Value.oneCell']) ?_; intro w4 B5 HBn K_w4; have c50 := B5.cell (i := 0) rfl; have c51 := B5.cell (i := 1) rfl; clear HB; have HB := HBn; clear HBn))
        go_ret
        exact ⟨by rw [HX.out]; rfl, HB.out⟩
      · have h1 : ((13 : Int) == (x : Int)) = false := beq_eq_false_iff_ne.mpr (by omega)
        have HX := Aside0.mk hx
        clear hx
        go_wp2_with (first
          | ((with_reducible refine gate_dst (N := 5) rfl ?_); refine ev_alloc HB rfl (#[.int .u8 0, .int .i64 0]) 126 ?hr ?_; (case hr => first | (go_simp; done) | (go_simp; rfl)); intro g5 w3 G_g5 GE_g5 B_g5 HBn K_g5; clear HB; have HB := HBn; clear HBn)
          | ((with_reducible refine gate_ (Op.store 126 (.tmp 5) (.tmp 20)) rfl ?_); refine ev_store HB B_g5 GE_g5 rfl 126 _ _ rfl rfl rfl (by kernel_rfl) rfl (by simp [Value.oneCell']) ?_; intro w4 B5 HBn K_w4; have c50 := B5.cell (i := 0) rfl; have c51 := B5.cell (i := 1) rfl; clear HB; have HB := HBn; clear HBn))
        go_roundw
        case rel => exact ⟨10, rfl, ⟨by decide⟩, ⟨kinds_next HJ.out (show kindsX.getD 9 0 ≠ x from fun e => HX.out e.symm)⟩, HB⟩
        case measure => decide
    · go_wp2
      go_ret
      exact ⟨by rw [kindN_none HJ.out]; rfl, HB.out⟩
end


end Go.Proofs.YtadcgjmhhodnoaaDoor.PT
