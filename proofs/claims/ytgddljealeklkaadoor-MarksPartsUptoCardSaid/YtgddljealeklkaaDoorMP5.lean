/- Parts of a claim (MP), packed by a program (pack.py) out of the texts that it names. -/
import Derived.Test.YtgddljealeklkaaDoorCards
import Derived.Test.YtgddljealeklkaaDoorTie
import Derived.WalkKit
import Derived.ProofKit
import Derived.OpenShut
import Derived.ShutString
import Derived.ChangeOld
import Derived.Below
import Derived.SizedLaws
import Derived.Deep.DeepHandedRow
import Derived.Lib.LaidTab
import Derived.Test.YtgddljealeklkaaDoorMP4
-- PMx5
section
namespace Go.Proofs.YtgddljealeklkaaDoor.PM
attribute [local go_sem] Go.Proofs.YtgddljealeklkaaDoorM.fieldBits0 Go.Proofs.YtgddljealeklkaaDoorM.fieldBits1
open Go.Proofs.YtgddljealeklkaaDoorM (TabOk)
open Go.RowKit Go.Proofs.YtgddljealeklkaaDoorW.PrintWords Go.Proofs.YtgddljealeklkaaDoorW.PrintLast Go.Proofs.YtgddljealeklkaaDoorW.PrintMore
attribute [local go_sem] max2_int min2_int max_two min_two max_three min_three max_four min_four   -- for this text's walks alone
set_option linter.unusedVariables false
set_option linter.unusedSimpArgs false

def marks_Blanks.l0 : Nat → List (S77) → Int → Int → Int → List Int → Option (Int × List Int)
  | 0, _, _, _, _, _ => none
  | k + 1, x10, x11, x12, x107000, x107001 => if x12 < x11 then (if 0 ≤ x12 then (if x12 < (x10.length : Int) then (if x107001.length < 17592186044416 then (marks_Blanks.l0 k x10 x11 (wrap64 (x12 + 1)) x107000 (x107001 ++ [(rd_T77 x10 x12).f1])) else (none)) else (none)) else (none)) else (some (x107000, x107001))
def marks_Blanks.f (k : Nat) (a0 : ByteArray) : Option (Int × List Int) := (marks_look.f a0).bind fun t107 => (marks_Blanks.l0 k t107 (t107.length : Int) 0 (a0.size : Int) ([] : List Int))
theorem marks_Blanks.mono_l : ∀ k, (∀ y0 y1 y2 y3 y4, LeO (marks_Blanks.l0 k y0 y1 y2 y3 y4) (marks_Blanks.l0 (k + 1) y0 y1 y2 y3 y4))
  | 0 => fun _ _ _ _ _ r h => by simp [marks_Blanks.l0] at h
  | k + 1 => by
    have ih0 := marks_Blanks.mono_l k
    · intro y0 y1 y2 y3 y4
      unfold marks_Blanks.l0
      repeat' first
      | (with_reducible exact ih0 _ _ _ _ _)
      | (with_reducible exact LeO.refl _)
      | (with_reducible exact LeO.none _)
      | (with_reducible refine LeO.ite ?_ ?_)
      | (with_reducible refine LeO.bind ?_ (fun _ => ?_))
      | exact ih0 _ _ _ _ _
      | exact LeO.none _
      | refine LeO.ite ?_ ?_
      | refine LeO.bind ?_ (fun _ => ?_)
theorem marks_Blanks.mono : ∀ a0 k, LeO (marks_Blanks.f k a0) (marks_Blanks.f (k + 1) a0) := by
  intro a0 k
  have ih0 := marks_Blanks.mono_l k
  unfold marks_Blanks.f
  repeat' first
      | (with_reducible exact ih0 _ _ _ _ _)
      | (with_reducible exact LeO.refl _)
      | (with_reducible exact LeO.none _)
      | (with_reducible refine LeO.ite ?_ ?_)
      | (with_reducible refine LeO.bind ?_ (fun _ => ?_))
      | exact ih0 _ _ _ _ _
      | exact LeO.none _
      | refine LeO.ite ?_ ?_
      | refine LeO.bind ?_ (fun _ => ?_)
set_option maxHeartbeats 8000000 in
set_option maxRecDepth 100000 in
theorem marks_Blanks.calls (k : Nat) (a0 : ByteArray) (r1 : Int) (r2 : List Int) (w : World) (h : marks_Blanks.f k a0 = some (r1, r2)) :
    Calls Tryd.prog 20 #[.string a0] w fun e w' => ∃ v1_ : Value, e = .returned (.agg #[.int .i64 r1, v1_]) ∧ Kd.R (Kd.int .u64) 75 w' w.heap.size (fun _ => True) v1_ r2 ∧ Below w.heap.size w w' := by
  have hu34 := Tryd.underlying34
  have hu77 := Tryd.underlying77
  have HB := Aside0.mk (Below.refl w.heap.size w)
  have H : ((marks_look.f a0).bind fun t107 => (marks_Blanks.l0 k t107 (t107.length : Int) 0 (a0.size : Int) ([] : List Int))) = some (r1, r2) := h
  clear h
  replace H := Option.bind_eq_some_iff.mp H
  obtain ⟨t107, A20, H⟩ := H
  replace H : (marks_Blanks.l0 k t107 (t107.length : Int) 0 (a0.size : Int) ([] : List Int)) = some (r1, r2) := H
  have A2 := Aside0.mk A20
  clear A20
  have H' := Aside0.mk H
  clear H
  go_enter Tryd.func20, Tryd.ntmps20
  go_wp2_with (first | ((with_reducible refine gate_dst (N := 2) rfl ?_); refine box_event ?hg (N := 2) ?hd (cs := #[.int .i64 0, .slice none 0 0]) (t := 34) ?hr ?_; (case hd => rfl); (case hg => rfl); (case hr => first | (go_simp; done) | (go_simp; rfl)); intro gb105 hg w3 hbox hb; have n0_ := Aside0.mk (below_step (by repeat (first | (with_reducible first | exact HB.out | apply below_alloc | apply pw_below_drewN | apply below_drew1) | exact HB.out)) hb); have n1_ := Aside0.mk (hbox); have n2_ := Aside0.mk ((by rw [hg]; exact (below_size (by repeat (first | (with_reducible first | exact HB.out | apply below_alloc | apply pw_below_drewN | apply below_drew1) | exact HB.out))) : w.heap.size ≤ gb105)); have n3_ := Aside0.mk ((by rw [hg]; exact (below_size (by repeat (first | (with_reducible first | exact HB.out | apply below_alloc | apply pw_below_drewN | apply below_drew1) | exact HB.out))) : w.heap.size ≤ gb105)); clear HB; have HB := n0_; have BK105 := n1_; have GW105 := n2_; have GE105 := n3_; clear n0_ n1_ n2_ n3_; clear hb hbox hg) | ((with_reducible refine gate_dst (N := 3) rfl ?_); refine box_event ?hg (N := 3) ?hd (cs := #[.int .i64 0, .slice none 0 0]) (t := 34) ?hr ?_; (case hd => rfl); (case hg => rfl); (case hr => first | (go_simp; done) | (go_simp; rfl)); intro gb106 hg w4 hbox hb; have n0_ := Aside0.mk (blk_below (g := gb105) (o := .cells #[.int .i64 0, .slice none 0 0] 34 (0, 0)) (by (with_reducible repeat (first | refine blk_drewN ?_ _ | refine blk_drew ?_ | refine blk_alloc ?_ _)); exact BK105.out) hb); have n1_ := Aside0.mk (below_step (by repeat (first | (with_reducible first | exact HB.out | apply below_alloc | apply pw_below_drewN | apply below_drew1 | refine below_set ?_ GE105.out) | exact HB.out)) hb); have n2_ := Aside0.mk (hbox); have n3_ := Aside0.mk ((by rw [hg]; exact (below_size (by repeat (first | (with_reducible first | exact HB.out | apply below_alloc | apply pw_below_drewN | apply below_drew1 | refine below_set ?_ GE105.out) | exact HB.out))) : w.heap.size ≤ gb106)); have n4_ := Aside0.mk ((by rw [hg]; exact (below_size (by repeat (first | (with_reducible first | exact HB.out | apply below_alloc | apply pw_below_drewN | apply below_drew1 | refine below_set ?_ GE105.out) | exact HB.out))) : w.heap.size ≤ gb106)); have n5_ := Aside0.mk ((by rw [hg]; exact Nat.ne_of_lt (blk_lt (g := gb105) (o := .cells #[.int .i64 0, .slice none 0 0] 34 (0, 0)) (by (with_reducible repeat (first | refine blk_drewN ?_ _ | refine blk_drew ?_ | refine blk_alloc ?_ _)); exact BK105.out)) : gb105 ≠ gb106)); have n6_ := Aside0.mk ((by rw [hg]; exact Nat.ne_of_gt (blk_lt (g := gb105) (o := .cells #[.int .i64 0, .slice none 0 0] 34 (0, 0)) (by (with_reducible repeat (first | refine blk_drewN ?_ _ | refine blk_drew ?_ | refine blk_alloc ?_ _)); exact BK105.out)) : gb106 ≠ gb105)); clear BK105; clear HB; have BK105 := n0_; have HB := n1_; have BK106 := n2_; have GW106 := n3_; have GE106 := n4_; have NB105_106 := n5_; have NB106_105 := n6_; clear n0_ n1_ n2_ n3_ n4_ n5_ n6_; clear hb hbox hg; have hnb5 := NB106_105.out; have hnc5 := NB105_106.out; have hcz6_0 : w4.cell? ⟨gb106, 0, none⟩ = some (.int .i64 0) := (blk_cell BK106.out 0).trans rfl; have hcz6_1 : w4.cell? ⟨gb106, 1, none⟩ = some (.slice none 0 0) := (blk_cell BK106.out 1).trans rfl; have hfz6_0 := blk_frozen BK106.out 0; have hfz6_1 := blk_frozen BK106.out 1) | ((with_reducible refine gate_callee (f := 50) rfl ?_); refine goesL_ (some 10) rfl rfl Tryd.func50 (by kernel_rfl) rfl #[.string a0] rfl (by (try simp only [List.map_toArray, List.map_cons, List.map_nil]); first | done | rfl | (simp only [List.length_drop, List.length_take]; rfl)) ?_; (with_reducible refine (marks_look.calls a0 t107 _ A2.out).mono ?_); rintro e w7 ⟨v108, rfl, ho0, hb⟩; refine ⟨_, rfl, ?_⟩; have n0_ := Aside0.mk (Kd.R_lower ho0 (below_size (by repeat (first | (with_reducible first | exact HB.out | apply below_alloc | apply pw_below_drewN | apply below_drew1 | refine below_set ?_ GE105.out | refine below_set ?_ GE106.out) | exact HB.out)))); have n1_ := Aside0.mk (blk_below (g := gb105) (o := .cells #[.int .i64 0, .slice none 0 0] 34 (0, 0)) (by (with_reducible repeat (first | refine blk_drewN ?_ _ | refine blk_drew ?_ | refine blk_alloc ?_ _)); refine blk_far ?_ NB105_106.out _; (with_reducible repeat (first | refine blk_drewN ?_ _ | refine blk_drew ?_ | refine blk_alloc ?_ _)); refine blk_far ?_ NB105_106.out _; (with_reducible repeat (first | refine blk_drewN ?_ _ | refine blk_drew ?_ | refine blk_alloc ?_ _)); exact BK105.out) hb); have n2_ := Aside0.mk (blk_below (g := gb106) (o := .cells #[.int .i64 (a0.size : Int), .slice none 0 0] 34 (0, 0)) (by (with_reducible repeat (first | refine blk_drewN ?_ _ | refine blk_drew ?_ | refine blk_alloc ?_ _)); refine blk_put (cs := #[.int .i64 (a0.size : Int), .slice none 0 0]) ?_ 1 _ rfl; (with_reducible repeat (first | refine blk_drewN ?_ _ | refine blk_drew ?_ | refine blk_alloc ?_ _)); refine blk_put (cs := #[.int .i64 0, .slice none 0 0]) ?_ 0 _ rfl; (with_reducible repeat (first | refine blk_drewN ?_ _ | refine blk_drew ?_ | refine blk_alloc ?_ _)); exact BK106.out) hb); have n3_ := Aside0.mk (below_step (by repeat (first | (with_reducible first | exact HB.out | apply below_alloc | apply pw_below_drewN | apply below_drew1 | refine below_set ?_ GE105.out | refine below_set ?_ GE106.out) | exact HB.out)) hb); clear BK105; clear BK106; clear HB; have HO109 := n0_; have BK105 := n1_; have BK106 := n2_; have HB := n3_; clear n0_ n1_ n2_ n3_; (try clear hb); (try clear hb2); (try clear hk); (try clear hi); (try clear ho0); obtain ⟨Ao8, co8, eo8⟩ := Kd.R_slice HO109.out; subst eo8))
  go_loopg [12] k (fun kq v12 w' => ∃ (x12_1 : Int) (x107001_1 : List Int) (u107001 : Value), v12 = .int .i64 x12_1 ∧ Aside0 (marks_Blanks.l0 kq t107 (t107.length : Int) x12_1 (a0.size : Int) x107001_1 = some (r1, r2)) ∧ Aside0 (kq ≤ k) ∧ Aside0 (Kd.R k77 77 w' w.heap.size (fun _ => True) (.slice Ao8 t107.length co8) t107) ∧ Aside0 (Kd.R (Kd.int .u64) 75 w' w.heap.size (fun _ => True) u107001 x107001_1) ∧ Aside0 (w'.heap[gb105]? = some (.cells #[.int .i64 0, (.slice none 0 0)] 34 (0, 0))) ∧ Aside0 (w'.heap[gb106]? = some (.cells #[.int .i64 (a0.size : Int), u107001] 34 (0, 0))) ∧ Aside0 (Below w.heap.size w w'))
  case atStart => exact ⟨(0), (([] : List Int)), (.slice none 0 0), (by first | rfl | (simp; done) | (simp [*]; done)), H', ⟨Nat.le_refl _⟩, ⟨by (with_reducible repeat (first | apply Kd.R_alloc | apply Kd.R_drewN | apply Kd.R_drew)); exact HO109.out⟩, ⟨by first | exact Kd.R_nil _ _ _ _ _ | exact Kd.N_nil _ _ _ _ _ | exact Kd.V_nil _ _ _ _ _ | exact Kd.Q_nil _ _ _ _ _ | exact Kd.S_nil _ _ _ _ _⟩, ⟨by (with_reducible repeat (first | refine blk_drewN ?_ _ | refine blk_drew ?_ | refine blk_alloc ?_ _)); exact BK105.out⟩, ⟨by (with_reducible repeat (first | refine blk_drewN ?_ _ | refine blk_drew ?_ | refine blk_alloc ?_ _)); exact BK106.out⟩, ⟨by repeat (first | (with_reducible first | exact HB.out | apply below_alloc | apply pw_below_drewN | apply below_drew1 | refine below_set ?_ GE105.out | refine below_set ?_ GE106.out) | exact HB.out)⟩⟩
  case round =>
    clear H'
    try clear c2
    try clear p2
    try clear c5
    try clear hcz6_0
    try clear hcz6_1
    try clear hfz6_0
    try clear hfz6_1
    obtain ⟨x12_1, x107001_1, u107001, rfl, HA, HK1, HO_10, HO_107001, BK105, BK106, HB⟩ := hrel
    cases gk with
    | zero => exact absurd HA.out (by simp [marks_Blanks.l0])
    | succ k1 =>
      have H := HA.out
      clear HA
      simp only [marks_Blanks.l0] at H
      by_cases c9 : x12_1 < (t107.length : Int)
      · rw [if_pos c9] at H
        have c9b0 : decide (x12_1 < (t107.length : Int)) = true := decide_eq_true c9
        clear c9
        by_cases c10 : 0 ≤ x12_1
        · rw [if_pos c10] at H
          have c10b0 : decide (0 ≤ x12_1) = true := decide_eq_true c10
          clear c10
          by_cases c11 : x12_1 < (t107.length : Int)
          · rw [if_pos c11] at H
            have c11b0 : decide (x12_1 < (t107.length : Int)) = true := decide_eq_true c11
            clear c11
            by_cases c12 : x107001_1.length < 17592186044416
            · rw [if_pos c12] at H
              have LMc12 := Aside0.mk c12
              clear c12
              obtain ⟨y112, hy112⟩ : ∃ y_ : List Int, y_ = (x107001_1 ++ [(rd_T77 t107 x12_1).f1]) := ⟨_, rfl⟩
              replace H : (marks_Blanks.l0 k1 t107 (t107.length : Int) (wrap64 (x12_1 + 1)) (a0.size : Int) y112) = some (r1, r2) := by first | (rw [hy112]; with_reducible exact H) | (have H2_ := (Option.bind_some _ _).symm.trans H; rw [hy112]; with_reducible exact H2_) | (have H2_ := (Option.bind_some _ _).symm.trans H; with_reducible exact H2_) | with_reducible exact H | (rw [hy112]; exact H) | exact H
              have Ny112 := Aside0.mk hy112
              clear hy112
              have H' := Aside0.mk H
              clear H
              have p110 : 0 ≤ (x12_1 : Int) := of_decide_eq_true (by first | (with_reducible assumption) | assumption)
              have q110 : x12_1 < (t107.length : Int) := of_decide_eq_true (by first | (with_reducible assumption) | assumption)
              obtain ⟨ad110, e110, hx110_0, hx110_1, hx110_2, hx110_3⟩ := at_T77 (Kd.R_reads' HO_10.out).2.2 x12_1 p110 q110
              cases e110
              replace p110 := eq_true p110
              replace q110 := eq_true q110
              go_wp2_with (first | ((with_reducible refine gate_dst (N := 5) rfl ?_); refine box_event ?hg (N := 5) ?hd (cs := #[.int .u64 0, .int .u64 0, .int .u64 0, .int .u64 0]) (t := 77) ?hr ?_; (case hd => rfl); (case hg => rfl); (case hr => first | (go_simp; done) | (go_simp; rfl)); intro gb111 hg w13 hbox hb; have n0_ := Aside0.mk (Kd.R_below (Kd.R_elderB (by (with_reducible repeat (first | apply Kd.R_alloc | apply Kd.R_drewN | apply Kd.R_drew)); exact HO_10.out) gb111 (Nat.le_of_eq hg.symm)) hb); have n1_ := Aside0.mk (Kd.R_below (by (with_reducible repeat (first | apply Kd.R_alloc | apply Kd.R_drewN | apply Kd.R_drew)); exact HO_107001.out) hb); have n2_ := Aside0.mk (blk_below (g := gb105) (o := .cells #[.int .i64 0, .slice none 0 0] 34 (0, 0)) (by (with_reducible repeat (first | refine blk_drewN ?_ _ | refine blk_drew ?_ | refine blk_alloc ?_ _)); exact BK105.out) hb); have n3_ := Aside0.mk (blk_below (g := gb106) (o := .cells #[.int .i64 (a0.size : Int), u107001] 34 (0, 0)) (by (with_reducible repeat (first | refine blk_drewN ?_ _ | refine blk_drew ?_ | refine blk_alloc ?_ _)); exact BK106.out) hb); have n4_ := Aside0.mk (below_step (by repeat (first | (with_reducible first | exact HB.out | apply below_alloc | apply pw_below_drewN | apply below_drew1 | refine below_set ?_ GE105.out | refine below_set ?_ GE106.out) | exact HB.out)) hb); have n5_ := Aside0.mk (hbox); have n6_ := Aside0.mk ((by rw [hg]; exact (below_size (by repeat (first | (with_reducible first | exact HB.out | apply below_alloc | apply pw_below_drewN | apply below_drew1 | refine below_set ?_ GE105.out | refine below_set ?_ GE106.out) | exact HB.out))) : w.heap.size ≤ gb111)); have n7_ := Aside0.mk ((by rw [hg]; exact (below_size (by repeat (first | (with_reducible first | exact HB.out | apply below_alloc | apply pw_below_drewN | apply below_drew1 | refine below_set ?_ GE105.out | refine below_set ?_ GE106.out) | exact HB.out))) : w.heap.size ≤ gb111)); have n8_ := Aside0.mk ((by rw [hg]; exact Nat.ne_of_lt (blk_lt (g := gb105) (o := .cells #[.int .i64 0, .slice none 0 0] 34 (0, 0)) (by (with_reducible repeat (first | refine blk_drewN ?_ _ | refine blk_drew ?_ | refine blk_alloc ?_ _)); exact BK105.out)) : gb105 ≠ gb111)); have n9_ := Aside0.mk ((by rw [hg]; exact Nat.ne_of_gt (blk_lt (g := gb105) (o := .cells #[.int .i64 0, .slice none 0 0] 34 (0, 0)) (by (with_reducible repeat (first | refine blk_drewN ?_ _ | refine blk_drew ?_ | refine blk_alloc ?_ _)); exact BK105.out)) : gb111 ≠ gb105)); have n10_ := Aside0.mk ((by rw [hg]; exact Nat.ne_of_lt (blk_lt (g := gb106) (o := .cells #[.int .i64 (a0.size : Int), u107001] 34 (0, 0)) (by (with_reducible repeat (first | refine blk_drewN ?_ _ | refine blk_drew ?_ | refine blk_alloc ?_ _)); exact BK106.out)) : gb106 ≠ gb111)); have n11_ := Aside0.mk ((by rw [hg]; exact Nat.ne_of_gt (blk_lt (g := gb106) (o := .cells #[.int .i64 (a0.size : Int), u107001] 34 (0, 0)) (by (with_reducible repeat (first | refine blk_drewN ?_ _ | refine blk_drew ?_ | refine blk_alloc ?_ _)); exact BK106.out)) : gb111 ≠ gb106)); clear HO_10; clear HO_107001; clear BK105; clear BK106; clear HB; have HO_10 := n0_; have HO_107001 := n1_; have BK105 := n2_; have BK106 := n3_; have HB := n4_; have BK111 := n5_; have GW111 := n6_; have GE111 := n7_; have NB105_111 := n8_; have NB111_105 := n9_; have NB106_111 := n10_; have NB111_106 := n11_; clear n0_ n1_ n2_ n3_ n4_ n5_ n6_ n7_ n8_ n9_ n10_ n11_; clear hb hbox hg; have hnb14 := NB111_105.out; have hnc14 := NB105_111.out; have hnb15 := NB111_106.out; have hnc15 := NB106_111.out; have hcz16_0 : w13.cell? ⟨gb111, 0, none⟩ = some (.int .u64 0) := (blk_cell BK111.out 0).trans rfl; have hcz16_1 : w13.cell? ⟨gb111, 1, none⟩ = some (.int .u64 0) := (blk_cell BK111.out 1).trans rfl; have hcz16_2 : w13.cell? ⟨gb111, 2, none⟩ = some (.int .u64 0) := (blk_cell BK111.out 2).trans rfl; have hcz16_3 : w13.cell? ⟨gb111, 3, none⟩ = some (.int .u64 0) := (blk_cell BK111.out 3).trans rfl; have hfz16_0 := blk_frozen BK111.out 0; have hfz16_1 := blk_frozen BK111.out 1; have hfz16_2 := blk_frozen BK111.out 2; have hfz16_3 := blk_frozen BK111.out 3; have hnb17 := NB106_105.out; have hnc17 := NB105_106.out; have hcz18_0 : w13.cell? ⟨gb106, 0, none⟩ = some (.int .i64 (a0.size : Int)) := (blk_cell BK106.out 0).trans rfl; have hcz18_1 : w13.cell? ⟨gb106, 1, none⟩ = some (u107001) := (blk_cell BK106.out 1).trans rfl; have hfz18_0 := blk_frozen BK106.out 0; have hfz18_1 := blk_frozen BK106.out 1) | ((with_reducible refine gate_builtin (b := .append) (xs := #[.tmp 17, .tmp 20]) rfl ?_); at_builtin; refine Kd.R_append (Kd.int .u64) (w0 := w) w.heap.size rfl (.tmp 17) (.tmp 20) 32 75 (.int .u64 0) 8 rfl Tryd.underlying32 info75 rfl (by decide) (by omega) u107001 x107001_1 ((rd_T77 t107 x12_1).f1) [.int .u64 ((rd_T77 t107 x12_1).f1)] (fun _ => True) (fun _ => False) rfl (by first | (go_simp; done) | (go_simp; rfl)) ?aP (fun _ hk => hk.elim) ?aF ?aO ?aB ?aS ?aL ?_; (case aP => exact rfl); (case aB => exact (by repeat (first | (with_reducible first | exact HB.out | apply below_alloc | apply pw_below_drewN | apply below_drew1 | refine below_set ?_ GE105.out | refine below_set ?_ GE106.out | refine below_set ?_ GE111.out) | exact HB.out))); (case aF => exact (fun _ _ => trivial)); (case aO => exact (by (with_reducible repeat (first | apply Kd.R_alloc | apply Kd.R_drewN | apply Kd.R_drew)); exact Kd.R_mono (Kd.R_far (p := ⟨gb111, 3, none⟩) (Kd.R_far (p := ⟨gb111, 2, none⟩) (Kd.R_far (p := ⟨gb111, 1, none⟩) (Kd.R_far (p := ⟨gb111, 0, none⟩) (Kd.R_types HO_107001.out BK111.out (by decide)) (fun _ hk => hk.2) (.int .u64 ((rd_T77 t107 x12_1).f0))) (fun _ hk => hk.2) (.int .u64 ((rd_T77 t107 x12_1).f1))) (fun _ hk => hk.2) (.int .u64 ((rd_T77 t107 x12_1).f2))) (fun _ hk => hk.2) (.int .u64 ((rd_T77 t107 x12_1).f3))) (fun _ hk => trivial))); (case aS => exact (below_size (by repeat (first | (with_reducible first | exact HB.out | apply below_alloc | apply pw_below_drewN | apply below_drew1 | refine below_set ?_ GE105.out | refine below_set ?_ GE106.out | refine below_set ?_ GE111.out) | exact HB.out)))); (case aL => have := LMc12.out; omega); intro v113 w19 ho hb hg hat; rw [← Ny112.out] at ho; have n0_ := Aside0.mk (Kd.R_over' (by (with_reducible repeat (first | apply Kd.R_alloc | apply Kd.R_drewN | apply Kd.R_drew)); exact (Kd.R_mono (Kd.R_far (p := ⟨gb111, 3, none⟩) (Kd.R_far (p := ⟨gb111, 2, none⟩) (Kd.R_far (p := ⟨gb111, 1, none⟩) (Kd.R_far (p := ⟨gb111, 0, none⟩) (Kd.R_mono HO_10.out (fun k_ hk => (⟨hk, hk.2⟩ : _ ∧ k_ ≠ gb111))) (fun _ hk => hk.2) (.int .u64 ((rd_T77 t107 x12_1).f0))) (fun _ hk => hk.2) (.int .u64 ((rd_T77 t107 x12_1).f1))) (fun _ hk => hk.2) (.int .u64 ((rd_T77 t107 x12_1).f2))) (fun _ hk => hk.2) (.int .u64 ((rd_T77 t107 x12_1).f3))) (fun _ h_ => h_.1))) (Kd.R_typed (by (with_reducible repeat (first | apply Kd.R_alloc | apply Kd.R_drewN | apply Kd.R_drew)); exact (Kd.R_mono (Kd.R_far (p := ⟨gb111, 3, none⟩) (Kd.R_far (p := ⟨gb111, 2, none⟩) (Kd.R_far (p := ⟨gb111, 1, none⟩) (Kd.R_far (p := ⟨gb111, 0, none⟩) (Kd.R_types HO_107001.out BK111.out (by decide)) (fun _ hk => hk.2) (.int .u64 ((rd_T77 t107 x12_1).f0))) (fun _ hk => hk.2) (.int .u64 ((rd_T77 t107 x12_1).f1))) (fun _ hk => hk.2) (.int .u64 ((rd_T77 t107 x12_1).f2))) (fun _ hk => hk.2) (.int .u64 ((rd_T77 t107 x12_1).f3))) (fun _ h_ => h_.1)))) (by decide) hg); have n1_ := Aside0.mk (blk_grown (g := gb105) (o := .cells #[.int .i64 0, .slice none 0 0] 34 (0, 0)) (by (with_reducible repeat (first | refine blk_drewN ?_ _ | refine blk_drew ?_ | refine blk_alloc ?_ _)); refine blk_far ?_ NB105_111.out _; (with_reducible repeat (first | refine blk_drewN ?_ _ | refine blk_drew ?_ | refine blk_alloc ?_ _)); refine blk_far ?_ NB105_111.out _; (with_reducible repeat (first | refine blk_drewN ?_ _ | refine blk_drew ?_ | refine blk_alloc ?_ _)); refine blk_far ?_ NB105_111.out _; (with_reducible repeat (first | refine blk_drewN ?_ _ | refine blk_drew ?_ | refine blk_alloc ?_ _)); refine blk_far ?_ NB105_111.out _; (with_reducible repeat (first | refine blk_drewN ?_ _ | refine blk_drew ?_ | refine blk_alloc ?_ _)); exact BK105.out) hg (Kd.R_ne HO_107001.out BK105.out (by decide))); have n2_ := Aside0.mk (blk_grown (g := gb106) (o := .cells #[.int .i64 (a0.size : Int), u107001] 34 (0, 0)) (by (with_reducible repeat (first | refine blk_drewN ?_ _ | refine blk_drew ?_ | refine blk_alloc ?_ _)); refine blk_far ?_ NB106_111.out _; (with_reducible repeat (first | refine blk_drewN ?_ _ | refine blk_drew ?_ | refine blk_alloc ?_ _)); refine blk_far ?_ NB106_111.out _; (with_reducible repeat (first | refine blk_drewN ?_ _ | refine blk_drew ?_ | refine blk_alloc ?_ _)); refine blk_far ?_ NB106_111.out _; (with_reducible repeat (first | refine blk_drewN ?_ _ | refine blk_drew ?_ | refine blk_alloc ?_ _)); refine blk_far ?_ NB106_111.out _; (with_reducible repeat (first | refine blk_drewN ?_ _ | refine blk_drew ?_ | refine blk_alloc ?_ _)); exact BK106.out) hg (Kd.R_ne HO_107001.out BK106.out (by decide))); have n3_ := Aside0.mk (blk_grown (g := gb111) (o := .cells #[.int .u64 ((rd_T77 t107 x12_1).f0), .int .u64 ((rd_T77 t107 x12_1).f1), .int .u64 ((rd_T77 t107 x12_1).f2), .int .u64 ((rd_T77 t107 x12_1).f3)] 77 (0, 0)) (by (with_reducible repeat (first | refine blk_drewN ?_ _ | refine blk_drew ?_ | refine blk_alloc ?_ _)); refine blk_put (cs := #[.int .u64 ((rd_T77 t107 x12_1).f0), .int .u64 ((rd_T77 t107 x12_1).f1), .int .u64 ((rd_T77 t107 x12_1).f2), .int .u64 0]) ?_ 3 _ rfl; (with_reducible repeat (first | refine blk_drewN ?_ _ | refine blk_drew ?_ | refine blk_alloc ?_ _)); refine blk_put (cs := #[.int .u64 ((rd_T77 t107 x12_1).f0), .int .u64 ((rd_T77 t107 x12_1).f1), .int .u64 0, .int .u64 0]) ?_ 2 _ rfl; (with_reducible repeat (first | refine blk_drewN ?_ _ | refine blk_drew ?_ | refine blk_alloc ?_ _)); refine blk_put (cs := #[.int .u64 ((rd_T77 t107 x12_1).f0), .int .u64 0, .int .u64 0, .int .u64 0]) ?_ 1 _ rfl; (with_reducible repeat (first | refine blk_drewN ?_ _ | refine blk_drew ?_ | refine blk_alloc ?_ _)); refine blk_put (cs := #[.int .u64 0, .int .u64 0, .int .u64 0, .int .u64 0]) ?_ 0 _ rfl; (with_reducible repeat (first | refine blk_drewN ?_ _ | refine blk_drew ?_ | refine blk_alloc ?_ _)); exact BK111.out) hg (Kd.R_ne HO_107001.out BK111.out (by decide))); have n4_ := Aside0.mk (hb); have n5_ := Aside0.mk (ho); clear HO_10; clear BK105; clear BK106; clear BK111; clear HB; clear HO_107001; have HO_10 := n0_; have BK105 := n1_; have BK106 := n2_; have BK111 := n3_; have HB := n4_; have HO114 := n5_; clear n0_ n1_ n2_ n3_ n4_ n5_; clear ho hb hg hat; obtain ⟨Ao20, co20, eo20⟩ := Kd.R_slice HO114.out; subst eo20; have hcz21_0 : w19.cell? ⟨gb106, 0, none⟩ = some (.int .i64 (a0.size : Int)) := (blk_cell BK106.out 0).trans rfl; have hcz21_1 : w19.cell? ⟨gb106, 1, none⟩ = some (u107001) := (blk_cell BK106.out 1).trans rfl; have hfz21_0 := blk_frozen BK106.out 0; have hfz21_1 := blk_frozen BK106.out 1))
              go_roundg k1
              case measure => have := HK1.out; omega
              case rel => exact ⟨(wrap64 (x12_1 + 1)), (y112), (.slice Ao20 y112.length co20), (by first | rfl | (simp; done) | (simp [*]; done)), H', ⟨by have := HK1.out; omega⟩, ⟨by (with_reducible repeat (first | apply Kd.R_alloc | apply Kd.R_drewN | apply Kd.R_drew)); exact Kd.R_mono (Kd.R_far (p := ⟨gb106, 1, none⟩) (Kd.R_types HO_10.out BK106.out (by decide)) (fun _ hk => hk.2) (.slice Ao20 y112.length co20)) (fun _ hk => trivial)⟩, ⟨by (with_reducible repeat (first | apply Kd.R_alloc | apply Kd.R_drewN | apply Kd.R_drew)); exact Kd.R_mono (Kd.R_far (p := ⟨gb106, 1, none⟩) (Kd.R_types HO114.out BK106.out (by decide)) (fun _ hk => hk.2) (.slice Ao20 y112.length co20)) (fun _ hk => trivial)⟩, ⟨by (with_reducible repeat (first | refine blk_drewN ?_ _ | refine blk_drew ?_ | refine blk_alloc ?_ _)); refine blk_far ?_ NB105_106.out _; (with_reducible repeat (first | refine blk_drewN ?_ _ | refine blk_drew ?_ | refine blk_alloc ?_ _)); exact BK105.out⟩, ⟨by (with_reducible repeat (first | refine blk_drewN ?_ _ | refine blk_drew ?_ | refine blk_alloc ?_ _)); refine blk_put (cs := #[.int .i64 (a0.size : Int), u107001]) ?_ 1 _ rfl; (with_reducible repeat (first | refine blk_drewN ?_ _ | refine blk_drew ?_ | refine blk_alloc ?_ _)); exact BK106.out⟩, ⟨by repeat (first | (with_reducible first | exact HB.out | apply below_alloc | apply pw_below_drewN | apply below_drew1 | refine below_set ?_ GE105.out | refine below_set ?_ GE106.out | refine below_set ?_ GE111.out) | exact HB.out)⟩⟩
            · rw [if_neg c12] at H
              exact absurd H (by simp)
          · rw [if_neg c11] at H
            exact absurd H (by simp)
        · rw [if_neg c10] at H
          exact absurd H (by simp)
      · rw [if_neg c9] at H
        have c9b0 : decide (x12_1 < (t107.length : Int)) = false := decide_eq_false c9
        clear c9
        simp only [Option.some.injEq, Prod.mk.injEq] at H
        obtain ⟨rfl, rfl⟩ := H
        have hnb22 := NB106_105.out
        have hnc22 := NB105_106.out
        have hcz23_0 : wr.cell? ⟨gb106, 0, none⟩ = some (.int .i64 (a0.size : Int)) := (blk_cell BK106.out 0).trans rfl
        have hcz23_1 : wr.cell? ⟨gb106, 1, none⟩ = some (u107001) := (blk_cell BK106.out 1).trans rfl
        have hfz23_0 := blk_frozen BK106.out 0
        have hfz23_1 := blk_frozen BK106.out 1
        have hcz24_0 : wr.cell? ⟨gb105, 0, none⟩ = some (.int .i64 0) := (blk_cell BK105.out 0).trans rfl
        have hcz24_1 : wr.cell? ⟨gb105, 1, none⟩ = some (.slice none 0 0) := (blk_cell BK105.out 1).trans rfl
        have hfz24_0 := blk_frozen BK105.out 0
        have hfz24_1 := blk_frozen BK105.out 1
        obtain ⟨Ao25, co25, eo25⟩ := Kd.R_slice HO_107001.out
        subst eo25
        go_wp2
        refine bodyPost_ret (results_cell_row rfl _ _ gb105 34 #[.int .i64 (a0.size : Int), .slice Ao25 x107001_1.length co25] (0, 0) _ rfl (by (with_reducible repeat (first | refine blk_drewN ?_ _ | refine blk_drew ?_ | refine blk_alloc ?_ _)); refine blk_put (cs := #[.int .i64 (a0.size : Int), .slice none 0 0]) ?_ 1 _ rfl; (with_reducible repeat (first | refine blk_drewN ?_ _ | refine blk_drew ?_ | refine blk_alloc ?_ _)); refine blk_put (cs := #[.int .i64 0, .slice none 0 0]) ?_ 0 _ rfl; (with_reducible repeat (first | refine blk_drewN ?_ _ | refine blk_drew ?_ | refine blk_alloc ?_ _)); exact BK105.out) Tryd.underlying34 rfl (by kernel_rfl)) rfl ?_
        exact ⟨_, by first | rfl | (simp [errW_none, errW_some] <;> rfl) | (simp [*, errW_none, errW_some] <;> rfl), by (with_reducible repeat (first | apply Kd.R_alloc | apply Kd.R_drewN | apply Kd.R_drew)); exact Kd.R_mono (Kd.R_far (p := ⟨gb105, 1, none⟩) (Kd.R_far (p := ⟨gb105, 0, none⟩) (Kd.R_types HO_107001.out BK105.out (by decide)) (fun _ hk => hk.2) (.int .i64 (a0.size : Int))) (fun _ hk => hk.2) (.slice Ao25 x107001_1.length co25)) (fun _ hk => trivial), by repeat (first | (with_reducible first | exact HB.out | apply below_alloc | apply pw_below_drewN | apply below_drew1 | refine below_set ?_ GE105.out | refine below_set ?_ GE106.out) | exact HB.out)⟩

def bitmap_size.f (a0 : Int) : Option (Int) := if (Int.tmod a0 64) = 0 then (some (wrap64 (Int.tdiv a0 64))) else (some (wrap64 ((wrap64 (Int.tdiv a0 64)) + 1)))
set_option maxHeartbeats 8000000 in
set_option maxRecDepth 100000 in
theorem bitmap_size.calls (a0 : Int) (r : Int) (w : World) (h : bitmap_size.f a0 = some r) :
    Calls Tryd.prog 97 #[.int .i64 a0] w fun e w' => e = .returned (.int .i64 r) ∧ Drawn0 w w' := by
  have H : (if (Int.tmod a0 64) = 0 then (some (wrap64 (Int.tdiv a0 64))) else (some (wrap64 ((wrap64 (Int.tdiv a0 64)) + 1)))) = some r := h
  clear h
  by_cases c2 : (Int.tmod a0 64) = 0
  · rw [if_pos c2] at H
    have c2b0 : ((Int.tmod a0 64) == 0) = true := beq_iff_eq.mpr c2
    have c2b1 : ((Int.tmod a0 64) != 0) = false := bne_eq_false_iff_eq.mpr c2
    clear c2
    obtain rfl := Option.some.inj H
    go_enter Tryd.func97, Tryd.ntmps97
    go_wp2
    go_ret
    exact ⟨by first | rfl | (simp; done) | (simp [*]; done), by repeat (first | exact Drawn0.refl _ | apply Drawn0.step)⟩
  · rw [if_neg c2] at H
    have c2b0 : ((Int.tmod a0 64) == 0) = false := beq_eq_false_iff_ne.mpr c2
    have c2b1 : ((Int.tmod a0 64) != 0) = true := bne_iff_ne.mpr c2
    obtain rfl := Option.some.inj H
    go_enter Tryd.func97, Tryd.ntmps97
    go_wp2
    go_ret
    exact ⟨by first | rfl | (simp; done) | (simp [*]; done), by repeat (first | exact Drawn0.refl _ | apply Drawn0.step)⟩

def bitmap_tail.f (a0 : Int) : Option (Int) := if (Int.tmod a0 64) = 0 then (some 18446744073709551615) else (if 0 ≤ (Int.tmod a0 64) then (some (IntKind.u64.wrap ((shl .u64 1 (Int.tmod a0 64)) - 1))) else (none))
set_option maxHeartbeats 8000000 in
set_option maxRecDepth 100000 in
theorem bitmap_tail.calls (a0 : Int) (r : Int) (w : World) (h : bitmap_tail.f a0 = some r) :
    Calls Tryd.prog 98 #[.int .i64 a0] w fun e w' => e = .returned (.int .u64 r) ∧ Drawn0 w w' := by
  have H : (if (Int.tmod a0 64) = 0 then (some 18446744073709551615) else (if 0 ≤ (Int.tmod a0 64) then (some (IntKind.u64.wrap ((shl .u64 1 (Int.tmod a0 64)) - 1))) else (none))) = some r := h
  clear h
  by_cases c2 : (Int.tmod a0 64) = 0
  · rw [if_pos c2] at H
    have c2b0 : ((Int.tmod a0 64) == 0) = true := beq_iff_eq.mpr c2
    have c2b1 : ((Int.tmod a0 64) != 0) = false := bne_eq_false_iff_eq.mpr c2
    clear c2
    obtain rfl := Option.some.inj H
    go_enter Tryd.func98, Tryd.ntmps98
    go_wp2
    go_ret
    exact ⟨by first | rfl | (simp; done) | (simp [*]; done), by repeat (first | exact Drawn0.refl _ | apply Drawn0.step)⟩
  · rw [if_neg c2] at H
    have c2b0 : ((Int.tmod a0 64) == 0) = false := beq_eq_false_iff_ne.mpr c2
    have c2b1 : ((Int.tmod a0 64) != 0) = true := bne_iff_ne.mpr c2
    obtain ⟨ji3, hji3⟩ : ∃ j_ : Int, (Int.tmod a0 64) = j_ := ⟨_, rfl⟩
    replace H : (if 0 ≤ (ji3) then (some (IntKind.u64.wrap ((shl .u64 1 (ji3)) - 1))) else (none)) = some r := by first | (rw [hji3] at H; exact H) | (simp only [hji3] at H ⊢; exact H)
    (try rw [hji3] at c2b0)
    (try rw [hji3] at c2b1)
    by_cases c4 : 0 ≤ (ji3)
    · rw [if_pos c4] at H
      have c4b0 := eq_true c4
      have c4b1 : decide (0 ≤ (ji3)) = true := decide_eq_true c4
      clear c4
      obtain ⟨ji5, hji5⟩ : ∃ j_ : Int, (shl .u64 1 (ji3)) = j_ := ⟨_, rfl⟩
      replace H : (some (IntKind.u64.wrap ((ji5) - 1))) = some r := by first | (rw [hji5] at H; exact H) | (simp only [hji5] at H ⊢; exact H)
      have hji5_ : (IntKind.u64.wrap (1 * 2 ^ min (ji3).toNat 64)) = ji5 := hji5
      have hji5z : (ji3) ≤ 64 → (IntKind.u64.wrap (1 * 2 ^ (ji3).toNat)) = ji5 := shl_small hji5
      have hji5u : (IntKind.u64.wrap (2 ^ min (ji3).toNat 64)) = ji5 := by have h_ := hji5_; rw [Int.one_mul] at h_; exact h_
      have hji5v : (ji3) ≤ 64 → (IntKind.u64.wrap (2 ^ (ji3).toNat)) = ji5 := fun hle_ => by have h_ := hji5z hle_; rw [Int.one_mul] at h_; exact h_
      obtain rfl := Option.some.inj H
      go_enter Tryd.func98, Tryd.ntmps98
      go_wp2
      go_ret
      exact ⟨by first | rfl | (simp; done) | (simp only [← hji3, ← hji5] <;> (first | rfl | simp)) | (simp [*]; done), by repeat (first | exact Drawn0.refl _ | apply Drawn0.step)⟩
    · rw [if_neg c4] at H
      exact absurd H (by simp)

def bitmap_Formed.f (a0_0 : Int) (l0_1 : List Int) : Option (Bool) := if a0_0 < 0 then (some false) else ((bitmap_size.f a0_0).bind fun t116 => (if (l0_1.length : Int) = t116 then (if a0_0 = 0 then (some true) else (if 0 ≤ (wrap64 ((l0_1.length : Int) - 1)) then (if (wrap64 ((l0_1.length : Int) - 1)) < (l0_1.length : Int) then ((bitmap_tail.f a0_0).bind fun t118 => (some ((Go.bits .andNot .u64 (rd l0_1 (wrap64 ((l0_1.length : Int) - 1))) t118) == 0))) else (none)) else (none))) else (some false)))
set_option maxHeartbeats 8000000 in
set_option maxRecDepth 100000 in
theorem bitmap_Formed.calls (a0_0 : Int) (A0_1 : Option Addr) (c0_1 : Nat) (l0_1 : List Int) (r : Bool) (w : World) (hr0_1 : Kd.C (Kd.int .u64) w A0_1 l0_1.length l0_1) (hc0_1 : l0_1.length ≤ c0_1) (h : bitmap_Formed.f a0_0 l0_1 = some r) :
    Calls Tryd.prog 61 #[.agg #[.int .i64 a0_0, .slice A0_1 l0_1.length c0_1]] w fun e w' => e = .returned (.bool r) ∧ Below w.heap.size w w' := by
  have hu34 := Tryd.underlying34
  have HR0_1 := Aside0.mk hr0_1
  have HC0_1 := Aside0.mk hc0_1
  clear hr0_1 hc0_1
  have HB := Aside0.mk (Below.refl w.heap.size w)
  have H : (if a0_0 < 0 then (some false) else ((bitmap_size.f a0_0).bind fun t116 => (if (l0_1.length : Int) = t116 then (if a0_0 = 0 then (some true) else (if 0 ≤ (wrap64 ((l0_1.length : Int) - 1)) then (if (wrap64 ((l0_1.length : Int) - 1)) < (l0_1.length : Int) then ((bitmap_tail.f a0_0).bind fun t118 => (some ((Go.bits .andNot .u64 (rd l0_1 (wrap64 ((l0_1.length : Int) - 1))) t118) == 0))) else (none)) else (none))) else (some false)))) = some r := h
  clear h
  by_cases c2 : a0_0 < 0
  · rw [if_pos c2] at H
    have c2b0 : decide (a0_0 < 0) = true := decide_eq_true c2
    clear c2
    obtain rfl := Option.some.inj H
    go_enter Tryd.func61, Tryd.ntmps61
    go_wp2_with (first | ((with_reducible refine gate_dst (N := 1) rfl ?_); (try (refine gate_guard (by rfl) ?_; dsimp only)); refine box_event ?hg (N := 1) ?hd (cs := #[.int .i64 a0_0, .slice A0_1 l0_1.length c0_1]) (t := 34) ?hr ?_; (case hd => rfl); (case hg => rfl); (case hr => first | (go_simp; done) | (go_simp; rfl)); intro gb115 hg w3 hbox hb; have n0_ := Aside0.mk (below_step (by repeat (first | (with_reducible first | exact HB.out | apply below_alloc | apply pw_below_drewN | apply below_drew1) | exact HB.out)) hb); have n1_ := Aside0.mk (hbox); have n2_ := Aside0.mk ((by rw [hg]; exact (below_size (by repeat (first | (with_reducible first | exact HB.out | apply below_alloc | apply pw_below_drewN | apply below_drew1) | exact HB.out))) : w.heap.size ≤ gb115)); have n3_ := Aside0.mk ((by rw [hg]; exact (below_size (by repeat (first | (with_reducible first | exact HB.out | apply below_alloc | apply pw_below_drewN | apply below_drew1) | exact HB.out))) : w.heap.size ≤ gb115)); clear HB; have HB := n0_; have BK115 := n1_; have GW115 := n2_; have GE115 := n3_; clear n0_ n1_ n2_ n3_; clear hb hbox hg; have hcz4_0 : w3.cell? ⟨gb115, 0, none⟩ = some (.int .i64 a0_0) := (blk_cell BK115.out 0).trans rfl; have hcz4_1 : w3.cell? ⟨gb115, 1, none⟩ = some (.slice A0_1 l0_1.length c0_1) := (blk_cell BK115.out 1).trans rfl; have hfz4_0 := blk_frozen BK115.out 0; have hfz4_1 := blk_frozen BK115.out 1))
    repeat (go_quiet (first | ((with_reducible refine gate_dst (N := 1) rfl ?_); (try (refine gate_guard (by rfl) ?_; dsimp only)); refine box_event ?hg (N := 1) ?hd (cs := #[.int .i64 a0_0, .slice A0_1 l0_1.length c0_1]) (t := 34) ?hr ?_; (case hd => rfl); (case hg => rfl); (case hr => first | (go_simp; done) | (go_simp; rfl)); intro gb115 hg w3 hbox hb; have n0_ := Aside0.mk (below_step (by repeat (first | (with_reducible first | exact HB.out | apply below_alloc | apply pw_below_drewN | apply below_drew1) | exact HB.out)) hb); have n1_ := Aside0.mk (hbox); have n2_ := Aside0.mk ((by rw [hg]; exact (below_size (by repeat (first | (with_reducible first | exact HB.out | apply below_alloc | apply pw_below_drewN | apply below_drew1) | exact HB.out))) : w.heap.size ≤ gb115)); have n3_ := Aside0.mk ((by rw [hg]; exact (below_size (by repeat (first | (with_reducible first | exact HB.out | apply below_alloc | apply pw_below_drewN | apply below_drew1) | exact HB.out))) : w.heap.size ≤ gb115)); clear HB; have HB := n0_; have BK115 := n1_; have GW115 := n2_; have GE115 := n3_; clear n0_ n1_ n2_ n3_; clear hb hbox hg; have hcz4_0 : w3.cell? ⟨gb115, 0, none⟩ = some (.int .i64 a0_0) := (blk_cell BK115.out 0).trans rfl; have hcz4_1 : w3.cell? ⟨gb115, 1, none⟩ = some (.slice A0_1 l0_1.length c0_1) := (blk_cell BK115.out 1).trans rfl; have hfz4_0 := blk_frozen BK115.out 0; have hfz4_1 := blk_frozen BK115.out 1)); try go_wp2_with (first | ((with_reducible refine gate_dst (N := 1) rfl ?_); (try (refine gate_guard (by rfl) ?_; dsimp only)); refine box_event ?hg (N := 1) ?hd (cs := #[.int .i64 a0_0, .slice A0_1 l0_1.length c0_1]) (t := 34) ?hr ?_; (case hd => rfl); (case hg => rfl); (case hr => first | (go_simp; done) | (go_simp; rfl)); intro gb115 hg w3 hbox hb; have n0_ := Aside0.mk (below_step (by repeat (first | (with_reducible first | exact HB.out | apply below_alloc | apply pw_below_drewN | apply below_drew1) | exact HB.out)) hb); have n1_ := Aside0.mk (hbox); have n2_ := Aside0.mk ((by rw [hg]; exact (below_size (by repeat (first | (with_reducible first | exact HB.out | apply below_alloc | apply pw_below_drewN | apply below_drew1) | exact HB.out))) : w.heap.size ≤ gb115)); have n3_ := Aside0.mk ((by rw [hg]; exact (below_size (by repeat (first | (with_reducible first | exact HB.out | apply below_alloc | apply pw_below_drewN | apply below_drew1) | exact HB.out))) : w.heap.size ≤ gb115)); clear HB; have HB := n0_; have BK115 := n1_; have GW115 := n2_; have GE115 := n3_; clear n0_ n1_ n2_ n3_; clear hb hbox hg; have hcz4_0 : w3.cell? ⟨gb115, 0, none⟩ = some (.int .i64 a0_0) := (blk_cell BK115.out 0).trans rfl; have hcz4_1 : w3.cell? ⟨gb115, 1, none⟩ = some (.slice A0_1 l0_1.length c0_1) := (blk_cell BK115.out 1).trans rfl; have hfz4_0 := blk_frozen BK115.out 0; have hfz4_1 := blk_frozen BK115.out 1)))
    go_ret
    exact ⟨by first | rfl | (simp [errW_none, errW_some] <;> rfl) | (simp [*, errW_none, errW_some] <;> rfl), by repeat (first | (with_reducible first | exact HB.out | apply below_alloc | apply pw_below_drewN | apply below_drew1 | refine below_set ?_ GE115.out) | exact HB.out)⟩
  · rw [if_neg c2] at H
    have c2b0 : decide (a0_0 < 0) = false := decide_eq_false c2
    clear c2
    replace H := Option.bind_eq_some_iff.mp H
    obtain ⟨t116, A50, H⟩ := H
    replace H : (if (l0_1.length : Int) = t116 then (if a0_0 = 0 then (some true) else (if 0 ≤ (wrap64 ((l0_1.length : Int) - 1)) then (if (wrap64 ((l0_1.length : Int) - 1)) < (l0_1.length : Int) then ((bitmap_tail.f a0_0).bind fun t118 => (some ((Go.bits .andNot .u64 (rd l0_1 (wrap64 ((l0_1.length : Int) - 1))) t118) == 0))) else (none)) else (none))) else (some false)) = some r := H
    have A5 := Aside0.mk A50
    clear A50
    by_cases c6 : (l0_1.length : Int) = t116
    · rw [if_pos c6] at H
      have c6b0 : ((l0_1.length : Int) == t116) = true := beq_iff_eq.mpr c6
      have c6b1 : ((l0_1.length : Int) != t116) = false := bne_eq_false_iff_eq.mpr c6
      clear c6
      by_cases c7 : a0_0 = 0
      · rw [if_pos c7] at H
        have c7b0 : (a0_0 == 0) = true := beq_iff_eq.mpr c7
        have c7b1 : (a0_0 != 0) = false := bne_eq_false_iff_eq.mpr c7
        clear c7
        obtain rfl := Option.some.inj H
        go_enter Tryd.func61, Tryd.ntmps61
        go_wp2_with (first | ((with_reducible refine gate_dst (N := 1) rfl ?_); (try (refine gate_guard (by rfl) ?_; dsimp only)); refine box_event ?hg (N := 1) ?hd (cs := #[.int .i64 a0_0, .slice A0_1 l0_1.length c0_1]) (t := 34) ?hr ?_; (case hd => rfl); (case hg => rfl); (case hr => first | (go_simp; done) | (go_simp; rfl)); intro gb115 hg w8 hbox hb; have n0_ := Aside0.mk (below_step (by repeat (first | (with_reducible first | exact HB.out | apply below_alloc | apply pw_below_drewN | apply below_drew1) | exact HB.out)) hb); have n1_ := Aside0.mk (hbox); have n2_ := Aside0.mk ((by rw [hg]; exact (below_size (by repeat (first | (with_reducible first | exact HB.out | apply below_alloc | apply pw_below_drewN | apply below_drew1) | exact HB.out))) : w.heap.size ≤ gb115)); have n3_ := Aside0.mk ((by rw [hg]; exact (below_size (by repeat (first | (with_reducible first | exact HB.out | apply below_alloc | apply pw_below_drewN | apply below_drew1) | exact HB.out))) : w.heap.size ≤ gb115)); clear HB; have HB := n0_; have BK115 := n1_; have GW115 := n2_; have GE115 := n3_; clear n0_ n1_ n2_ n3_; clear hb hbox hg; have hcz9_0 : w8.cell? ⟨gb115, 0, none⟩ = some (.int .i64 a0_0) := (blk_cell BK115.out 0).trans rfl; have hcz9_1 : w8.cell? ⟨gb115, 1, none⟩ = some (.slice A0_1 l0_1.length c0_1) := (blk_cell BK115.out 1).trans rfl; have hfz9_0 := blk_frozen BK115.out 0; have hfz9_1 := blk_frozen BK115.out 1) | (go_at_call 97; (with_reducible refine (bitmap_size.calls a0_0 t116 _ A5.out).mono ?_); rintro e w' ⟨rfl, ⟨nd, rfl⟩⟩; (try first | exact ⟨rfl, _, World.drewN_drewN _ _ _⟩ | exact ⟨rfl, _, Eq.trans (World.drewN_drewN _ _ _) (congrArg (World.drewN _) (Nat.add_assoc _ _ _))⟩)))
        repeat (go_quiet (first | ((with_reducible refine gate_dst (N := 1) rfl ?_); (try (refine gate_guard (by rfl) ?_; dsimp only)); refine box_event ?hg (N := 1) ?hd (cs := #[.int .i64 a0_0, .slice A0_1 l0_1.length c0_1]) (t := 34) ?hr ?_; (case hd => rfl); (case hg => rfl); (case hr => first | (go_simp; done) | (go_simp; rfl)); intro gb115 hg w8 hbox hb; have n0_ := Aside0.mk (below_step (by repeat (first | (with_reducible first | exact HB.out | apply below_alloc | apply pw_below_drewN | apply below_drew1) | exact HB.out)) hb); have n1_ := Aside0.mk (hbox); have n2_ := Aside0.mk ((by rw [hg]; exact (below_size (by repeat (first | (with_reducible first | exact HB.out | apply below_alloc | apply pw_below_drewN | apply below_drew1) | exact HB.out))) : w.heap.size ≤ gb115)); have n3_ := Aside0.mk ((by rw [hg]; exact (below_size (by repeat (first | (with_reducible first | exact HB.out | apply below_alloc | apply pw_below_drewN | apply below_drew1) | exact HB.out))) : w.heap.size ≤ gb115)); clear HB; have HB := n0_; have BK115 := n1_; have GW115 := n2_; have GE115 := n3_; clear n0_ n1_ n2_ n3_; clear hb hbox hg; have hcz9_0 : w8.cell? ⟨gb115, 0, none⟩ = some (.int .i64 a0_0) := (blk_cell BK115.out 0).trans rfl; have hcz9_1 : w8.cell? ⟨gb115, 1, none⟩ = some (.slice A0_1 l0_1.length c0_1) := (blk_cell BK115.out 1).trans rfl; have hfz9_0 := blk_frozen BK115.out 0; have hfz9_1 := blk_frozen BK115.out 1) | (go_at_call 97; (with_reducible refine (bitmap_size.calls a0_0 t116 _ A5.out).mono ?_); rintro e w' ⟨rfl, ⟨nd, rfl⟩⟩; (try first | exact ⟨rfl, _, World.drewN_drewN _ _ _⟩ | exact ⟨rfl, _, Eq.trans (World.drewN_drewN _ _ _) (congrArg (World.drewN _) (Nat.add_assoc _ _ _))⟩))); try go_wp2_with (first | ((with_reducible refine gate_dst (N := 1) rfl ?_); (try (refine gate_guard (by rfl) ?_; dsimp only)); refine box_event ?hg (N := 1) ?hd (cs := #[.int .i64 a0_0, .slice A0_1 l0_1.length c0_1]) (t := 34) ?hr ?_; (case hd => rfl); (case hg => rfl); (case hr => first | (go_simp; done) | (go_simp; rfl)); intro gb115 hg w8 hbox hb; have n0_ := Aside0.mk (below_step (by repeat (first | (with_reducible first | exact HB.out | apply below_alloc | apply pw_below_drewN | apply below_drew1) | exact HB.out)) hb); have n1_ := Aside0.mk (hbox); have n2_ := Aside0.mk ((by rw [hg]; exact (below_size (by repeat (first | (with_reducible first | exact HB.out | apply below_alloc | apply pw_below_drewN | apply below_drew1) | exact HB.out))) : w.heap.size ≤ gb115)); have n3_ := Aside0.mk ((by rw [hg]; exact (below_size (by repeat (first | (with_reducible first | exact HB.out | apply below_alloc | apply pw_below_drewN | apply below_drew1) | exact HB.out))) : w.heap.size ≤ gb115)); clear HB; have HB := n0_; have BK115 := n1_; have GW115 := n2_; have GE115 := n3_; clear n0_ n1_ n2_ n3_; clear hb hbox hg; have hcz9_0 : w8.cell? ⟨gb115, 0, none⟩ = some (.int .i64 a0_0) := (blk_cell BK115.out 0).trans rfl; have hcz9_1 : w8.cell? ⟨gb115, 1, none⟩ = some (.slice A0_1 l0_1.length c0_1) := (blk_cell BK115.out 1).trans rfl; have hfz9_0 := blk_frozen BK115.out 0; have hfz9_1 := blk_frozen BK115.out 1) | (go_at_call 97; (with_reducible refine (bitmap_size.calls a0_0 t116 _ A5.out).mono ?_); rintro e w' ⟨rfl, ⟨nd, rfl⟩⟩; (try first | exact ⟨rfl, _, World.drewN_drewN _ _ _⟩ | exact ⟨rfl, _, Eq.trans (World.drewN_drewN _ _ _) (congrArg (World.drewN _) (Nat.add_assoc _ _ _))⟩))))
        go_ret
        exact ⟨by first | rfl | (simp [errW_none, errW_some] <;> rfl) | (simp [*, errW_none, errW_some] <;> rfl), by repeat (first | (with_reducible first | exact HB.out | apply below_alloc | apply pw_below_drewN | apply below_drew1 | refine below_set ?_ GE115.out) | exact HB.out)⟩
      · rw [if_neg c7] at H
        have c7b0 : (a0_0 == 0) = false := beq_eq_false_iff_ne.mpr c7
        have c7b1 : (a0_0 != 0) = true := bne_iff_ne.mpr c7
        obtain ⟨ji10, hji10⟩ : ∃ j_ : Int, (wrap64 ((l0_1.length : Int) - 1)) = j_ := ⟨_, rfl⟩
        replace H : (if 0 ≤ (ji10) then (if (ji10) < (l0_1.length : Int) then ((bitmap_tail.f a0_0).bind fun t118 => (some ((Go.bits .andNot .u64 (rd l0_1 (ji10)) t118) == 0))) else (none)) else (none)) = some r := by first | (rw [hji10] at H; exact H) | (simp only [hji10] at H ⊢; exact H)
        (try rw [hji10] at A5)
        have hji10w : (IntKind.i64.wrap ((l0_1.length : Int) - 1)) = ji10 := (i64_w _).trans hji10
        by_cases c11 : 0 ≤ (ji10)
        · rw [if_pos c11] at H
          have c11b0 : decide (0 ≤ (ji10)) = true := decide_eq_true c11
          clear c11
          by_cases c12 : (ji10) < (l0_1.length : Int)
          · rw [if_pos c12] at H
            have c12b0 : decide ((ji10) < (l0_1.length : Int)) = true := decide_eq_true c12
            clear c12
            replace H := Option.bind_eq_some_iff.mp H
            obtain ⟨t118, A130, H⟩ := H
            replace H : (some ((Go.bits .andNot .u64 (rd l0_1 (ji10)) t118) == 0)) = some r := H
            have A13 := Aside0.mk A130
            clear A130
            obtain rfl := Option.some.inj H
            go_enter Tryd.func61, Tryd.ntmps61
            go_wp2_with (first | ((with_reducible refine gate_dst (N := 1) rfl ?_); (try (refine gate_guard (by rfl) ?_; dsimp only)); refine box_event ?hg (N := 1) ?hd (cs := #[.int .i64 a0_0, .slice A0_1 l0_1.length c0_1]) (t := 34) ?hr ?_; (case hd => rfl); (case hg => rfl); (case hr => first | (go_simp; done) | (go_simp; rfl)); intro gb115 hg w14 hbox hb; have n0_ := Aside0.mk (below_step (by repeat (first | (with_reducible first | exact HB.out | apply below_alloc | apply pw_below_drewN | apply below_drew1) | exact HB.out)) hb); have n1_ := Aside0.mk (hbox); have n2_ := Aside0.mk ((by rw [hg]; exact (below_size (by repeat (first | (with_reducible first | exact HB.out | apply below_alloc | apply pw_below_drewN | apply below_drew1) | exact HB.out))) : w.heap.size ≤ gb115)); have n3_ := Aside0.mk ((by rw [hg]; exact (below_size (by repeat (first | (with_reducible first | exact HB.out | apply below_alloc | apply pw_below_drewN | apply below_drew1) | exact HB.out))) : w.heap.size ≤ gb115)); clear HB; have HB := n0_; have BK115 := n1_; have GW115 := n2_; have GE115 := n3_; clear n0_ n1_ n2_ n3_; clear hb hbox hg; have hcz15_0 : w14.cell? ⟨gb115, 0, none⟩ = some (.int .i64 a0_0) := (blk_cell BK115.out 0).trans rfl; have hcz15_1 : w14.cell? ⟨gb115, 1, none⟩ = some (.slice A0_1 l0_1.length c0_1) := (blk_cell BK115.out 1).trans rfl; have hfz15_0 := blk_frozen BK115.out 0; have hfz15_1 := blk_frozen BK115.out 1) | (go_at_call 97; (with_reducible refine (bitmap_size.calls a0_0 t116 _ A5.out).mono ?_); rintro e w' ⟨rfl, ⟨nd, rfl⟩⟩; (try first | exact ⟨rfl, _, World.drewN_drewN _ _ _⟩ | exact ⟨rfl, _, Eq.trans (World.drewN_drewN _ _ _) (congrArg (World.drewN _) (Nat.add_assoc _ _ _))⟩); have p117 : 0 ≤ ((ji10) : Int) := of_decide_eq_true (by first | (with_reducible assumption) | assumption); have q117 : (ji10) < (l0_1.length : Int) := of_decide_eq_true (by first | (with_reducible assumption) | assumption); obtain ⟨ad117, e117, hx117_0⟩ := Kd.at_int HR0_1.out (ji10) p117 q117; cases e117; replace hx117_0 := (HB.out.cell (World.block_lt_of_cell? w _ hx117_0)).trans hx117_0; replace p117 := eq_true p117; replace q117 := eq_true q117) | (go_at_call 98; (with_reducible refine (bitmap_tail.calls a0_0 t118 _ A13.out).mono ?_); rintro e w' ⟨rfl, ⟨nd, rfl⟩⟩; (try first | exact ⟨rfl, _, World.drewN_drewN _ _ _⟩ | exact ⟨rfl, _, Eq.trans (World.drewN_drewN _ _ _) (congrArg (World.drewN _) (Nat.add_assoc _ _ _))⟩)))
            repeat (go_quiet (first | ((with_reducible refine gate_dst (N := 1) rfl ?_); (try (refine gate_guard (by rfl) ?_; dsimp only)); refine box_event ?hg (N := 1) ?hd (cs := #[.int .i64 a0_0, .slice A0_1 l0_1.length c0_1]) (t := 34) ?hr ?_; (case hd => rfl); (case hg => rfl); (case hr => first | (go_simp; done) | (go_simp; rfl)); intro gb115 hg w14 hbox hb; have n0_ := Aside0.mk (below_step (by repeat (first | (with_reducible first | exact HB.out | apply below_alloc | apply pw_below_drewN | apply below_drew1) | exact HB.out)) hb); have n1_ := Aside0.mk (hbox); have n2_ := Aside0.mk ((by rw [hg]; exact (below_size (by repeat (first | (with_reducible first | exact HB.out | apply below_alloc | apply pw_below_drewN | apply below_drew1) | exact HB.out))) : w.heap.size ≤ gb115)); have n3_ := Aside0.mk ((by rw [hg]; exact (below_size (by repeat (first | (with_reducible first | exact HB.out | apply below_alloc | apply pw_below_drewN | apply below_drew1) | exact HB.out))) : w.heap.size ≤ gb115)); clear HB; have HB := n0_; have BK115 := n1_; have GW115 := n2_; have GE115 := n3_; clear n0_ n1_ n2_ n3_; clear hb hbox hg; have hcz15_0 : w14.cell? ⟨gb115, 0, none⟩ = some (.int .i64 a0_0) := (blk_cell BK115.out 0).trans rfl; have hcz15_1 : w14.cell? ⟨gb115, 1, none⟩ = some (.slice A0_1 l0_1.length c0_1) := (blk_cell BK115.out 1).trans rfl; have hfz15_0 := blk_frozen BK115.out 0; have hfz15_1 := blk_frozen BK115.out 1) | (go_at_call 97; (with_reducible refine (bitmap_size.calls a0_0 t116 _ A5.out).mono ?_); rintro e w' ⟨rfl, ⟨nd, rfl⟩⟩; (try first | exact ⟨rfl, _, World.drewN_drewN _ _ _⟩ | exact ⟨rfl, _, Eq.trans (World.drewN_drewN _ _ _) (congrArg (World.drewN _) (Nat.add_assoc _ _ _))⟩); have p117 : 0 ≤ ((ji10) : Int) := of_decide_eq_true (by first | (with_reducible assumption) | assumption); have q117 : (ji10) < (l0_1.length : Int) := of_decide_eq_true (by first | (with_reducible assumption) | assumption); obtain ⟨ad117, e117, hx117_0⟩ := Kd.at_int HR0_1.out (ji10) p117 q117; cases e117; replace hx117_0 := (HB.out.cell (World.block_lt_of_cell? w _ hx117_0)).trans hx117_0; replace p117 := eq_true p117; replace q117 := eq_true q117) | (go_at_call 98; (with_reducible refine (bitmap_tail.calls a0_0 t118 _ A13.out).mono ?_); rintro e w' ⟨rfl, ⟨nd, rfl⟩⟩; (try first | exact ⟨rfl, _, World.drewN_drewN _ _ _⟩ | exact ⟨rfl, _, Eq.trans (World.drewN_drewN _ _ _) (congrArg (World.drewN _) (Nat.add_assoc _ _ _))⟩))); try go_wp2_with (first | ((with_reducible refine gate_dst (N := 1) rfl ?_); (try (refine gate_guard (by rfl) ?_; dsimp only)); refine box_event ?hg (N := 1) ?hd (cs := #[.int .i64 a0_0, .slice A0_1 l0_1.length c0_1]) (t := 34) ?hr ?_; (case hd => rfl); (case hg => rfl); (case hr => first | (go_simp; done) | (go_simp; rfl)); intro gb115 hg w14 hbox hb; have n0_ := Aside0.mk (below_step (by repeat (first | (with_reducible first | exact HB.out | apply below_alloc | apply pw_below_drewN | apply below_drew1) | exact HB.out)) hb); have n1_ := Aside0.mk (hbox); have n2_ := Aside0.mk ((by rw [hg]; exact (below_size (by repeat (first | (with_reducible first | exact HB.out | apply below_alloc | apply pw_below_drewN | apply below_drew1) | exact HB.out))) : w.heap.size ≤ gb115)); have n3_ := Aside0.mk ((by rw [hg]; exact (below_size (by repeat (first | (with_reducible first | exact HB.out | apply below_alloc | apply pw_below_drewN | apply below_drew1) | exact HB.out))) : w.heap.size ≤ gb115)); clear HB; have HB := n0_; have BK115 := n1_; have GW115 := n2_; have GE115 := n3_; clear n0_ n1_ n2_ n3_; clear hb hbox hg; have hcz15_0 : w14.cell? ⟨gb115, 0, none⟩ = some (.int .i64 a0_0) := (blk_cell BK115.out 0).trans rfl; have hcz15_1 : w14.cell? ⟨gb115, 1, none⟩ = some (.slice A0_1 l0_1.length c0_1) := (blk_cell BK115.out 1).trans rfl; have hfz15_0 := blk_frozen BK115.out 0; have hfz15_1 := blk_frozen BK115.out 1) | (go_at_call 97; (with_reducible refine (bitmap_size.calls a0_0 t116 _ A5.out).mono ?_); rintro e w' ⟨rfl, ⟨nd, rfl⟩⟩; (try first | exact ⟨rfl, _, World.drewN_drewN _ _ _⟩ | exact ⟨rfl, _, Eq.trans (World.drewN_drewN _ _ _) (congrArg (World.drewN _) (Nat.add_assoc _ _ _))⟩); have p117 : 0 ≤ ((ji10) : Int) := of_decide_eq_true (by first | (with_reducible assumption) | assumption); have q117 : (ji10) < (l0_1.length : Int) := of_decide_eq_true (by first | (with_reducible assumption) | assumption); obtain ⟨ad117, e117, hx117_0⟩ := Kd.at_int HR0_1.out (ji10) p117 q117; cases e117; replace hx117_0 := (HB.out.cell (World.block_lt_of_cell? w _ hx117_0)).trans hx117_0; replace p117 := eq_true p117; replace q117 := eq_true q117) | (go_at_call 98; (with_reducible refine (bitmap_tail.calls a0_0 t118 _ A13.out).mono ?_); rintro e w' ⟨rfl, ⟨nd, rfl⟩⟩; (try first | exact ⟨rfl, _, World.drewN_drewN _ _ _⟩ | exact ⟨rfl, _, Eq.trans (World.drewN_drewN _ _ _) (congrArg (World.drewN _) (Nat.add_assoc _ _ _))⟩))))
            go_ret
            exact ⟨by first | rfl | (simp [errW_none, errW_some] <;> rfl) | (simp only [← hji10]; first | rfl | (simp [errW_none, errW_some] <;> rfl)) | (simp [*, errW_none, errW_some] <;> rfl), by repeat (first | (with_reducible first | exact HB.out | apply below_alloc | apply pw_below_drewN | apply below_drew1 | refine below_set ?_ GE115.out) | exact HB.out)⟩
          · rw [if_neg c12] at H
            exact absurd H (by simp)
        · rw [if_neg c11] at H
          exact absurd H (by simp)
    · rw [if_neg c6] at H
      have c6b0 : ((l0_1.length : Int) == t116) = false := beq_eq_false_iff_ne.mpr c6
      have c6b1 : ((l0_1.length : Int) != t116) = true := bne_iff_ne.mpr c6
      obtain rfl := Option.some.inj H
      go_enter Tryd.func61, Tryd.ntmps61
      go_wp2_with (first | ((with_reducible refine gate_dst (N := 1) rfl ?_); (try (refine gate_guard (by rfl) ?_; dsimp only)); refine box_event ?hg (N := 1) ?hd (cs := #[.int .i64 a0_0, .slice A0_1 l0_1.length c0_1]) (t := 34) ?hr ?_; (case hd => rfl); (case hg => rfl); (case hr => first | (go_simp; done) | (go_simp; rfl)); intro gb115 hg w16 hbox hb; have n0_ := Aside0.mk (below_step (by repeat (first | (with_reducible first | exact HB.out | apply below_alloc | apply pw_below_drewN | apply below_drew1) | exact HB.out)) hb); have n1_ := Aside0.mk (hbox); have n2_ := Aside0.mk ((by rw [hg]; exact (below_size (by repeat (first | (with_reducible first | exact HB.out | apply below_alloc | apply pw_below_drewN | apply below_drew1) | exact HB.out))) : w.heap.size ≤ gb115)); have n3_ := Aside0.mk ((by rw [hg]; exact (below_size (by repeat (first | (with_reducible first | exact HB.out | apply below_alloc | apply pw_below_drewN | apply below_drew1) | exact HB.out))) : w.heap.size ≤ gb115)); clear HB; have HB := n0_; have BK115 := n1_; have GW115 := n2_; have GE115 := n3_; clear n0_ n1_ n2_ n3_; clear hb hbox hg; have hcz17_0 : w16.cell? ⟨gb115, 0, none⟩ = some (.int .i64 a0_0) := (blk_cell BK115.out 0).trans rfl; have hcz17_1 : w16.cell? ⟨gb115, 1, none⟩ = some (.slice A0_1 l0_1.length c0_1) := (blk_cell BK115.out 1).trans rfl; have hfz17_0 := blk_frozen BK115.out 0; have hfz17_1 := blk_frozen BK115.out 1) | (go_at_call 97; (with_reducible refine (bitmap_size.calls a0_0 t116 _ A5.out).mono ?_); rintro e w' ⟨rfl, ⟨nd, rfl⟩⟩; (try first | exact ⟨rfl, _, World.drewN_drewN _ _ _⟩ | exact ⟨rfl, _, Eq.trans (World.drewN_drewN _ _ _) (congrArg (World.drewN _) (Nat.add_assoc _ _ _))⟩)))
      repeat (go_quiet (first | ((with_reducible refine gate_dst (N := 1) rfl ?_); (try (refine gate_guard (by rfl) ?_; dsimp only)); refine box_event ?hg (N := 1) ?hd (cs := #[.int .i64 a0_0, .slice A0_1 l0_1.length c0_1]) (t := 34) ?hr ?_; (case hd => rfl); (case hg => rfl); (case hr => first | (go_simp; done) | (go_simp; rfl)); intro gb115 hg w16 hbox hb; have n0_ := Aside0.mk (below_step (by repeat (first | (with_reducible first | exact HB.out | apply below_alloc | apply pw_below_drewN | apply below_drew1) | exact HB.out)) hb); have n1_ := Aside0.mk (hbox); have n2_ := Aside0.mk ((by rw [hg]; exact (below_size (by repeat (first | (with_reducible first | exact HB.out | apply below_alloc | apply pw_below_drewN | apply below_drew1) | exact HB.out))) : w.heap.size ≤ gb115)); have n3_ := Aside0.mk ((by rw [hg]; exact (below_size (by repeat (first | (with_reducible first | exact HB.out | apply below_alloc | apply pw_below_drewN | apply below_drew1) | exact HB.out))) : w.heap.size ≤ gb115)); clear HB; have HB := n0_; have BK115 := n1_; have GW115 := n2_; have GE115 := n3_; clear n0_ n1_ n2_ n3_; clear hb hbox hg; have hcz17_0 : w16.cell? ⟨gb115, 0, none⟩ = some (.int .i64 a0_0) := (blk_cell BK115.out 0).trans rfl; have hcz17_1 : w16.cell? ⟨gb115, 1, none⟩ = some (.slice A0_1 l0_1.length c0_1) := (blk_cell BK115.out 1).trans rfl; have hfz17_0 := blk_frozen BK115.out 0; have hfz17_1 := blk_frozen BK115.out 1) | (go_at_call 97; (with_reducible refine (bitmap_size.calls a0_0 t116 _ A5.out).mono ?_); rintro e w' ⟨rfl, ⟨nd, rfl⟩⟩; (try first | exact ⟨rfl, _, World.drewN_drewN _ _ _⟩ | exact ⟨rfl, _, Eq.trans (World.drewN_drewN _ _ _) (congrArg (World.drewN _) (Nat.add_assoc _ _ _))⟩))); try go_wp2_with (first | ((with_reducible refine gate_dst (N := 1) rfl ?_); (try (refine gate_guard (by rfl) ?_; dsimp only)); refine box_event ?hg (N := 1) ?hd (cs := #[.int .i64 a0_0, .slice A0_1 l0_1.length c0_1]) (t := 34) ?hr ?_; (case hd => rfl); (case hg => rfl); (case hr => first | (go_simp; done) | (go_simp; rfl)); intro gb115 hg w16 hbox hb; have n0_ := Aside0.mk (below_step (by repeat (first | (with_reducible first | exact HB.out | apply below_alloc | apply pw_below_drewN | apply below_drew1) | exact HB.out)) hb); have n1_ := Aside0.mk (hbox); have n2_ := Aside0.mk ((by rw [hg]; exact (below_size (by repeat (first | (with_reducible first | exact HB.out | apply below_alloc | apply pw_below_drewN | apply below_drew1) | exact HB.out))) : w.heap.size ≤ gb115)); have n3_ := Aside0.mk ((by rw [hg]; exact (below_size (by repeat (first | (with_reducible first | exact HB.out | apply below_alloc | apply pw_below_drewN | apply below_drew1) | exact HB.out))) : w.heap.size ≤ gb115)); clear HB; have HB := n0_; have BK115 := n1_; have GW115 := n2_; have GE115 := n3_; clear n0_ n1_ n2_ n3_; clear hb hbox hg; have hcz17_0 : w16.cell? ⟨gb115, 0, none⟩ = some (.int .i64 a0_0) := (blk_cell BK115.out 0).trans rfl; have hcz17_1 : w16.cell? ⟨gb115, 1, none⟩ = some (.slice A0_1 l0_1.length c0_1) := (blk_cell BK115.out 1).trans rfl; have hfz17_0 := blk_frozen BK115.out 0; have hfz17_1 := blk_frozen BK115.out 1) | (go_at_call 97; (with_reducible refine (bitmap_size.calls a0_0 t116 _ A5.out).mono ?_); rintro e w' ⟨rfl, ⟨nd, rfl⟩⟩; (try first | exact ⟨rfl, _, World.drewN_drewN _ _ _⟩ | exact ⟨rfl, _, Eq.trans (World.drewN_drewN _ _ _) (congrArg (World.drewN _) (Nat.add_assoc _ _ _))⟩))))
      go_ret
      exact ⟨by first | rfl | (simp [errW_none, errW_some] <;> rfl) | (simp [*, errW_none, errW_some] <;> rfl), by repeat (first | (with_reducible first | exact HB.out | apply below_alloc | apply pw_below_drewN | apply below_drew1 | refine below_set ?_ GE115.out) | exact HB.out)⟩

def bitmap_Get.f (a0_0 : Int) (l0_1 : List Int) (a1 : Int) : Option (Bool) := (bitmap_Formed.f a0_0 l0_1).bind fun t120 => (if t120 = true then (if a1 ≥ 0 then (if a1 < a0_0 then (if 0 ≤ (wrap64 (Int.tdiv a1 64)) then (if (wrap64 (Int.tdiv a1 64)) < (l0_1.length : Int) then (if 0 ≤ (Int.tmod a1 64) then (some ((Go.bits .and .u64 (shr .u64 (rd l0_1 (wrap64 (Int.tdiv a1 64))) (Int.tmod a1 64)) 1) == 1)) else (none)) else (none)) else (none)) else (some false)) else (some false)) else (some false))
set_option maxHeartbeats 8000000 in
set_option maxRecDepth 100000 in
theorem bitmap_Get.calls (a0_0 : Int) (A0_1 : Option Addr) (c0_1 : Nat) (l0_1 : List Int) (a1 : Int) (r : Bool) (w : World) (hr0_1 : Kd.C (Kd.int .u64) w A0_1 l0_1.length l0_1) (hc0_1 : l0_1.length ≤ c0_1) (h : bitmap_Get.f a0_0 l0_1 a1 = some r) :
    Calls Tryd.prog 23 #[.agg #[.int .i64 a0_0, .slice A0_1 l0_1.length c0_1], .int .i64 a1] w fun e w' => e = .returned (.bool r) ∧ Below w.heap.size w w' := by
  have hu34 := Tryd.underlying34
  have HR0_1 := Aside0.mk hr0_1
  have HC0_1 := Aside0.mk hc0_1
  clear hr0_1 hc0_1
  have HB := Aside0.mk (Below.refl w.heap.size w)
  have H : ((bitmap_Formed.f a0_0 l0_1).bind fun t120 => (if t120 = true then (if a1 ≥ 0 then (if a1 < a0_0 then (if 0 ≤ (wrap64 (Int.tdiv a1 64)) then (if (wrap64 (Int.tdiv a1 64)) < (l0_1.length : Int) then (if 0 ≤ (Int.tmod a1 64) then (some ((Go.bits .and .u64 (shr .u64 (rd l0_1 (wrap64 (Int.tdiv a1 64))) (Int.tmod a1 64)) 1) == 1)) else (none)) else (none)) else (none)) else (some false)) else (some false)) else (some false))) = some r := h
  clear h
  replace H := Option.bind_eq_some_iff.mp H
  obtain ⟨t120, A30, H⟩ := H
  replace H : (if t120 = true then (if a1 ≥ 0 then (if a1 < a0_0 then (if 0 ≤ (wrap64 (Int.tdiv a1 64)) then (if (wrap64 (Int.tdiv a1 64)) < (l0_1.length : Int) then (if 0 ≤ (Int.tmod a1 64) then (some ((Go.bits .and .u64 (shr .u64 (rd l0_1 (wrap64 (Int.tdiv a1 64))) (Int.tmod a1 64)) 1) == 1)) else (none)) else (none)) else (none)) else (some false)) else (some false)) else (some false)) = some r := H
  have A3 := Aside0.mk A30
  clear A30
  by_cases c4 : t120 = true
  · subst c4
    have H1 : (if a1 ≥ 0 then (if a1 < a0_0 then (if 0 ≤ (wrap64 (Int.tdiv a1 64)) then (if (wrap64 (Int.tdiv a1 64)) < (l0_1.length : Int) then (if 0 ≤ (Int.tmod a1 64) then (some ((Go.bits .and .u64 (shr .u64 (rd l0_1 (wrap64 (Int.tdiv a1 64))) (Int.tmod a1 64)) 1) == 1)) else (none)) else (none)) else (none)) else (some false)) else (some false)) = some r := by rw [if_pos rfl] at H; exact H
    clear H
    have H := H1
    clear H1
    by_cases c5 : a1 ≥ 0
    · rw [if_pos c5] at H
      have c5b0 : decide (0 ≤ a1) = true := decide_eq_true c5
      clear c5
      by_cases c6 : a1 < a0_0
      · rw [if_pos c6] at H
        have c6b0 : decide (a1 < a0_0) = true := decide_eq_true c6
        clear c6
        obtain ⟨ji7, hji7⟩ : ∃ j_ : Int, (wrap64 (Int.tdiv a1 64)) = j_ := ⟨_, rfl⟩
        replace H : (if 0 ≤ (ji7) then (if (ji7) < (l0_1.length : Int) then (if 0 ≤ (Int.tmod a1 64) then (some ((Go.bits .and .u64 (shr .u64 (rd l0_1 (ji7)) (Int.tmod a1 64)) 1) == 1)) else (none)) else (none)) else (none)) = some r := by first | (rw [hji7] at H; exact H) | (simp only [hji7] at H ⊢; exact H)
        (try rw [hji7] at A3)
        have hji7w : (IntKind.i64.wrap (Int.tdiv a1 64)) = ji7 := (i64_w _).trans hji7
        by_cases c8 : 0 ≤ (ji7)
        · rw [if_pos c8] at H
          have c8b0 : decide (0 ≤ (ji7)) = true := decide_eq_true c8
          clear c8
          by_cases c9 : (ji7) < (l0_1.length : Int)
          · rw [if_pos c9] at H
            have c9b0 : decide ((ji7) < (l0_1.length : Int)) = true := decide_eq_true c9
            clear c9
            obtain ⟨ji10, hji10⟩ : ∃ j_ : Int, (Int.tmod a1 64) = j_ := ⟨_, rfl⟩
            replace H : (if 0 ≤ (ji10) then (some ((Go.bits .and .u64 (shr .u64 (rd l0_1 (ji7)) (ji10)) 1) == 1)) else (none)) = some r := by first | (rw [hji10] at H; exact H) | (simp only [hji10] at H ⊢; exact H)
            (try rw [hji10] at A3)
            by_cases c11 : 0 ≤ (ji10)
            · rw [if_pos c11] at H
              have c11b0 := eq_true c11
              have c11b1 : decide (0 ≤ (ji10)) = true := decide_eq_true c11
              clear c11
              obtain ⟨ji12, hji12⟩ : ∃ j_ : Int, (shr .u64 (rd l0_1 (ji7)) (ji10)) = j_ := ⟨_, rfl⟩
              replace H : (some ((Go.bits .and .u64 (ji12) 1) == 1)) = some r := by first | (rw [hji12] at H; exact H) | (simp only [hji12] at H ⊢; exact H)
              (try rw [hji12] at A3)
              have hji12_ : ((rd l0_1 (ji7)) / 2 ^ min (ji10).toNat 64) = ji12 := hji12
              have hji12z : (ji10) ≤ 64 → ((rd l0_1 (ji7)) / 2 ^ (ji10).toNat) = ji12 := shr_small hji12
              obtain rfl := Option.some.inj H
              go_enter Tryd.func23, Tryd.ntmps23
              go_wp2_with (first | ((with_reducible refine gate_dst (N := 2) rfl ?_); refine box_event ?hg (N := 2) ?hd (cs := #[.int .i64 a0_0, .slice A0_1 l0_1.length c0_1]) (t := 34) ?hr ?_; (case hd => rfl); (case hg => rfl); (case hr => first | (go_simp; done) | (go_simp; rfl)); intro gb119 hg w13 hbox hb; have n0_ := Aside0.mk (below_step (by repeat (first | (with_reducible first | exact HB.out | apply below_alloc | apply pw_below_drewN | apply below_drew1) | exact HB.out)) hb); have n1_ := Aside0.mk (hbox); have n2_ := Aside0.mk ((by rw [hg]; exact (below_size (by repeat (first | (with_reducible first | exact HB.out | apply below_alloc | apply pw_below_drewN | apply below_drew1) | exact HB.out))) : w.heap.size ≤ gb119)); have n3_ := Aside0.mk ((by rw [hg]; exact (below_size (by repeat (first | (with_reducible first | exact HB.out | apply below_alloc | apply pw_below_drewN | apply below_drew1) | exact HB.out))) : w.heap.size ≤ gb119)); clear HB; have HB := n0_; have BK119 := n1_; have GW119 := n2_; have GE119 := n3_; clear n0_ n1_ n2_ n3_; clear hb hbox hg; have hcz14_0 : w13.cell? ⟨gb119, 0, none⟩ = some (.int .i64 a0_0) := (blk_cell BK119.out 0).trans rfl; have hcz14_1 : w13.cell? ⟨gb119, 1, none⟩ = some (.slice A0_1 l0_1.length c0_1) := (blk_cell BK119.out 1).trans rfl; have hfz14_0 := blk_frozen BK119.out 0; have hfz14_1 := blk_frozen BK119.out 1) | ((with_reducible refine gate_callee (f := 61) rfl ?_); refine goesL_ (some 6) rfl rfl Tryd.func61 (by kernel_rfl) rfl #[.agg #[.int .i64 a0_0, .slice A0_1 l0_1.length c0_1]] rfl (by (try simp only [List.map_toArray, List.map_cons, List.map_nil]); first | done | rfl | (simp only [List.length_drop, List.length_take]; rfl)) ?_; (with_reducible refine (bitmap_Formed.calls a0_0 _ _ l0_1 true _ ?side1 ?side2 A3.out).mono ?_); (case side1 => repeat (first | exact (Kd.C_below HR0_1.out HB.out) | (with_reducible refine Kd.C_alloc ?_ _) | (with_reducible refine Kd.C_drewN ?_ _) | (with_reducible refine Kd.C_drew ?_))); (case side2 => exact HC0_1.out); rintro e w15 ⟨rfl, hb⟩; refine ⟨_, rfl, ?_⟩; have n0_ := Aside0.mk (blk_below (g := gb119) (o := .cells #[.int .i64 a0_0, .slice A0_1 l0_1.length c0_1] 34 (0, 0)) (by (with_reducible repeat (first | refine blk_drewN ?_ _ | refine blk_drew ?_ | refine blk_alloc ?_ _)); exact BK119.out) hb); have n1_ := Aside0.mk (below_step (by repeat (first | (with_reducible first | exact HB.out | apply below_alloc | apply pw_below_drewN | apply below_drew1 | refine below_set ?_ GE119.out) | exact HB.out)) hb); clear BK119; clear HB; have BK119 := n0_; have HB := n1_; clear n0_ n1_; (try clear hb); (try clear hb2); (try clear hk); (try clear hi); have hcz16_0 : w15.cell? ⟨gb119, 0, none⟩ = some (.int .i64 a0_0) := (blk_cell BK119.out 0).trans rfl; have hcz16_1 : w15.cell? ⟨gb119, 1, none⟩ = some (.slice A0_1 l0_1.length c0_1) := (blk_cell BK119.out 1).trans rfl; have hfz16_0 := blk_frozen BK119.out 0; have hfz16_1 := blk_frozen BK119.out 1; have p121 : 0 ≤ ((ji7) : Int) := of_decide_eq_true (by first | (with_reducible assumption) | assumption); have q121 : (ji7) < (l0_1.length : Int) := of_decide_eq_true (by first | (with_reducible assumption) | assumption); obtain ⟨ad121, e121, hx121_0⟩ := Kd.at_int HR0_1.out (ji7) p121 q121; cases e121; replace hx121_0 := (HB.out.cell (World.block_lt_of_cell? w _ hx121_0)).trans hx121_0; replace p121 := eq_true p121; replace q121 := eq_true q121))
              go_ret
              exact ⟨by first | rfl | (simp [errW_none, errW_some] <;> rfl) | (simp only [← hji7, ← hji10, ← hji12]; first | rfl | (simp [errW_none, errW_some] <;> rfl)) | (simp [*, errW_none, errW_some] <;> rfl), by repeat (first | (with_reducible first | exact HB.out | apply below_alloc | apply pw_below_drewN | apply below_drew1 | refine below_set ?_ GE119.out) | exact HB.out)⟩
            · rw [if_neg c11] at H
              exact absurd H (by simp)
          · rw [if_neg c9] at H
            exact absurd H (by simp)
        · rw [if_neg c8] at H
          exact absurd H (by simp)
      · rw [if_neg c6] at H
        have c6b0 : decide (a1 < a0_0) = false := decide_eq_false c6
        clear c6
        obtain rfl := Option.some.inj H
        go_enter Tryd.func23, Tryd.ntmps23
        go_wp2_with (first | ((with_reducible refine gate_dst (N := 2) rfl ?_); refine box_event ?hg (N := 2) ?hd (cs := #[.int .i64 a0_0, .slice A0_1 l0_1.length c0_1]) (t := 34) ?hr ?_; (case hd => rfl); (case hg => rfl); (case hr => first | (go_simp; done) | (go_simp; rfl)); intro gb119 hg w17 hbox hb; have n0_ := Aside0.mk (below_step (by repeat (first | (with_reducible first | exact HB.out | apply below_alloc | apply pw_below_drewN | apply below_drew1) | exact HB.out)) hb); have n1_ := Aside0.mk (hbox); have n2_ := Aside0.mk ((by rw [hg]; exact (below_size (by repeat (first | (with_reducible first | exact HB.out | apply below_alloc | apply pw_below_drewN | apply below_drew1) | exact HB.out))) : w.heap.size ≤ gb119)); have n3_ := Aside0.mk ((by rw [hg]; exact (below_size (by repeat (first | (with_reducible first | exact HB.out | apply below_alloc | apply pw_below_drewN | apply below_drew1) | exact HB.out))) : w.heap.size ≤ gb119)); clear HB; have HB := n0_; have BK119 := n1_; have GW119 := n2_; have GE119 := n3_; clear n0_ n1_ n2_ n3_; clear hb hbox hg; have hcz18_0 : w17.cell? ⟨gb119, 0, none⟩ = some (.int .i64 a0_0) := (blk_cell BK119.out 0).trans rfl; have hcz18_1 : w17.cell? ⟨gb119, 1, none⟩ = some (.slice A0_1 l0_1.length c0_1) := (blk_cell BK119.out 1).trans rfl; have hfz18_0 := blk_frozen BK119.out 0; have hfz18_1 := blk_frozen BK119.out 1) | ((with_reducible refine gate_callee (f := 61) rfl ?_); refine goesL_ (some 6) rfl rfl Tryd.func61 (by kernel_rfl) rfl #[.agg #[.int .i64 a0_0, .slice A0_1 l0_1.length c0_1]] rfl (by (try simp only [List.map_toArray, List.map_cons, List.map_nil]); first | done | rfl | (simp only [List.length_drop, List.length_take]; rfl)) ?_; (with_reducible refine (bitmap_Formed.calls a0_0 _ _ l0_1 true _ ?side1 ?side2 A3.out).mono ?_); (case side1 => repeat (first | exact (Kd.C_below HR0_1.out HB.out) | (with_reducible refine Kd.C_alloc ?_ _) | (with_reducible refine Kd.C_drewN ?_ _) | (with_reducible refine Kd.C_drew ?_))); (case side2 => exact HC0_1.out); rintro e w19 ⟨rfl, hb⟩; refine ⟨_, rfl, ?_⟩; have n0_ := Aside0.mk (blk_below (g := gb119) (o := .cells #[.int .i64 a0_0, .slice A0_1 l0_1.length c0_1] 34 (0, 0)) (by (with_reducible repeat (first | refine blk_drewN ?_ _ | refine blk_drew ?_ | refine blk_alloc ?_ _)); exact BK119.out) hb); have n1_ := Aside0.mk (below_step (by repeat (first | (with_reducible first | exact HB.out | apply below_alloc | apply pw_below_drewN | apply below_drew1 | refine below_set ?_ GE119.out) | exact HB.out)) hb); clear BK119; clear HB; have BK119 := n0_; have HB := n1_; clear n0_ n1_; (try clear hb); (try clear hb2); (try clear hk); (try clear hi); have hcz20_0 : w19.cell? ⟨gb119, 0, none⟩ = some (.int .i64 a0_0) := (blk_cell BK119.out 0).trans rfl; have hcz20_1 : w19.cell? ⟨gb119, 1, none⟩ = some (.slice A0_1 l0_1.length c0_1) := (blk_cell BK119.out 1).trans rfl; have hfz20_0 := blk_frozen BK119.out 0; have hfz20_1 := blk_frozen BK119.out 1))
        go_ret
        exact ⟨by first | rfl | (simp [errW_none, errW_some] <;> rfl) | (simp [*, errW_none, errW_some] <;> rfl), by repeat (first | (with_reducible first | exact HB.out | apply below_alloc | apply pw_below_drewN | apply below_drew1 | refine below_set ?_ GE119.out) | exact HB.out)⟩
    · rw [if_neg c5] at H
      have c5b0 : decide (0 ≤ a1) = false := decide_eq_false c5
      clear c5
      obtain rfl := Option.some.inj H
      go_enter Tryd.func23, Tryd.ntmps23
      go_wp2_with (first | ((with_reducible refine gate_dst (N := 2) rfl ?_); refine box_event ?hg (N := 2) ?hd (cs := #[.int .i64 a0_0, .slice A0_1 l0_1.length c0_1]) (t := 34) ?hr ?_; (case hd => rfl); (case hg => rfl); (case hr => first | (go_simp; done) | (go_simp; rfl)); intro gb119 hg w21 hbox hb; have n0_ := Aside0.mk (below_step (by repeat (first | (with_reducible first | exact HB.out | apply below_alloc | apply pw_below_drewN | apply below_drew1) | exact HB.out)) hb); have n1_ := Aside0.mk (hbox); have n2_ := Aside0.mk ((by rw [hg]; exact (below_size (by repeat (first | (with_reducible first | exact HB.out | apply below_alloc | apply pw_below_drewN | apply below_drew1) | exact HB.out))) : w.heap.size ≤ gb119)); have n3_ := Aside0.mk ((by rw [hg]; exact (below_size (by repeat (first | (with_reducible first | exact HB.out | apply below_alloc | apply pw_below_drewN | apply below_drew1) | exact HB.out))) : w.heap.size ≤ gb119)); clear HB; have HB := n0_; have BK119 := n1_; have GW119 := n2_; have GE119 := n3_; clear n0_ n1_ n2_ n3_; clear hb hbox hg; have hcz22_0 : w21.cell? ⟨gb119, 0, none⟩ = some (.int .i64 a0_0) := (blk_cell BK119.out 0).trans rfl; have hcz22_1 : w21.cell? ⟨gb119, 1, none⟩ = some (.slice A0_1 l0_1.length c0_1) := (blk_cell BK119.out 1).trans rfl; have hfz22_0 := blk_frozen BK119.out 0; have hfz22_1 := blk_frozen BK119.out 1) | ((with_reducible refine gate_callee (f := 61) rfl ?_); refine goesL_ (some 6) rfl rfl Tryd.func61 (by kernel_rfl) rfl #[.agg #[.int .i64 a0_0, .slice A0_1 l0_1.length c0_1]] rfl (by (try simp only [List.map_toArray, List.map_cons, List.map_nil]); first | done | rfl | (simp only [List.length_drop, List.length_take]; rfl)) ?_; (with_reducible refine (bitmap_Formed.calls a0_0 _ _ l0_1 true _ ?side1 ?side2 A3.out).mono ?_); (case side1 => repeat (first | exact (Kd.C_below HR0_1.out HB.out) | (with_reducible refine Kd.C_alloc ?_ _) | (with_reducible refine Kd.C_drewN ?_ _) | (with_reducible refine Kd.C_drew ?_))); (case side2 => exact HC0_1.out); rintro e w23 ⟨rfl, hb⟩; refine ⟨_, rfl, ?_⟩; have n0_ := Aside0.mk (blk_below (g := gb119) (o := .cells #[.int .i64 a0_0, .slice A0_1 l0_1.length c0_1] 34 (0, 0)) (by (with_reducible repeat (first | refine blk_drewN ?_ _ | refine blk_drew ?_ | refine blk_alloc ?_ _)); exact BK119.out) hb); have n1_ := Aside0.mk (below_step (by repeat (first | (with_reducible first | exact HB.out | apply below_alloc | apply pw_below_drewN | apply below_drew1 | refine below_set ?_ GE119.out) | exact HB.out)) hb); clear BK119; clear HB; have BK119 := n0_; have HB := n1_; clear n0_ n1_; (try clear hb); (try clear hb2); (try clear hk); (try clear hi)))
      go_ret
      exact ⟨by first | rfl | (simp [errW_none, errW_some] <;> rfl) | (simp [*, errW_none, errW_some] <;> rfl), by repeat (first | (with_reducible first | exact HB.out | apply below_alloc | apply pw_below_drewN | apply below_drew1 | refine below_set ?_ GE119.out) | exact HB.out)⟩
  · replace c4 := Bool.eq_false_iff.mpr c4
    subst c4
    have H1 : (some false) = some r := by rw [if_neg (show ¬ (false = true) by decide)] at H; exact H
    clear H
    have H := H1
    clear H1
    obtain rfl := Option.some.inj H
    go_enter Tryd.func23, Tryd.ntmps23
    go_wp2_with (first | ((with_reducible refine gate_dst (N := 2) rfl ?_); refine box_event ?hg (N := 2) ?hd (cs := #[.int .i64 a0_0, .slice A0_1 l0_1.length c0_1]) (t := 34) ?hr ?_; (case hd => rfl); (case hg => rfl); (case hr => first | (go_simp; done) | (go_simp; rfl)); intro gb119 hg w24 hbox hb; have n0_ := Aside0.mk (below_step (by repeat (first | (with_reducible first | exact HB.out | apply below_alloc | apply pw_below_drewN | apply below_drew1) | exact HB.out)) hb); have n1_ := Aside0.mk (hbox); have n2_ := Aside0.mk ((by rw [hg]; exact (below_size (by repeat (first | (with_reducible first | exact HB.out | apply below_alloc | apply pw_below_drewN | apply below_drew1) | exact HB.out))) : w.heap.size ≤ gb119)); have n3_ := Aside0.mk ((by rw [hg]; exact (below_size (by repeat (first | (with_reducible first | exact HB.out | apply below_alloc | apply pw_below_drewN | apply below_drew1) | exact HB.out))) : w.heap.size ≤ gb119)); clear HB; have HB := n0_; have BK119 := n1_; have GW119 := n2_; have GE119 := n3_; clear n0_ n1_ n2_ n3_; clear hb hbox hg; have hcz25_0 : w24.cell? ⟨gb119, 0, none⟩ = some (.int .i64 a0_0) := (blk_cell BK119.out 0).trans rfl; have hcz25_1 : w24.cell? ⟨gb119, 1, none⟩ = some (.slice A0_1 l0_1.length c0_1) := (blk_cell BK119.out 1).trans rfl; have hfz25_0 := blk_frozen BK119.out 0; have hfz25_1 := blk_frozen BK119.out 1) | ((with_reducible refine gate_callee (f := 61) rfl ?_); refine goesL_ (some 6) rfl rfl Tryd.func61 (by kernel_rfl) rfl #[.agg #[.int .i64 a0_0, .slice A0_1 l0_1.length c0_1]] rfl (by (try simp only [List.map_toArray, List.map_cons, List.map_nil]); first | done | rfl | (simp only [List.length_drop, List.length_take]; rfl)) ?_; (with_reducible refine (bitmap_Formed.calls a0_0 _ _ l0_1 false _ ?side1 ?side2 A3.out).mono ?_); (case side1 => repeat (first | exact (Kd.C_below HR0_1.out HB.out) | (with_reducible refine Kd.C_alloc ?_ _) | (with_reducible refine Kd.C_drewN ?_ _) | (with_reducible refine Kd.C_drew ?_))); (case side2 => exact HC0_1.out); rintro e w26 ⟨rfl, hb⟩; refine ⟨_, rfl, ?_⟩; have n0_ := Aside0.mk (blk_below (g := gb119) (o := .cells #[.int .i64 a0_0, .slice A0_1 l0_1.length c0_1] 34 (0, 0)) (by (with_reducible repeat (first | refine blk_drewN ?_ _ | refine blk_drew ?_ | refine blk_alloc ?_ _)); exact BK119.out) hb); have n1_ := Aside0.mk (below_step (by repeat (first | (with_reducible first | exact HB.out | apply below_alloc | apply pw_below_drewN | apply below_drew1 | refine below_set ?_ GE119.out) | exact HB.out)) hb); clear BK119; clear HB; have BK119 := n0_; have HB := n1_; clear n0_ n1_; (try clear hb); (try clear hb2); (try clear hk); (try clear hi)))
    go_ret
    exact ⟨by first | rfl | (simp [errW_none, errW_some] <;> rfl) | (simp [*, errW_none, errW_some] <;> rfl), by repeat (first | (with_reducible first | exact HB.out | apply below_alloc | apply pw_below_drewN | apply below_drew1 | refine below_set ?_ GE119.out) | exact HB.out)⟩

section
open Go.Proofs.YtgddljealeklkaaDoorQ Go.Proofs.YtgddljealeklkaaDoorM Go.Shelf
attribute [local go_sem] Oper.semAt_some
/-- The first bytes, those apart whose bit is set. -/
def marks_Minify.l (s : ByteArray) (z : Int) (ws : List Int) : Nat → Option (List Int)
  | 0 => some []
  | i + 1 => (marks_Minify.l s z ws i).bind fun acc => (bitmap_Get.f z ws (i : Int)).bind fun t => some (if t then acc else acc ++ [bt s (i : Int)])
def marks_Minify.f (k : Nat) (a0 : ByteArray) : Option ByteArray := if a0.size ≤ 140737488351232 then (marks_Blanks.f k a0).bind fun b => (marks_Minify.l a0 b.1 b.2 a0.size).bind fun acc => some (strOfNums acc) else none
theorem marks_Minify.mono : ∀ a0 k, LeO (marks_Minify.f k a0) (marks_Minify.f (k + 1) a0) := by
  intro a0 k
  unfold marks_Minify.f
  refine LeO.ite ?_ (LeO.refl _)
  exact LeO.bind (marks_Blanks.mono _ _) (fun _ => LeO.refl _)
theorem marks_Minify.l_le (s : ByteArray) (z : Int) (ws : List Int) : ∀ (n : Nat) (a : List Int), marks_Minify.l s z ws n = some a → a.length ≤ n ∧ ∀ i, i < n → ∃ b t, marks_Minify.l s z ws i = some b ∧ bitmap_Get.f z ws (i : Int) = some t ∧ marks_Minify.l s z ws (i + 1) = some (if t then b else b ++ [bt s (i : Int)]) := by
  intro n
  induction n with
  | zero =>
    intro a h
    cases h
    exact ⟨Nat.le_refl _, fun i hi => absurd hi (Nat.not_lt_zero i)⟩
  | succ n ih =>
    intro a h
    have h0 := h
    unfold marks_Minify.l at h
    cases hb : marks_Minify.l s z ws n with
    | none => rw [hb] at h; cases h
    | some b =>
      rw [hb, Option.bind_some] at h
      cases ht : bitmap_Get.f z ws (n : Int) with
      | none => rw [ht] at h; cases h
      | some t =>
        rw [ht, Option.bind_some] at h
        simp only [Option.some.injEq] at h
        obtain ⟨h1, h2⟩ := ih b hb
        refine ⟨?_, fun i hi => ?_⟩
        · rw [← h]
          cases t <;> simp <;> omega
        · by_cases e : i = n
          · subst e
            exact ⟨b, t, hb, ht, by rw [h0, h]⟩
          · exact h2 i (by omega)
set_option maxHeartbeats 2000000 in
set_option maxRecDepth 100000 in
theorem marks_Minify.walk (k : Nat) (s : ByteArray) (w : World) (hs : s.size ≤ 140737488351232) (z : Int) (ws : List Int) (hB : marks_Blanks.f k s = some (z, ws)) (an : List Int) (hl : marks_Minify.l s z ws s.size = some an) :
    Calls Tryd.prog 27 #[.string s] w fun e w' => e = .returned (.string (strOfNums an)) ∧ Below w.heap.size w w' := by
  obtain ⟨F, hF⟩ : ∃ F, F = Fence.wide := ⟨_, rfl⟩
  have HF := Aside0.mk hF
  refine (callsIn_wide (n := 9)).1 ?_
  rw [← hF]
  clear hF
  have HB := BelowH.refl w
  have hro := wide_round HF
  have HBL := Aside0.mk hB
  have HLE := Aside0.mk (marks_Minify.l_le s z ws s.size an hl)
  have HAN := Aside0.mk hl
  have hs0 : (s.size : Int) ≤ 140737488351232 := by omega
  have HS := Aside0.mk hs
  clear hB hl
  have f1 := wide_fn HF 20
  have f2 := wide_fn HF 23
  refine callsIn_of_wp Tryd.func27 rfl (wide_fn HF _) ?_ (wide_round HF)
  simp only [Tryd.ntmps27, List.size_toArray, List.length_cons, List.length_nil, Nat.reduceAdd, Nat.reduceSub, Array.replicate_succ, Array.replicate_zero, List.push_toArray, List.append_toArray, List.nil_append, List.cons_append]
  gi_upto_region 2 with (first
    | (gi_at_call 20; refine (callsIn_of HF (marks_Blanks.calls k s z ws _ HBL.out)).mono ?_; rintro e w2 ⟨v1, rfl, hR, hb2⟩; have R2 := Kd.own_of_R hR; have V1 := Aside0.mk (row_one R2); obtain ⟨A1, c1, rfl⟩ := own_slice R2; have R3 := Aside0.mk R2; have HBn := HB.step hb2; clear HB hb2 hR R2; have HB := HBn; clear HBn)
    | ((with_reducible refine gate_dstIn (N := 3) rfl ?_); refine ev_allocIn HB rfl rfl (#[.int .i64 0, .slice none 0 0]) 34 ?hr ?_; (case hr => first | (go_simp; done) | (go_simp; rfl)); intro g3 w3 G_g3 GE_g3 B_g3 HBn K_g3 KO_w3; clear HB; have HB := HBn; clear HBn)
    | ((with_reducible refine gate_In (Op.store 34 (.tmp 3) (.tmp 7)) rfl ?_); refine ev_storeIn HB B_g3 GE_g3 rfl 34 _ _ rfl rfl rfl (by kernel_rfl) rfl (by simp [Value.oneCell']) ?_; intro w4 B3 HBn K4 KO4; clear HB; have HB := HBn; clear HBn))
  have R4 := Aside0.mk (row_other (row_below R3.out K_g3.out) B_g3 (by decide) K4)
  clear R3 K_g3 B_g3 K4 KO4 G_g3 KO_w3
  gi_upto_region 3 with (first
    | ((with_reducible refine gate_dstIn (N := 10) rfl ?_); refine ev_makeIn HB rfl 37 5 _ _ (.int .u8 0) 1 1 s.size rfl rfl rfl Tryd.underlying37 (by kernel_rfl) (by have := HS.out; omega) (by have := HS.out; unfold maxLen; omega) ?_; intro gr w5 GR RO HBn K_gr KO5; clear HB; have HB := HBn; clear HBn))
  have B35 := B3.below K_gr.out
  have R5 := Aside0.mk (row_below R4.out K_gr.out)
  clear R4 B3 K_gr GR KO5
  gi_wp2
  gi_loopw [4, 13] (fun v4 v13 wr => ∃ (i : Nat) (acc : List Int), v13 = .int .i64 (i : Int) ∧ Aside0 (i ≤ s.size) ∧ Aside0 (marks_Minify.l s z ws i = some acc) ∧ Aside0 (acc.length ≤ i) ∧ Aside0 (wr.ownsRow w.heap.size 5 1 v4 acc.length (nums .u8 acc)) ∧
      Aside0 (wr.ownsRow w.heap.size 75 1 (.slice A1 ws.length c1) ws.length (ws.map (Value.int .u64))) ∧ Blk wr g3 #[.int .i64 z, .slice A1 ws.length c1] 34 ∧ BelowH w wr) (fun _ v13 _ => s.size - (intOf v13).toNat)
  case atStart => exact ⟨0, [], rfl, ⟨Nat.zero_le _⟩, ⟨rfl⟩, ⟨Nat.le_refl _⟩, ⟨RO⟩, R5, B35, HB⟩
  case round =>
    clear RO R5 B35 HB
    obtain ⟨i, acc, rfl, HI, HA, HAL, RO, RB, B3, HB⟩ := hrel
    by_cases hlt : i < s.size
    · obtain ⟨b, t, hb1, ht, hn⟩ := HLE.out.2 i hlt
      obtain rfl : acc = b := by
        have := HA.out.symm.trans hb1
        injection this
      have h1 : (i : Int) < (s.size : Int) := by omega
      have h2 : (0 : Int) ≤ (i : Int) := by omega
      have HLT := Aside0.mk hlt
      have HT := Aside0.mk ht
      have HN := Aside0.mk hn
      clear hlt hb1 ht hn
      have GT : Aside0 (∀ W, W.ownsRow w.heap.size 75 1 (.slice A1 ws.length c1) ws.length (ws.map (Value.int .u64)) → Calls Tryd.prog 23 #[.agg #[.int .i64 z, .slice A1 ws.length c1], .int .i64 (i : Int)] W fun e w' => e = .returned (.bool t) ∧ Below W.heap.size W w') := ⟨fun W hW => by
        have hR : Kd.R (Kd.int .u64) 75 W w.heap.size (fun _ => True) (.slice A1 ws.length c1) ws := Kd.R_of_own hW (fun _ _ => trivial)
        have hC := Kd.R_reads' hR
        exact bitmap_Get.calls z A1 c1 ws (i : Int) t W hC.2.2 hC.2.1 HT.out⟩
      cases t with
      | true =>
        gi_wp2_with (first
          | ((with_reducible refine gate_dstIn (N := 16) rfl ?_); refine ev_loadSIn B3 rfl 34 _ rfl rfl Tryd.underlying34 rfl (by kernel_rfl) ?_)
          | (gi_at_call 23; refine (callsIn_of HF (GT.out _ RB.out)).mono ?_; rintro e w6 ⟨rfl, hb6⟩; have B36 := B3.below hb6; have RB6 := Aside0.mk (row_below RB.out hb6); have RO6 := Aside0.mk (row_below RO.out hb6); have HB6 := HB.step hb6; clear hb6))
        go_roundw
        case rel => exact ⟨i + 1, acc, by go_num, ⟨by have := HLT.out; omega⟩, ⟨by have := HN.out; simpa using this⟩, ⟨by have := HAL.out; omega⟩, RO6, RB6, B36, HB6⟩
        case measure => (simp [intOf]; have := HLT.out; omega)
      | false =>
        have hbyte : ∀ h : i < s.size, ((s[i]'h).toNat : Int) = bt s (i : Int) := fun h => bt_at s (i : Int) (by simpa using h)
        have HL : Aside0 ((acc.length + 1) * 1 ≤ 140737488355328) := ⟨by have := HAL.out; have := HI.out; have := HS.out; omega⟩
        have hiN : i < s.size := HLT.out
        gi_wp2_with (first
          | ((with_reducible refine gate_dstIn (N := 16) rfl ?_); refine ev_loadSIn B3 rfl 34 _ rfl rfl Tryd.underlying34 rfl (by kernel_rfl) ?_)
          | (gi_at_call 23; refine (callsIn_of HF (GT.out _ RB.out)).mono ?_; rintro e w6 ⟨rfl, hb6⟩; have B36 := B3.below hb6; have RB6 := Aside0.mk (row_below RB.out hb6); have RO6 := Aside0.mk (row_below RO.out hb6); have HB6 := HB.step hb6; clear hb6)
          | ((with_reducible refine gate_dstIn (N := 24) rfl ?_); refine ev_lit1In HB6 rfl rfl (.int .u8 (bt s (i : Int))) 5 ?hr ?_; (case hr => first | (go_simp; done) | (go_simp; rfl)); intro gl w7 G_gl B_gl HB7 K_gl KO7; have RO7 := row_below RO6.out K_gl.out; have RB7 := row_below RB6.out K_gl.out; have B37 := B36.below K_gl.out)
          | ((with_reducible refine gate_dstIn (N := 25) rfl ?_); refine ev_append1In HB7 rfl _ _ 37 5 (.int .u8 0) 1 rfl Tryd.underlying37 (by kernel_rfl) rfl (by decide) _ acc.length _ rfl RO7 gl (.int .u8 (bt s (i : Int))) rfl B_gl rfl HL.out ?_; intro v8 w8 RO8 HB8 K8 KO8 FV8; have RB8 := row_appended RB7 (by decide) RO7 K8; have B38 := B37.appended (by decide) RO7 K8))
        go_roundw
        case rel =>
          refine ⟨i + 1, acc ++ [bt s (i : Int)], by go_num, ⟨by have := HLT.out; omega⟩, ⟨by have := HN.out; simpa using this⟩, ⟨by rw [List.length_append]; have := HAL.out; simp; omega⟩, ⟨?_⟩, ⟨RB8⟩, B38, HB8⟩
          rw [List.length_append, nums_append]
          exact RO8
        case measure => (simp [intOf]; have := HLT.out; omega)
    · obtain rfl : i = s.size := by have := HI.out; omega
      obtain rfl : acc = an := by
        have := HA.out.symm.trans HAN.out
        injection this
      have CV := own_string (dst := 9) Tryd.underlying37 Tryd.underlying5 Tryd.underlying9 RO.out
      clear hlt
      gi_wp2
      go_ret
      exact ⟨rfl, HB.out⟩
theorem marks_Minify.calls (k : Nat) (a0 : ByteArray) (r : ByteArray) (w : World) (h : marks_Minify.f k a0 = some r) :
    Calls Tryd.prog 27 #[.string a0] w fun e w' => e = .returned (.string r) ∧ Below w.heap.size w w' := by
  unfold marks_Minify.f at h
  by_cases hs : a0.size ≤ 140737488351232
  case neg => rw [if_neg hs] at h; cases h
  rw [if_pos hs] at h
  cases hb : marks_Blanks.f k a0 with
  | none => rw [hb] at h; cases h
  | some b =>
    rw [hb, Option.bind_some] at h
    cases hl : marks_Minify.l a0 b.1 b.2 a0.size with
    | none => rw [hl] at h; cases h
    | some acc =>
      rw [hl, Option.bind_some] at h
      simp only [Option.some.injEq] at h
      subst h
      exact marks_Minify.walk k a0 w hs b.1 b.2 hb acc hl
end


def quarrylaw08_awake.f (k : Nat)  : Option (Bool) := (marks_Index.f (⟨#[123, 34, 97, 32, 98, 34, 32, 58, 32, 91, 49, 44, 116, 114, 117, 101, 93, 125]⟩ : ByteArray)).bind fun t122 => ((quarryref00_SameInts.f k t122 (([0, 1, 7, 9, 10, 11, 12, 16, 17] : List Int))).bind fun t128 => (if t128 = true then ((marks_Minify.f k (⟨#[123, 34, 97, 32, 98, 34, 32, 58, 32, 91, 49, 44, 116, 114, 117, 101, 93, 125]⟩ : ByteArray)).bind fun t129 => (if t129.toList = ([123, 34, 97, 32, 98, 34, 58, 91, 49, 44, 116, 114, 117, 101, 93, 125] : List UInt8) then ((quotes_Marks.f (⟨#[34, 34]⟩ : ByteArray)).bind fun bt130 => (some (bt130.1 == 2))) else (some false))) else (some false)))
theorem quarrylaw08_awake.mono : ∀ k, LeO (quarrylaw08_awake.f k ) (quarrylaw08_awake.f (k + 1) ) := by
  intro  k
  unfold quarrylaw08_awake.f
  repeat' first
      | (with_reducible exact marks_Minify.mono _ _)
      | (with_reducible exact quarryref00_SameInts.mono _ _ _)
      | (with_reducible exact LeO.refl _)
      | (with_reducible exact LeO.none _)
      | (with_reducible refine LeO.ite ?_ ?_)
      | (with_reducible refine LeO.bind ?_ (fun _ => ?_))
      | exact marks_Minify.mono _ _
      | exact quarryref00_SameInts.mono _ _ _
      | exact LeO.none _
      | refine LeO.ite ?_ ?_
      | refine LeO.bind ?_ (fun _ => ?_)
set_option maxHeartbeats 8000000 in
set_option maxRecDepth 100000 in
theorem quarrylaw08_awake.calls (k : Nat)  (r : Bool) (w : World) (hT : TabOk w) (h : quarrylaw08_awake.f k  = some r) :
    Calls Tryd.prog 17 #[] w fun e w' => e = .returned (.bool r) ∧ Below w.heap.size w w' := by
  have TK_ := Aside0.mk hT
  clear hT
  have HB := Aside0.mk (Below.refl w.heap.size w)
  have H : ((marks_Index.f (⟨#[123, 34, 97, 32, 98, 34, 32, 58, 32, 91, 49, 44, 116, 114, 117, 101, 93, 125]⟩ : ByteArray)).bind fun t122 => ((quarryref00_SameInts.f k t122 (([0, 1, 7, 9, 10, 11, 12, 16, 17] : List Int))).bind fun t128 => (if t128 = true then ((marks_Minify.f k (⟨#[123, 34, 97, 32, 98, 34, 32, 58, 32, 91, 49, 44, 116, 114, 117, 101, 93, 125]⟩ : ByteArray)).bind fun t129 => (if t129.toList = ([123, 34, 97, 32, 98, 34, 58, 91, 49, 44, 116, 114, 117, 101, 93, 125] : List UInt8) then ((quotes_Marks.f (⟨#[34, 34]⟩ : ByteArray)).bind fun bt130 => (some (bt130.1 == 2))) else (some false))) else (some false)))) = some r := h
  clear h
  replace H := Option.bind_eq_some_iff.mp H
  obtain ⟨t122, A10, H⟩ := H
  replace H : ((quarryref00_SameInts.f k t122 (([0, 1, 7, 9, 10, 11, 12, 16, 17] : List Int))).bind fun t128 => (if t128 = true then ((marks_Minify.f k (⟨#[123, 34, 97, 32, 98, 34, 32, 58, 32, 91, 49, 44, 116, 114, 117, 101, 93, 125]⟩ : ByteArray)).bind fun t129 => (if t129.toList = ([123, 34, 97, 32, 98, 34, 58, 91, 49, 44, 116, 114, 117, 101, 93, 125] : List UInt8) then ((quotes_Marks.f (⟨#[34, 34]⟩ : ByteArray)).bind fun bt130 => (some (bt130.1 == 2))) else (some false))) else (some false))) = some r := H
  have A1 := Aside0.mk A10
  clear A10
  obtain ⟨y125, hy125⟩ : ∃ y_ : List Int, y_ = (([0, 1, 7, 9, 10, 11, 12, 16, 17] : List Int)) := ⟨_, rfl⟩
  replace H : ((quarryref00_SameInts.f k t122 y125).bind fun t128 => (if t128 = true then ((marks_Minify.f k (⟨#[123, 34, 97, 32, 98, 34, 32, 58, 32, 91, 49, 44, 116, 114, 117, 101, 93, 125]⟩ : ByteArray)).bind fun t129 => (if t129.toList = ([123, 34, 97, 32, 98, 34, 58, 91, 49, 44, 116, 114, 117, 101, 93, 125] : List UInt8) then ((quotes_Marks.f (⟨#[34, 34]⟩ : ByteArray)).bind fun bt130 => (some (bt130.1 == 2))) else (some false))) else (some false))) = some r := by first | (rw [hy125]; with_reducible exact H) | (have H2_ := (Option.bind_some _ _).symm.trans H; rw [hy125]; with_reducible exact H2_) | (have H2_ := (Option.bind_some _ _).symm.trans H; with_reducible exact H2_) | with_reducible exact H | (rw [hy125]; exact H) | exact H
  have Ny125 := Aside0.mk hy125
  clear hy125
  replace H := Option.bind_eq_some_iff.mp H
  obtain ⟨t128, A20, H⟩ := H
  replace H : (if t128 = true then ((marks_Minify.f k (⟨#[123, 34, 97, 32, 98, 34, 32, 58, 32, 91, 49, 44, 116, 114, 117, 101, 93, 125]⟩ : ByteArray)).bind fun t129 => (if t129.toList = ([123, 34, 97, 32, 98, 34, 58, 91, 49, 44, 116, 114, 117, 101, 93, 125] : List UInt8) then ((quotes_Marks.f (⟨#[34, 34]⟩ : ByteArray)).bind fun bt130 => (some (bt130.1 == 2))) else (some false))) else (some false)) = some r := H
  have A2 := Aside0.mk A20
  clear A20
  by_cases c3 : t128 = true
  · subst c3
    have H1 : ((marks_Minify.f k (⟨#[123, 34, 97, 32, 98, 34, 32, 58, 32, 91, 49, 44, 116, 114, 117, 101, 93, 125]⟩ : ByteArray)).bind fun t129 => (if t129.toList = ([123, 34, 97, 32, 98, 34, 58, 91, 49, 44, 116, 114, 117, 101, 93, 125] : List UInt8) then ((quotes_Marks.f (⟨#[34, 34]⟩ : ByteArray)).bind fun bt130 => (some (bt130.1 == 2))) else (some false))) = some r := by rw [if_pos rfl] at H; exact H
    clear H
    have H := H1
    clear H1
    replace H := Option.bind_eq_some_iff.mp H
    obtain ⟨t129, A40, H⟩ := H
    replace H : (if t129.toList = ([123, 34, 97, 32, 98, 34, 58, 91, 49, 44, 116, 114, 117, 101, 93, 125] : List UInt8) then ((quotes_Marks.f (⟨#[34, 34]⟩ : ByteArray)).bind fun bt130 => (some (bt130.1 == 2))) else (some false)) = some r := H
    have A4 := Aside0.mk A40
    clear A40
    by_cases c5 : t129.toList = ([123, 34, 97, 32, 98, 34, 58, 91, 49, 44, 116, 114, 117, 101, 93, 125] : List UInt8)
    · rw [if_pos c5] at H
      have c5b0 : (t129.toList == ([123, 34, 97, 32, 98, 34, 58, 91, 49, 44, 116, 114, 117, 101, 93, 125] : List UInt8)) = true := beq_iff_eq.mpr c5
      have c5b1 : (t129.toList != ([123, 34, 97, 32, 98, 34, 58, 91, 49, 44, 116, 114, 117, 101, 93, 125] : List UInt8)) = false := bne_eq_false_iff_eq.mpr c5
      clear c5
      replace H := Option.bind_eq_some_iff.mp H
      obtain ⟨⟨t130, t131⟩, A60, H⟩ := H
      replace H : (some (t130 == 2)) = some r := H
      have A6 := Aside0.mk A60
      clear A60
      obtain rfl := Option.some.inj H
      go_enter Tryd.func17, Tryd.ntmps17
      go_wp2_with (first | ((with_reducible refine gate_callee (f := 26) rfl ?_); refine goesL_ (some 1) rfl rfl Tryd.func26 (by kernel_rfl) rfl #[.string (⟨#[123, 34, 97, 32, 98, 34, 32, 58, 32, 91, 49, 44, 116, 114, 117, 101, 93, 125]⟩ : ByteArray)] rfl (by (try simp only [List.map_toArray, List.map_cons, List.map_nil]); first | done | rfl | (simp only [List.length_drop, List.length_take]; rfl)) ?_; (with_reducible refine (marks_Index.calls (⟨#[123, 34, 97, 32, 98, 34, 32, 58, 32, 91, 49, 44, 116, 114, 117, 101, 93, 125]⟩ : ByteArray) t122 _ ?tabk A1.out).mono ?_); (case tabk => exact TK_.out.step (by repeat (first | (with_reducible first | exact HB.out | apply below_alloc | apply pw_below_drewN | apply below_drew1) | exact HB.out))); rintro e w7 ⟨v123, rfl, ho0, hb⟩; refine ⟨_, rfl, ?_⟩; have n0_ := Aside0.mk (Kd.R_lower ho0 (below_size (by repeat (first | (with_reducible first | exact HB.out | apply below_alloc | apply pw_below_drewN | apply below_drew1) | exact HB.out)))); have n1_ := Aside0.mk (below_step (by repeat (first | (with_reducible first | exact HB.out | apply below_alloc | apply pw_below_drewN | apply below_drew1) | exact HB.out)) hb); clear HB; have HO124 := n0_; have HB := n1_; clear n0_ n1_; (try clear hb); (try clear hb2); (try clear hk); (try clear hi); (try clear ho0)) | ((with_reducible refine gate_dst (N := 2) rfl ?_); refine Kd.R_lit (Kd.int .i64) _ 3 ?hg (N := 2) ?hd (xs := ([0, 1, 7, 9, 10, 11, 12, 16, 17] : List Int)) (inner := [.int .i64 0, .int .i64 1, .int .i64 7, .int .i64 9, .int .i64 10, .int .i64 11, .int .i64 12, .int .i64 16, .int .i64 17]) (ok := fun _ => True) (okp := fun _ => True) ?hr ?hp (fun _ hk => hk) trivial (Below.refl _ _) (Nat.le_refl _) (by simp) ?_; (case hd => rfl); (case hg => rfl); (case hr => first | (go_simp; done) | (go_simp; rfl)); (case hp => exact (Reps.one (show Kd.M (Kd.int .i64) _ _ _ 0 [.int .i64 0] from rfl) (Reps.one (show Kd.M (Kd.int .i64) _ _ _ 1 [.int .i64 1] from rfl) (Reps.one (show Kd.M (Kd.int .i64) _ _ _ 7 [.int .i64 7] from rfl) (Reps.one (show Kd.M (Kd.int .i64) _ _ _ 9 [.int .i64 9] from rfl) (Reps.one (show Kd.M (Kd.int .i64) _ _ _ 10 [.int .i64 10] from rfl) (Reps.one (show Kd.M (Kd.int .i64) _ _ _ 11 [.int .i64 11] from rfl) (Reps.one (show Kd.M (Kd.int .i64) _ _ _ 12 [.int .i64 12] from rfl) (Reps.one (show Kd.M (Kd.int .i64) _ _ _ 16 [.int .i64 16] from rfl) (Reps.one (show Kd.M (Kd.int .i64) _ _ _ 17 [.int .i64 17] from rfl) (Reps.none _ _))))))))))); intro v126 w8 ho9 hb hg_ hnew_; clear hg_ hnew_; (first | rw [← Ny125.out] at ho9 | (simp only [Int.reduceToNat] at ho9; rw [← Ny125.out] at ho9)); have n0_ := Aside0.mk (Kd.R_elder' (by (with_reducible repeat (first | apply Kd.R_alloc | apply Kd.R_drewN | apply Kd.R_drew)); exact HO124.out) (Kd.R_base ho9) hb); have n1_ := Aside0.mk (Kd.R_lower (Kd.R_new' ho9 (Kd.R_lt (by (with_reducible repeat (first | apply Kd.R_alloc | apply Kd.R_drewN | apply Kd.R_drew)); exact HO124.out))) (below_size (by repeat (first | (with_reducible first | exact HB.out | apply below_alloc | apply pw_below_drewN | apply below_drew1) | exact HB.out)))); have n2_ := Aside0.mk (below_step (by repeat (first | (with_reducible first | exact HB.out | apply below_alloc | apply pw_below_drewN | apply below_drew1) | exact HB.out)) hb); clear HO124; clear HB; have HO124 := n0_; have HO127 := n1_; have HB := n2_; clear n0_ n1_ n2_; clear hb ho9; obtain ⟨Ao10, co10, eo10⟩ := Kd.R_slice HO124.out; subst eo10; obtain ⟨Ao11, co11, eo11⟩ := Kd.R_slice HO127.out; subst eo11) | ((with_reducible refine gate_callee (f := 25) rfl ?_); refine goesL_ (some 3) rfl rfl Tryd.func25 (by kernel_rfl) rfl #[.slice Ao10 t122.length co10, .slice Ao11 y125.length co11] rfl (by (try simp only [List.map_toArray, List.map_cons, List.map_nil]); first | done | rfl | (simp only [List.length_drop, List.length_take]; rfl)) ?_; (with_reducible refine (quarryref00_SameInts.calls k _ _ t122 _ _ y125 true _ ?side1 ?side2 ?side3 ?side4 A2.out).mono ?_); (case side1 => repeat (first | exact (Kd.R_reads' HO124.out).2.2 | (with_reducible refine Kd.C_alloc ?_ _) | (with_reducible refine Kd.C_drewN ?_ _) | (with_reducible refine Kd.C_drew ?_))); (case side2 => exact (Kd.R_reads' HO124.out).2.1); (case side3 => repeat (first | exact (Kd.R_reads' HO127.out).2.2 | (with_reducible refine Kd.C_alloc ?_ _) | (with_reducible refine Kd.C_drewN ?_ _) | (with_reducible refine Kd.C_drew ?_))); (case side4 => exact (Kd.R_reads' HO127.out).2.1); rintro e w' ⟨rfl, ⟨nd, rfl⟩⟩; refine ⟨_, rfl, ?_⟩) | (go_at_call 27; (with_reducible refine (marks_Minify.calls k (⟨#[123, 34, 97, 32, 98, 34, 32, 58, 32, 91, 49, 44, 116, 114, 117, 101, 93, 125]⟩ : ByteArray) t129 _ A4.out).mono ?_); rintro e w12 ⟨rfl, hb⟩; have n0_ := Aside0.mk (Kd.R_below (by (with_reducible repeat (first | apply Kd.R_alloc | apply Kd.R_drewN | apply Kd.R_drew)); exact HO124.out) hb); have n1_ := Aside0.mk (Kd.R_below (by (with_reducible repeat (first | apply Kd.R_alloc | apply Kd.R_drewN | apply Kd.R_drew)); exact HO127.out) hb); have n2_ := Aside0.mk (below_step (by repeat (first | (with_reducible first | exact HB.out | apply below_alloc | apply pw_below_drewN | apply below_drew1) | exact HB.out)) hb); clear HO124; clear HO127; clear HB; have HO124 := n0_; have HO127 := n1_; have HB := n2_; clear n0_ n1_ n2_; (try clear hb); (try clear hb2); (try clear hk); (try clear hi)) | (go_at_call 18; (with_reducible refine (quotes_Marks.calls (⟨#[34, 34]⟩ : ByteArray) t130 t131 _ A6.out).mono ?_); rintro e w13 ⟨v132, rfl, ho0, hb⟩; have n0_ := Aside0.mk (Kd.R_below (by (with_reducible repeat (first | apply Kd.R_alloc | apply Kd.R_drewN | apply Kd.R_drew)); exact HO124.out) hb); have n1_ := Aside0.mk (Kd.R_below (by (with_reducible repeat (first | apply Kd.R_alloc | apply Kd.R_drewN | apply Kd.R_drew)); exact HO127.out) hb); have n2_ := Aside0.mk (Kd.R_lower ho0 (below_size (by repeat (first | (with_reducible first | exact HB.out | apply below_alloc | apply pw_below_drewN | apply below_drew1) | exact HB.out)))); have n3_ := Aside0.mk (below_step (by repeat (first | (with_reducible first | exact HB.out | apply below_alloc | apply pw_below_drewN | apply below_drew1) | exact HB.out)) hb); clear HO124; clear HO127; clear HB; have HO124 := n0_; have HO127 := n1_; have HO133 := n2_; have HB := n3_; clear n0_ n1_ n2_ n3_; (try clear hb); (try clear hb2); (try clear hk); (try clear hi); (try clear ho0)))
      go_ret
      exact ⟨by first | rfl | (simp [errW_none, errW_some] <;> rfl) | (simp [*, errW_none, errW_some] <;> rfl), by repeat (first | (with_reducible first | exact HB.out | apply below_alloc | apply pw_below_drewN | apply below_drew1) | exact HB.out)⟩
    · rw [if_neg c5] at H
      have c5b0 : (t129.toList == ([123, 34, 97, 32, 98, 34, 58, 91, 49, 44, 116, 114, 117, 101, 93, 125] : List UInt8)) = false := beq_eq_false_iff_ne.mpr c5
      have c5b1 : (t129.toList != ([123, 34, 97, 32, 98, 34, 58, 91, 49, 44, 116, 114, 117, 101, 93, 125] : List UInt8)) = true := bne_iff_ne.mpr c5
      obtain rfl := Option.some.inj H
      go_enter Tryd.func17, Tryd.ntmps17
      go_wp2_with (first | ((with_reducible refine gate_callee (f := 26) rfl ?_); refine goesL_ (some 1) rfl rfl Tryd.func26 (by kernel_rfl) rfl #[.string (⟨#[123, 34, 97, 32, 98, 34, 32, 58, 32, 91, 49, 44, 116, 114, 117, 101, 93, 125]⟩ : ByteArray)] rfl (by (try simp only [List.map_toArray, List.map_cons, List.map_nil]); first | done | rfl | (simp only [List.length_drop, List.length_take]; rfl)) ?_; (with_reducible refine (marks_Index.calls (⟨#[123, 34, 97, 32, 98, 34, 32, 58, 32, 91, 49, 44, 116, 114, 117, 101, 93, 125]⟩ : ByteArray) t122 _ ?tabk A1.out).mono ?_); (case tabk => exact TK_.out.step (by repeat (first | (with_reducible first | exact HB.out | apply below_alloc | apply pw_below_drewN | apply below_drew1) | exact HB.out))); rintro e w14 ⟨v123, rfl, ho0, hb⟩; refine ⟨_, rfl, ?_⟩; have n0_ := Aside0.mk (Kd.R_lower ho0 (below_size (by repeat (first | (with_reducible first | exact HB.out | apply below_alloc | apply pw_below_drewN | apply below_drew1) | exact HB.out)))); have n1_ := Aside0.mk (below_step (by repeat (first | (with_reducible first | exact HB.out | apply below_alloc | apply pw_below_drewN | apply below_drew1) | exact HB.out)) hb); clear HB; have HO124 := n0_; have HB := n1_; clear n0_ n1_; (try clear hb); (try clear hb2); (try clear hk); (try clear hi); (try clear ho0)) | ((with_reducible refine gate_dst (N := 2) rfl ?_); refine Kd.R_lit (Kd.int .i64) _ 3 ?hg (N := 2) ?hd (xs := ([0, 1, 7, 9, 10, 11, 12, 16, 17] : List Int)) (inner := [.int .i64 0, .int .i64 1, .int .i64 7, .int .i64 9, .int .i64 10, .int .i64 11, .int .i64 12, .int .i64 16, .int .i64 17]) (ok := fun _ => True) (okp := fun _ => True) ?hr ?hp (fun _ hk => hk) trivial (Below.refl _ _) (Nat.le_refl _) (by simp) ?_; (case hd => rfl); (case hg => rfl); (case hr => first | (go_simp; done) | (go_simp; rfl)); (case hp => exact (Reps.one (show Kd.M (Kd.int .i64) _ _ _ 0 [.int .i64 0] from rfl) (Reps.one (show Kd.M (Kd.int .i64) _ _ _ 1 [.int .i64 1] from rfl) (Reps.one (show Kd.M (Kd.int .i64) _ _ _ 7 [.int .i64 7] from rfl) (Reps.one (show Kd.M (Kd.int .i64) _ _ _ 9 [.int .i64 9] from rfl) (Reps.one (show Kd.M (Kd.int .i64) _ _ _ 10 [.int .i64 10] from rfl) (Reps.one (show Kd.M (Kd.int .i64) _ _ _ 11 [.int .i64 11] from rfl) (Reps.one (show Kd.M (Kd.int .i64) _ _ _ 12 [.int .i64 12] from rfl) (Reps.one (show Kd.M (Kd.int .i64) _ _ _ 16 [.int .i64 16] from rfl) (Reps.one (show Kd.M (Kd.int .i64) _ _ _ 17 [.int .i64 17] from rfl) (Reps.none _ _))))))))))); intro v126 w15 ho16 hb hg_ hnew_; clear hg_ hnew_; (first | rw [← Ny125.out] at ho16 | (simp only [Int.reduceToNat] at ho16; rw [← Ny125.out] at ho16)); have n0_ := Aside0.mk (Kd.R_elder' (by (with_reducible repeat (first | apply Kd.R_alloc | apply Kd.R_drewN | apply Kd.R_drew)); exact HO124.out) (Kd.R_base ho16) hb); have n1_ := Aside0.mk (Kd.R_lower (Kd.R_new' ho16 (Kd.R_lt (by (with_reducible repeat (first | apply Kd.R_alloc | apply Kd.R_drewN | apply Kd.R_drew)); exact HO124.out))) (below_size (by repeat (first | (with_reducible first | exact HB.out | apply below_alloc | apply pw_below_drewN | apply below_drew1) | exact HB.out)))); have n2_ := Aside0.mk (below_step (by repeat (first | (with_reducible first | exact HB.out | apply below_alloc | apply pw_below_drewN | apply below_drew1) | exact HB.out)) hb); clear HO124; clear HB; have HO124 := n0_; have HO127 := n1_; have HB := n2_; clear n0_ n1_ n2_; clear hb ho16; obtain ⟨Ao17, co17, eo17⟩ := Kd.R_slice HO124.out; subst eo17; obtain ⟨Ao18, co18, eo18⟩ := Kd.R_slice HO127.out; subst eo18) | ((with_reducible refine gate_callee (f := 25) rfl ?_); refine goesL_ (some 3) rfl rfl Tryd.func25 (by kernel_rfl) rfl #[.slice Ao17 t122.length co17, .slice Ao18 y125.length co18] rfl (by (try simp only [List.map_toArray, List.map_cons, List.map_nil]); first | done | rfl | (simp only [List.length_drop, List.length_take]; rfl)) ?_; (with_reducible refine (quarryref00_SameInts.calls k _ _ t122 _ _ y125 true _ ?side1 ?side2 ?side3 ?side4 A2.out).mono ?_); (case side1 => repeat (first | exact (Kd.R_reads' HO124.out).2.2 | (with_reducible refine Kd.C_alloc ?_ _) | (with_reducible refine Kd.C_drewN ?_ _) | (with_reducible refine Kd.C_drew ?_))); (case side2 => exact (Kd.R_reads' HO124.out).2.1); (case side3 => repeat (first | exact (Kd.R_reads' HO127.out).2.2 | (with_reducible refine Kd.C_alloc ?_ _) | (with_reducible refine Kd.C_drewN ?_ _) | (with_reducible refine Kd.C_drew ?_))); (case side4 => exact (Kd.R_reads' HO127.out).2.1); rintro e w' ⟨rfl, ⟨nd, rfl⟩⟩; refine ⟨_, rfl, ?_⟩) | (go_at_call 27; (with_reducible refine (marks_Minify.calls k (⟨#[123, 34, 97, 32, 98, 34, 32, 58, 32, 91, 49, 44, 116, 114, 117, 101, 93, 125]⟩ : ByteArray) t129 _ A4.out).mono ?_); rintro e w19 ⟨rfl, hb⟩; have n0_ := Aside0.mk (Kd.R_below (by (with_reducible repeat (first | apply Kd.R_alloc | apply Kd.R_drewN | apply Kd.R_drew)); exact HO124.out) hb); have n1_ := Aside0.mk (Kd.R_below (by (with_reducible repeat (first | apply Kd.R_alloc | apply Kd.R_drewN | apply Kd.R_drew)); exact HO127.out) hb); have n2_ := Aside0.mk (below_step (by repeat (first | (with_reducible first | exact HB.out | apply below_alloc | apply pw_below_drewN | apply below_drew1) | exact HB.out)) hb); clear HO124; clear HO127; clear HB; have HO124 := n0_; have HO127 := n1_; have HB := n2_; clear n0_ n1_ n2_; (try clear hb); (try clear hb2); (try clear hk); (try clear hi)))
      go_ret
      exact ⟨by first | rfl | (simp [errW_none, errW_some] <;> rfl) | (simp [*, errW_none, errW_some] <;> rfl), by repeat (first | (with_reducible first | exact HB.out | apply below_alloc | apply pw_below_drewN | apply below_drew1) | exact HB.out)⟩
  · replace c3 := Bool.eq_false_iff.mpr c3
    subst c3
    have H1 : (some false) = some r := by rw [if_neg (show ¬ (false = true) by decide)] at H; exact H
    clear H
    have H := H1
    clear H1
    obtain rfl := Option.some.inj H
    go_enter Tryd.func17, Tryd.ntmps17
    go_wp2_with (first | ((with_reducible refine gate_callee (f := 26) rfl ?_); refine goesL_ (some 1) rfl rfl Tryd.func26 (by kernel_rfl) rfl #[.string (⟨#[123, 34, 97, 32, 98, 34, 32, 58, 32, 91, 49, 44, 116, 114, 117, 101, 93, 125]⟩ : ByteArray)] rfl (by (try simp only [List.map_toArray, List.map_cons, List.map_nil]); first | done | rfl | (simp only [List.length_drop, List.length_take]; rfl)) ?_; (with_reducible refine (marks_Index.calls (⟨#[123, 34, 97, 32, 98, 34, 32, 58, 32, 91, 49, 44, 116, 114, 117, 101, 93, 125]⟩ : ByteArray) t122 _ ?tabk A1.out).mono ?_); (case tabk => exact TK_.out.step (by repeat (first | (with_reducible first | exact HB.out | apply below_alloc | apply pw_below_drewN | apply below_drew1) | exact HB.out))); rintro e w20 ⟨v123, rfl, ho0, hb⟩; refine ⟨_, rfl, ?_⟩; have n0_ := Aside0.mk (Kd.R_lower ho0 (below_size (by repeat (first | (with_reducible first | exact HB.out | apply below_alloc | apply pw_below_drewN | apply below_drew1) | exact HB.out)))); have n1_ := Aside0.mk (below_step (by repeat (first | (with_reducible first | exact HB.out | apply below_alloc | apply pw_below_drewN | apply below_drew1) | exact HB.out)) hb); clear HB; have HO124 := n0_; have HB := n1_; clear n0_ n1_; (try clear hb); (try clear hb2); (try clear hk); (try clear hi); (try clear ho0)) | ((with_reducible refine gate_dst (N := 2) rfl ?_); refine Kd.R_lit (Kd.int .i64) _ 3 ?hg (N := 2) ?hd (xs := ([0, 1, 7, 9, 10, 11, 12, 16, 17] : List Int)) (inner := [.int .i64 0, .int .i64 1, .int .i64 7, .int .i64 9, .int .i64 10, .int .i64 11, .int .i64 12, .int .i64 16, .int .i64 17]) (ok := fun _ => True) (okp := fun _ => True) ?hr ?hp (fun _ hk => hk) trivial (Below.refl _ _) (Nat.le_refl _) (by simp) ?_; (case hd => rfl); (case hg => rfl); (case hr => first | (go_simp; done) | (go_simp; rfl)); (case hp => exact (Reps.one (show Kd.M (Kd.int .i64) _ _ _ 0 [.int .i64 0] from rfl) (Reps.one (show Kd.M (Kd.int .i64) _ _ _ 1 [.int .i64 1] from rfl) (Reps.one (show Kd.M (Kd.int .i64) _ _ _ 7 [.int .i64 7] from rfl) (Reps.one (show Kd.M (Kd.int .i64) _ _ _ 9 [.int .i64 9] from rfl) (Reps.one (show Kd.M (Kd.int .i64) _ _ _ 10 [.int .i64 10] from rfl) (Reps.one (show Kd.M (Kd.int .i64) _ _ _ 11 [.int .i64 11] from rfl) (Reps.one (show Kd.M (Kd.int .i64) _ _ _ 12 [.int .i64 12] from rfl) (Reps.one (show Kd.M (Kd.int .i64) _ _ _ 16 [.int .i64 16] from rfl) (Reps.one (show Kd.M (Kd.int .i64) _ _ _ 17 [.int .i64 17] from rfl) (Reps.none _ _))))))))))); intro v126 w21 ho22 hb hg_ hnew_; clear hg_ hnew_; (first | rw [← Ny125.out] at ho22 | (simp only [Int.reduceToNat] at ho22; rw [← Ny125.out] at ho22)); have n0_ := Aside0.mk (Kd.R_elder' (by (with_reducible repeat (first | apply Kd.R_alloc | apply Kd.R_drewN | apply Kd.R_drew)); exact HO124.out) (Kd.R_base ho22) hb); have n1_ := Aside0.mk (Kd.R_lower (Kd.R_new' ho22 (Kd.R_lt (by (with_reducible repeat (first | apply Kd.R_alloc | apply Kd.R_drewN | apply Kd.R_drew)); exact HO124.out))) (below_size (by repeat (first | (with_reducible first | exact HB.out | apply below_alloc | apply pw_below_drewN | apply below_drew1) | exact HB.out)))); have n2_ := Aside0.mk (below_step (by repeat (first | (with_reducible first | exact HB.out | apply below_alloc | apply pw_below_drewN | apply below_drew1) | exact HB.out)) hb); clear HO124; clear HB; have HO124 := n0_; have HO127 := n1_; have HB := n2_; clear n0_ n1_ n2_; clear hb ho22; obtain ⟨Ao23, co23, eo23⟩ := Kd.R_slice HO124.out; subst eo23; obtain ⟨Ao24, co24, eo24⟩ := Kd.R_slice HO127.out; subst eo24) | ((with_reducible refine gate_callee (f := 25) rfl ?_); refine goesL_ (some 3) rfl rfl Tryd.func25 (by kernel_rfl) rfl #[.slice Ao23 t122.length co23, .slice Ao24 y125.length co24] rfl (by (try simp only [List.map_toArray, List.map_cons, List.map_nil]); first | done | rfl | (simp only [List.length_drop, List.length_take]; rfl)) ?_; (with_reducible refine (quarryref00_SameInts.calls k _ _ t122 _ _ y125 false _ ?side1 ?side2 ?side3 ?side4 A2.out).mono ?_); (case side1 => repeat (first | exact (Kd.R_reads' HO124.out).2.2 | (with_reducible refine Kd.C_alloc ?_ _) | (with_reducible refine Kd.C_drewN ?_ _) | (with_reducible refine Kd.C_drew ?_))); (case side2 => exact (Kd.R_reads' HO124.out).2.1); (case side3 => repeat (first | exact (Kd.R_reads' HO127.out).2.2 | (with_reducible refine Kd.C_alloc ?_ _) | (with_reducible refine Kd.C_drewN ?_ _) | (with_reducible refine Kd.C_drew ?_))); (case side4 => exact (Kd.R_reads' HO127.out).2.1); rintro e w' ⟨rfl, ⟨nd, rfl⟩⟩; refine ⟨_, rfl, ?_⟩))
    go_ret
    exact ⟨by first | rfl | (simp [errW_none, errW_some] <;> rfl) | (simp [*, errW_none, errW_some] <;> rfl), by repeat (first | (with_reducible first | exact HB.out | apply below_alloc | apply pw_below_drewN | apply below_drew1) | exact HB.out)⟩

def quarrylaw08_looked.f (a0 : ByteArray) (a1 : Int) : Option (Bool) := if a1 < 64 then (some true) else (if a1 ≥ (wrap64 ((a0.size : Int) - 64)) then (some true) else (if (wrap64 ((wrap64 ((a0.size : Int) / 64)) + 1)) = 0 then (none) else (some ((Int.tmod a1 (wrap64 ((wrap64 ((a0.size : Int) / 64)) + 1))) == 0))))
set_option maxHeartbeats 8000000 in
set_option maxRecDepth 100000 in
theorem quarrylaw08_looked.calls (a0 : ByteArray) (a1 : Int) (r : Bool) (w : World) (h : quarrylaw08_looked.f a0 a1 = some r) :
    Calls Tryd.prog 21 #[.string a0, .int .i64 a1] w fun e w' => e = .returned (.bool r) ∧ Drawn0 w w' := by
  have H : (if a1 < 64 then (some true) else (if a1 ≥ (wrap64 ((a0.size : Int) - 64)) then (some true) else (if (wrap64 ((wrap64 ((a0.size : Int) / 64)) + 1)) = 0 then (none) else (some ((Int.tmod a1 (wrap64 ((wrap64 ((a0.size : Int) / 64)) + 1))) == 0))))) = some r := h
  clear h
  by_cases c3 : a1 < 64
  · rw [if_pos c3] at H
    have c3b0 : decide (a1 < 64) = true := decide_eq_true c3
    clear c3
    obtain rfl := Option.some.inj H
    go_enter Tryd.func21, Tryd.ntmps21
    go_wp2
    go_ret
    exact ⟨by first | rfl | (simp; done) | (simp [*]; done), by repeat (first | exact Drawn0.refl _ | apply Drawn0.step)⟩
  · rw [if_neg c3] at H
    have c3b0 : decide (a1 < 64) = false := decide_eq_false c3
    clear c3
    by_cases c4 : a1 ≥ (wrap64 ((a0.size : Int) - 64))
    · rw [if_pos c4] at H
      have c4b0 : decide ((wrap64 ((a0.size : Int) - 64)) ≤ a1) = true := decide_eq_true c4
      clear c4
      obtain rfl := Option.some.inj H
      go_enter Tryd.func21, Tryd.ntmps21
      go_wp2
      go_ret
      exact ⟨by first | rfl | (simp; done) | (simp [*]; done), by repeat (first | exact Drawn0.refl _ | apply Drawn0.step)⟩
    · rw [if_neg c4] at H
      have c4b0 : decide ((wrap64 ((a0.size : Int) - 64)) ≤ a1) = false := decide_eq_false c4
      clear c4
      by_cases c5 : (wrap64 ((wrap64 ((a0.size : Int) / 64)) + 1)) = 0
      · rw [if_pos c5] at H
        exact absurd H (by simp)
      · rw [if_neg c5] at H
        have c5b0 : ((wrap64 ((wrap64 ((a0.size : Int) / 64)) + 1)) == 0) = false := beq_eq_false_iff_ne.mpr c5
        have c5b1 : ((wrap64 ((wrap64 ((a0.size : Int) / 64)) + 1)) != 0) = true := bne_iff_ne.mpr c5
        obtain rfl := Option.some.inj H
        go_enter Tryd.func21, Tryd.ntmps21
        go_wp2
        go_ret
        exact ⟨by first | rfl | (simp; done) | (simp [*]; done), by repeat (first | exact Drawn0.refl _ | apply Drawn0.step)⟩

mutual
def marks_Kind.j0 : Nat → ByteArray → Int → Bool → Option (Int)
  | 0, _, _, _ => none
  | k + 1, x0, x1, x16 => if x16 = true then (some 0) else ((marks_look.f x0).bind fun t134 => (if 0 ≤ (wrap64 (Int.tdiv x1 64)) then (if (wrap64 (Int.tdiv x1 64)) < (t134.length : Int) then (if 0 ≤ (Int.tmod x1 64) then (if x1 ≥ 64 then (if 0 ≤ (wrap64 ((wrap64 (Int.tdiv x1 64)) - 1)) then (if (wrap64 ((wrap64 (Int.tdiv x1 64)) - 1)) < (t134.length : Int) then ((marks_rows_ends.f ((rd_T77 t134 (wrap64 ((wrap64 (Int.tdiv x1 64)) - 1))).f0) ((rd_T77 t134 (wrap64 ((wrap64 (Int.tdiv x1 64)) - 1))).f1) ((rd_T77 t134 (wrap64 ((wrap64 (Int.tdiv x1 64)) - 1))).f2) ((rd_T77 t134 (wrap64 ((wrap64 (Int.tdiv x1 64)) - 1))).f3)).bind fun t140 => (marks_Kind.j1 k x0 x1 (shl .u64 1 (Int.tmod x1 64)) t140 ((rd_T77 t134 (wrap64 (Int.tdiv x1 64))).f0) ((rd_T77 t134 (wrap64 (Int.tdiv x1 64))).f1) ((rd_T77 t134 (wrap64 (Int.tdiv x1 64))).f2) ((rd_T77 t134 (wrap64 (Int.tdiv x1 64))).f3))) else (none)) else (none)) else (marks_Kind.j1 k x0 x1 (shl .u64 1 (Int.tmod x1 64)) false ((rd_T77 t134 (wrap64 (Int.tdiv x1 64))).f0) ((rd_T77 t134 (wrap64 (Int.tdiv x1 64))).f1) ((rd_T77 t134 (wrap64 (Int.tdiv x1 64))).f2) ((rd_T77 t134 (wrap64 (Int.tdiv x1 64))).f3))) else (none)) else (none)) else (none)))
def marks_Kind.j1 : Nat → ByteArray → Int → Int → Bool → Int → Int → Int → Int → Option (Int)
  | 0, _, _, _, _, _, _, _, _ => none
  | k + 1, x0, x1, x7, x8, x139000, x139001, x139002, x139003 => if (Go.bits .and .u64 (Go.bits .or .u64 x139000 x139002) x7) = 0 then ((marks_rows_starts.f x139000 x139001 x139002 x139003 x8).bind fun t141 => (if (Go.bits .and .u64 t141 x7) = 0 then (some 0) else (some 119))) else (if 0 ≤ x1 then (if x1 < (x0.size : Int) then (some (bt x0 x1)) else (none)) else (none))
end
def marks_Kind.f (k : Nat) (a0 : ByteArray) (a1 : Int) : Option (Int) := if a1 < 0 then (marks_Kind.j0 k a0 a1 true) else (marks_Kind.j0 k a0 a1 (decide (a1 ≥ (a0.size : Int))))
theorem marks_Kind.mono_l : ∀ k, (∀ y0 y1 y2, LeO (marks_Kind.j0 k y0 y1 y2) (marks_Kind.j0 (k + 1) y0 y1 y2)) ∧ (∀ y0 y1 y2 y3 y4 y5 y6 y7, LeO (marks_Kind.j1 k y0 y1 y2 y3 y4 y5 y6 y7) (marks_Kind.j1 (k + 1) y0 y1 y2 y3 y4 y5 y6 y7))
  | 0 => ⟨fun _ _ _ r h => by simp [marks_Kind.j0] at h, fun _ _ _ _ _ _ _ _ r h => by simp [marks_Kind.j1] at h⟩
  | k + 1 => by
    obtain ⟨ih0, ih1⟩ := marks_Kind.mono_l k
    refine ⟨?_, ?_⟩
    · intro y0 y1 y2
      unfold marks_Kind.j0
      repeat' first
      | (with_reducible exact ih0 _ _ _)
      | (with_reducible exact ih1 _ _ _ _ _ _ _ _)
      | (with_reducible exact LeO.refl _)
      | (with_reducible exact LeO.none _)
      | (with_reducible refine LeO.ite ?_ ?_)
      | (with_reducible refine LeO.bind ?_ (fun _ => ?_))
      | exact ih0 _ _ _
      | exact ih1 _ _ _ _ _ _ _ _
      | exact LeO.none _
      | refine LeO.ite ?_ ?_
      | refine LeO.bind ?_ (fun _ => ?_)
    · intro y0 y1 y2 y3 y4 y5 y6 y7
      unfold marks_Kind.j1
      repeat' first
      | (with_reducible exact ih0 _ _ _)
      | (with_reducible exact ih1 _ _ _ _ _ _ _ _)
      | (with_reducible exact LeO.refl _)
      | (with_reducible exact LeO.none _)
      | (with_reducible refine LeO.ite ?_ ?_)
      | (with_reducible refine LeO.bind ?_ (fun _ => ?_))
      | exact ih0 _ _ _
      | exact ih1 _ _ _ _ _ _ _ _
      | exact LeO.none _
      | refine LeO.ite ?_ ?_
      | refine LeO.bind ?_ (fun _ => ?_)
theorem marks_Kind.mono : ∀ a0 a1 k, LeO (marks_Kind.f k a0 a1) (marks_Kind.f (k + 1) a0 a1) := by
  intro a0 a1 k
  obtain ⟨ih0, ih1⟩ := marks_Kind.mono_l k
  unfold marks_Kind.f
  repeat' first
      | (with_reducible exact ih0 _ _ _)
      | (with_reducible exact ih1 _ _ _ _ _ _ _ _)
      | (with_reducible exact LeO.refl _)
      | (with_reducible exact LeO.none _)
      | (with_reducible refine LeO.ite ?_ ?_)
      | (with_reducible refine LeO.bind ?_ (fun _ => ?_))
      | exact ih0 _ _ _
      | exact ih1 _ _ _ _ _ _ _ _
      | exact LeO.none _
      | refine LeO.ite ?_ ?_
      | refine LeO.bind ?_ (fun _ => ?_)
def marks_Kind.T4 : Bool × List (List Nat × List Nat) := (true, [([], []), ([], []), ([1], [1]), ([0, 2], [0, 2]), ([3], [3]), ([], []), ([5], [5]), ([6], [6]), ([], []), ([8, 4, 0, 1, 2, 3, 4, 8], [4, 8]), ([7, 9, 0, 1, 2, 3, 4, 5, 6, 7, 8, 9], [7])])
def marks_Kind.B4 : List Nat := [0, 0, 2, 7, 15, 0, 32, 96, 0, 287, 1023]
theorem marks_Kind.tab4 : rtab .any (opsOf Tryd.f22 4) = marks_Kind.T4 := by kernel_rfl
theorem marks_Kind.bits4 : waitsOk marks_Kind.T4.2 marks_Kind.B4 = true := by kernel_rfl
set_option maxHeartbeats 8000000 in
set_option maxRecDepth 100000 in
theorem marks_Kind.calls (k : Nat) (a0 : ByteArray) (a1 : Int) (r : Int) (w : World) (h : marks_Kind.f k a0 a1 = some r) :
    Calls Tryd.prog 22 #[.string a0, .int .i64 a1] w fun e w' => e = .returned (.int .u8 r) ∧ Below w.heap.size w w' := by
  have hu77 := Tryd.underlying77
  have HB := Aside0.mk (Below.refl w.heap.size w)
  have H : (if a1 < 0 then (marks_Kind.j0 k a0 a1 true) else (marks_Kind.j0 k a0 a1 (decide (a1 ≥ (a0.size : Int))))) = some r := h
  clear h
  have HC3 := Aside0.mk H
  clear H
  go_enter Tryd.func22, Tryd.ntmps22
  go_upto_region 1 with (fail)
  go_cut [16] (fun v16 wc => ∃ (kq : Nat) (x16_2 : Bool), v16 = .bool x16_2 ∧ Aside0 (marks_Kind.j0 kq a0 a1 x16_2 = some r) ∧ Aside0 (kq ≤ k) ∧ Aside0 (Below w.heap.size w wc))
  case first =>
    have H := HC3.out
    clear HC3
    by_cases c4 : a1 < 0
    · rw [if_pos c4] at H
      have c4b0 : decide (a1 < 0) = true := decide_eq_true c4
      clear c4
      (first | rw [c4b0] | (simp only [i64_w, i32_w]; rw [c4b0]) | skip)
      have H' := Aside0.mk H
      clear H
      go_wp2
      go_meet
      case rel => exact ⟨_, (true), (by first | rfl | (simp; done) | (simp [*]; done)), H', ⟨by first | omega | exact Nat.le_refl _⟩, ⟨by repeat (first | (with_reducible first | exact HB.out | apply below_alloc | apply pw_below_drewN | apply below_drew1) | exact HB.out)⟩⟩
    · rw [if_neg c4] at H
      have c4b0 : decide (a1 < 0) = false := decide_eq_false c4
      clear c4
      (first | rw [c4b0] | (simp only [i64_w, i32_w]; rw [c4b0]) | skip)
      have H' := Aside0.mk H
      clear H
      go_wp2
      go_meet
      case rel => exact ⟨_, (decide (a1 ≥ (a0.size : Int))), (by first | rfl | (simp; done) | (simp [*]; done)), H', ⟨by first | omega | exact Nat.le_refl _⟩, ⟨by repeat (first | (with_reducible first | exact HB.out | apply below_alloc | apply pw_below_drewN | apply below_drew1) | exact HB.out)⟩⟩
  case rest =>
    clear HC3
    try clear c2
    try clear p2
    try clear c4
    try clear c4b0
    obtain ⟨kq, x16_2, rfl, HA, HJ2, HB⟩ := hcut
    cases kq with
    | zero => exact absurd HA.out (by simp [marks_Kind.j0])
    | succ kj2 =>
      have H := HA.out
      clear HA
      simp only [marks_Kind.j0] at H
      by_cases c5 : x16_2 = true
      · subst c5
        have H1 : (some 0) = some r := by rw [if_pos rfl] at H; exact H
        clear H
        have H := H1
        clear H1
        obtain rfl := Option.some.inj H
        go_wp2
        go_ret
        exact ⟨by first | rfl | (simp [errW_none, errW_some] <;> rfl) | (simp [*, errW_none, errW_some] <;> rfl), by repeat (first | (with_reducible first | exact HB.out | apply below_alloc | apply pw_below_drewN | apply below_drew1) | exact HB.out)⟩
      · replace c5 := Bool.eq_false_iff.mpr c5
        subst c5
        have H1 : ((marks_look.f a0).bind fun t134 => (if 0 ≤ (wrap64 (Int.tdiv a1 64)) then (if (wrap64 (Int.tdiv a1 64)) < (t134.length : Int) then (if 0 ≤ (Int.tmod a1 64) then (if a1 ≥ 64 then (if 0 ≤ (wrap64 ((wrap64 (Int.tdiv a1 64)) - 1)) then (if (wrap64 ((wrap64 (Int.tdiv a1 64)) - 1)) < (t134.length : Int) then ((marks_rows_ends.f ((rd_T77 t134 (wrap64 ((wrap64 (Int.tdiv a1 64)) - 1))).f0) ((rd_T77 t134 (wrap64 ((wrap64 (Int.tdiv a1 64)) - 1))).f1) ((rd_T77 t134 (wrap64 ((wrap64 (Int.tdiv a1 64)) - 1))).f2) ((rd_T77 t134 (wrap64 ((wrap64 (Int.tdiv a1 64)) - 1))).f3)).bind fun t140 => (marks_Kind.j1 kj2 a0 a1 (shl .u64 1 (Int.tmod a1 64)) t140 ((rd_T77 t134 (wrap64 (Int.tdiv a1 64))).f0) ((rd_T77 t134 (wrap64 (Int.tdiv a1 64))).f1) ((rd_T77 t134 (wrap64 (Int.tdiv a1 64))).f2) ((rd_T77 t134 (wrap64 (Int.tdiv a1 64))).f3))) else (none)) else (none)) else (marks_Kind.j1 kj2 a0 a1 (shl .u64 1 (Int.tmod a1 64)) false ((rd_T77 t134 (wrap64 (Int.tdiv a1 64))).f0) ((rd_T77 t134 (wrap64 (Int.tdiv a1 64))).f1) ((rd_T77 t134 (wrap64 (Int.tdiv a1 64))).f2) ((rd_T77 t134 (wrap64 (Int.tdiv a1 64))).f3))) else (none)) else (none)) else (none))) = some r := by rw [if_neg (show ¬ (false = true) by decide)] at H; exact H
        clear H
        have H := H1
        clear H1
        replace H := Option.bind_eq_some_iff.mp H
        obtain ⟨t134, A60, H⟩ := H
        replace H : (if 0 ≤ (wrap64 (Int.tdiv a1 64)) then (if (wrap64 (Int.tdiv a1 64)) < (t134.length : Int) then (if 0 ≤ (Int.tmod a1 64) then (if a1 ≥ 64 then (if 0 ≤ (wrap64 ((wrap64 (Int.tdiv a1 64)) - 1)) then (if (wrap64 ((wrap64 (Int.tdiv a1 64)) - 1)) < (t134.length : Int) then ((marks_rows_ends.f ((rd_T77 t134 (wrap64 ((wrap64 (Int.tdiv a1 64)) - 1))).f0) ((rd_T77 t134 (wrap64 ((wrap64 (Int.tdiv a1 64)) - 1))).f1) ((rd_T77 t134 (wrap64 ((wrap64 (Int.tdiv a1 64)) - 1))).f2) ((rd_T77 t134 (wrap64 ((wrap64 (Int.tdiv a1 64)) - 1))).f3)).bind fun t140 => (marks_Kind.j1 kj2 a0 a1 (shl .u64 1 (Int.tmod a1 64)) t140 ((rd_T77 t134 (wrap64 (Int.tdiv a1 64))).f0) ((rd_T77 t134 (wrap64 (Int.tdiv a1 64))).f1) ((rd_T77 t134 (wrap64 (Int.tdiv a1 64))).f2) ((rd_T77 t134 (wrap64 (Int.tdiv a1 64))).f3))) else (none)) else (none)) else (marks_Kind.j1 kj2 a0 a1 (shl .u64 1 (Int.tmod a1 64)) false ((rd_T77 t134 (wrap64 (Int.tdiv a1 64))).f0) ((rd_T77 t134 (wrap64 (Int.tdiv a1 64))).f1) ((rd_T77 t134 (wrap64 (Int.tdiv a1 64))).f2) ((rd_T77 t134 (wrap64 (Int.tdiv a1 64))).f3))) else (none)) else (none)) else (none)) = some r := H
        have A6 := Aside0.mk A60
        clear A60
        obtain ⟨ji7, hji7⟩ : ∃ j_ : Int, (wrap64 (Int.tdiv a1 64)) = j_ := ⟨_, rfl⟩
        replace H : (if 0 ≤ (ji7) then (if (ji7) < (t134.length : Int) then (if 0 ≤ (Int.tmod a1 64) then (if a1 ≥ 64 then (if 0 ≤ (wrap64 ((ji7) - 1)) then (if (wrap64 ((ji7) - 1)) < (t134.length : Int) then ((marks_rows_ends.f ((rd_T77 t134 (wrap64 ((ji7) - 1))).f0) ((rd_T77 t134 (wrap64 ((ji7) - 1))).f1) ((rd_T77 t134 (wrap64 ((ji7) - 1))).f2) ((rd_T77 t134 (wrap64 ((ji7) - 1))).f3)).bind fun t140 => (marks_Kind.j1 kj2 a0 a1 (shl .u64 1 (Int.tmod a1 64)) t140 ((rd_T77 t134 (ji7)).f0) ((rd_T77 t134 (ji7)).f1) ((rd_T77 t134 (ji7)).f2) ((rd_T77 t134 (ji7)).f3))) else (none)) else (none)) else (marks_Kind.j1 kj2 a0 a1 (shl .u64 1 (Int.tmod a1 64)) false ((rd_T77 t134 (ji7)).f0) ((rd_T77 t134 (ji7)).f1) ((rd_T77 t134 (ji7)).f2) ((rd_T77 t134 (ji7)).f3))) else (none)) else (none)) else (none)) = some r := by first | (rw [hji7] at H; exact H) | (simp only [hji7] at H ⊢; exact H)
        (try rw [hji7] at A6)
        have hji7w : (IntKind.i64.wrap (Int.tdiv a1 64)) = ji7 := (i64_w _).trans hji7
        by_cases c8 : 0 ≤ (ji7)
        · rw [if_pos c8] at H
          have c8b0 : decide (0 ≤ (ji7)) = true := decide_eq_true c8
          clear c8
          by_cases c9 : (ji7) < (t134.length : Int)
          · rw [if_pos c9] at H
            have c9b0 : decide ((ji7) < (t134.length : Int)) = true := decide_eq_true c9
            clear c9
            obtain ⟨ji10, hji10⟩ : ∃ j_ : Int, (Int.tmod a1 64) = j_ := ⟨_, rfl⟩
            replace H : (if 0 ≤ (ji10) then (if a1 ≥ 64 then (if 0 ≤ (wrap64 ((ji7) - 1)) then (if (wrap64 ((ji7) - 1)) < (t134.length : Int) then ((marks_rows_ends.f ((rd_T77 t134 (wrap64 ((ji7) - 1))).f0) ((rd_T77 t134 (wrap64 ((ji7) - 1))).f1) ((rd_T77 t134 (wrap64 ((ji7) - 1))).f2) ((rd_T77 t134 (wrap64 ((ji7) - 1))).f3)).bind fun t140 => (marks_Kind.j1 kj2 a0 a1 (shl .u64 1 (ji10)) t140 ((rd_T77 t134 (ji7)).f0) ((rd_T77 t134 (ji7)).f1) ((rd_T77 t134 (ji7)).f2) ((rd_T77 t134 (ji7)).f3))) else (none)) else (none)) else (marks_Kind.j1 kj2 a0 a1 (shl .u64 1 (ji10)) false ((rd_T77 t134 (ji7)).f0) ((rd_T77 t134 (ji7)).f1) ((rd_T77 t134 (ji7)).f2) ((rd_T77 t134 (ji7)).f3))) else (none)) = some r := by first | (rw [hji10] at H; exact H) | (simp only [hji10] at H ⊢; exact H)
            (try rw [hji10] at A6)
            by_cases c11 : 0 ≤ (ji10)
            · rw [if_pos c11] at H
              have c11b0 := eq_true c11
              have c11b1 : decide (0 ≤ (ji10)) = true := decide_eq_true c11
              clear c11
              obtain ⟨ji12, hji12⟩ : ∃ j_ : Int, (shl .u64 1 (ji10)) = j_ := ⟨_, rfl⟩
              replace H : (if a1 ≥ 64 then (if 0 ≤ (wrap64 ((ji7) - 1)) then (if (wrap64 ((ji7) - 1)) < (t134.length : Int) then ((marks_rows_ends.f ((rd_T77 t134 (wrap64 ((ji7) - 1))).f0) ((rd_T77 t134 (wrap64 ((ji7) - 1))).f1) ((rd_T77 t134 (wrap64 ((ji7) - 1))).f2) ((rd_T77 t134 (wrap64 ((ji7) - 1))).f3)).bind fun t140 => (marks_Kind.j1 kj2 a0 a1 ji12 t140 ((rd_T77 t134 (ji7)).f0) ((rd_T77 t134 (ji7)).f1) ((rd_T77 t134 (ji7)).f2) ((rd_T77 t134 (ji7)).f3))) else (none)) else (none)) else (marks_Kind.j1 kj2 a0 a1 ji12 false ((rd_T77 t134 (ji7)).f0) ((rd_T77 t134 (ji7)).f1) ((rd_T77 t134 (ji7)).f2) ((rd_T77 t134 (ji7)).f3))) = some r := by first | (rw [hji12] at H; exact H) | (simp only [hji12] at H ⊢; exact H)
              (try rw [hji12] at A6)
              have hji12_ : (IntKind.u64.wrap (1 * 2 ^ min (ji10).toNat 64)) = ji12 := hji12
              have hji12z : (ji10) ≤ 64 → (IntKind.u64.wrap (1 * 2 ^ (ji10).toNat)) = ji12 := shl_small hji12
              have hji12u : (IntKind.u64.wrap (2 ^ min (ji10).toNat 64)) = ji12 := by have h_ := hji12_; rw [Int.one_mul] at h_; exact h_
              have hji12v : (ji10) ≤ 64 → (IntKind.u64.wrap (2 ^ (ji10).toNat)) = ji12 := fun hle_ => by have h_ := hji12z hle_; rw [Int.one_mul] at h_; exact h_
              have HC13 := Aside0.mk H
              clear H
              try go_wp2_with (first | ((with_reducible refine gate_callee (f := 50) rfl ?_); refine goesL_ (some 18) rfl rfl Tryd.func50 (by kernel_rfl) rfl #[.string a0] rfl (by (try simp only [List.map_toArray, List.map_cons, List.map_nil]); first | done | rfl | (simp only [List.length_drop, List.length_take]; rfl)) ?_; (with_reducible refine (marks_look.calls a0 t134 _ A6.out).mono ?_); rintro e w14 ⟨v135, rfl, ho0, hb⟩; refine ⟨_, rfl, ?_⟩; have n0_ := Aside0.mk (Kd.R_lower ho0 (below_size (by repeat (first | (with_reducible first | exact HB.out | apply below_alloc | apply pw_below_drewN | apply below_drew1) | exact HB.out)))); have n1_ := Aside0.mk (below_step (by repeat (first | (with_reducible first | exact HB.out | apply below_alloc | apply pw_below_drewN | apply below_drew1) | exact HB.out)) hb); clear HB; have HO136 := n0_; have HB := n1_; clear n0_ n1_; (try clear hb); (try clear hb2); (try clear hk); (try clear hi); (try clear ho0)))
              have n0_ := Aside0.mk (Kd.R_drew HO136.out)
              have n1_ := Aside0.mk (below_drew1 HB.out)
              clear HO136
              clear HB
              have HO136 := n0_
              have HB := n1_
              clear n0_ n1_
              obtain ⟨Ao16, co16, eo16⟩ := Kd.R_slice HO136.out
              (first | subst eo16 | (injection eo16 with f1_ f2_ f3_; have f4_ := f1_.symm; have f5_ := f3_.symm; clear f1_ f2_ f3_; subst f4_; subst f5_))
              have p137 : 0 ≤ ((ji7) : Int) := of_decide_eq_true (by first | (with_reducible assumption) | assumption)
              have q137 : (ji7) < (t134.length : Int) := of_decide_eq_true (by first | (with_reducible assumption) | assumption)
              obtain ⟨ad137, e137, hx137_0, hx137_1, hx137_2, hx137_3⟩ := at_T77 (Kd.R_reads' HO136.out).2.2 (ji7) p137 q137
              cases e137
              replace p137 := eq_true p137
              replace q137 := eq_true q137
              refine start_ (n := 11) (S := fun w' => w'.cell? (ad137.add (((ji7)).toNat * 4)) = some (.int .u64 ((rd_T77 t134 (ji7)).f0)) ∧ w'.cell? ⟨(ad137.add (((ji7)).toNat * 4)).block, (ad137.add (((ji7)).toNat * 4)).off + 1, none⟩ = some (.int .u64 ((rd_T77 t134 (ji7)).f1)) ∧ w'.cell? ⟨(ad137.add (((ji7)).toNat * 4)).block, (ad137.add (((ji7)).toNat * 4)).off + 2, none⟩ = some (.int .u64 ((rd_T77 t134 (ji7)).f2)) ∧ w'.cell? ⟨(ad137.add (((ji7)).toNat * 4)).block, (ad137.add (((ji7)).toNat * 4)).off + 3, none⟩ = some (.int .u64 ((rd_T77 t134 (ji7)).f3))) (ds := []) #[false, false, false, false, false, false, false, false, false, false, false] (by kernel_rfl) rfl rfl ⟨hx137_0, hx137_1, hx137_2, hx137_3⟩ (fun hHeld => ?_); refine with_tabW marks_Kind.tab4 marks_Kind.bits4 (fun HT_ HW_ => ?_)
              generalize w14.drew = w15 at HO136 HB hx137_0 hx137_1 hx137_2 hx137_3 hHeld ⊢
              refine pure_ (i := 0) (N := some 19) (v := ?_) (a' := ?_) #[true, false, false, false, false, false, false, false, false, false, false] rfl rfl (any_of HT_.out (by kernel_rfl)) (fun _ _ _ h => h) (Or.inl ⟨by rfl, ?_⟩) ?_ ?_
              rotate_left
              · intro w'
                go_simp
                with_reducible rfl
              rotate_left
              · simp only [Act.put, List.setIfInBounds_toArray, List.set_cons_zero, List.set_cons_succ, i64_w, i32_w]
                rfl
              refine pure_ (i := 1) (N := some 20) (v := ?_) (a' := ?_) #[true, true, false, false, false, false, false, false, false, false, false] rfl rfl (any_of HT_.out (by kernel_rfl)) (fun _ _ _ h => h) (Or.inl ⟨by rfl, ?_⟩) ?_ ?_
              rotate_left
              · intro w'
                go_simp
                with_reducible rfl
              rotate_left
              · simp only [Act.put, List.setIfInBounds_toArray, List.set_cons_zero, List.set_cons_succ, i64_w, i32_w]
                rfl
              refine pure_ (i := 2) (N := some 21) (v := ?_) (a' := ?_) #[true, true, true, false, false, false, false, false, false, false, false] rfl rfl (any_of HT_.out (by kernel_rfl)) (fun _ _ _ h => h) (Or.inl ⟨by rfl, ?_⟩) ?_ ?_
              rotate_left
              · intro w'
                go_simp
                with_reducible rfl
              rotate_left
              · simp only [Act.put, List.setIfInBounds_toArray, List.set_cons_zero, List.set_cons_succ, i64_w, i32_w]
                rfl
              refine pure_ (i := 3) (N := some 22) (v := ?_) (a' := ?_) #[true, true, true, true, false, false, false, false, false, false, false] rfl rfl (any_of HT_.out (by kernel_rfl)) (fun _ _ _ h => h) (Or.inl ⟨by rfl, ?_⟩) ?_ ?_
              rotate_left
              · intro w'
                go_simp
                with_reducible rfl
              rotate_left
              · simp only [Act.put, List.setIfInBounds_toArray, List.set_cons_zero, List.set_cons_succ, i64_w, i32_w]
                rfl
              refine pure_ (i := 5) (N := some 24) (v := ?_) (a' := ?_) #[true, true, true, true, false, true, false, false, false, false, false] rfl rfl (any_of HT_.out (by kernel_rfl)) (fun _ _ _ h => h) (Or.inl ⟨by rfl, ?_⟩) ?_ ?_
              rotate_left
              · intro w'
                go_simp
                with_reducible rfl
              rotate_left
              · simp only [Act.put, List.setIfInBounds_toArray, List.set_cons_zero, List.set_cons_succ, i64_w, i32_w]
                rfl
              refine pure_ (i := 6) (N := some 25) (v := ?_) (a' := ?_) #[true, true, true, true, false, true, true, false, false, false, false] rfl rfl (any_of HT_.out (by kernel_rfl)) (fun _ _ _ h => h) (Or.inl ⟨by rfl, ?_⟩) ?_ ?_
              rotate_left
              · intro w'
                go_simp
                with_reducible rfl
              rotate_left
              · simp only [Act.put, List.setIfInBounds_toArray, List.set_cons_zero, List.set_cons_succ, i64_w, i32_w]
                rfl
              refine pure_ (i := 7) (N := some 26) (v := ?_) (a' := ?_) #[true, true, true, true, false, true, true, true, false, false, false] rfl rfl (any_of HT_.out (by kernel_rfl)) (fun _ _ _ h => h) (Or.inl ⟨by rfl, ?_⟩) ?_ ?_
              rotate_left
              · intro w'
                go_simp
                with_reducible rfl
              rotate_left
              · simp only [Act.put, List.setIfInBounds_toArray, List.set_cons_zero, List.set_cons_succ, i64_w, i32_w]
                rfl
              refine take_ (i := 4) (N := some 23) (v := ?_) (a' := ?_) #[true, true, true, true, true, true, true, true, false, false, false] rfl rfl (take_ofW HT_.out HW_.out (by kernel_rfl)) (fun _ _ _ h => h) (Or.inl ⟨by rfl, ?_⟩) hHeld ?_ ?_
              rotate_left
              · rintro w' ⟨s0, s1, s2, s3⟩
                go_simp
                with_reducible rfl
              rotate_left
              · simp only [Act.put, List.setIfInBounds_toArray, List.set_cons_zero, List.set_cons_succ, i64_w, i32_w]
                rfl
              refine one_ (i := 8) (N := some 6) #[true, true, true, true, true, true, true, true, true, false, false] rfl rfl (one_of HT_.out (by kernel_rfl)) (by decide) (fun K hK => ?_)
              refine box_step ?hg (N := 6) ?hd (cs := #[.int .u64 0, .int .u64 0, .int .u64 0, .int .u64 0]) (t := 77) ?hr ?_; (case hd => rfl); (case hg => rfl); (case hr => first | (go_simp; done) | (go_simp; rfl))
              intro gb138 hg w17 hbox hb
              have HS0_ := (hb.cell (World.block_lt_of_cell? _ _ (hHeld.1))).trans (hHeld.1)
              have HS1_ := (hb.cell (World.block_lt_of_cell? _ _ (hHeld.2.1))).trans (hHeld.2.1)
              have HS2_ := (hb.cell (World.block_lt_of_cell? _ _ (hHeld.2.2.1))).trans (hHeld.2.2.1)
              have HS3_ := (hb.cell (World.block_lt_of_cell? _ _ (hHeld.2.2.2))).trans (hHeld.2.2.2)
              have n0_ := Aside0.mk (Kd.R_below (Kd.R_elderB (by (with_reducible repeat (first | apply Kd.R_alloc | apply Kd.R_drewN | apply Kd.R_drew)); exact HO136.out) gb138 (Nat.le_of_eq hg.symm)) hb)
              have n1_ := Aside0.mk (below_step (by repeat (first | (with_reducible first | exact HB.out | apply below_alloc | apply pw_below_drewN | apply below_drew1) | exact HB.out)) hb)
              have n2_ := Aside0.mk (hbox)
              have n3_ := Aside0.mk ((by rw [hg]; exact (below_size (by repeat (first | (with_reducible first | exact HB.out | apply below_alloc | apply pw_below_drewN | apply below_drew1) | exact HB.out))) : w.heap.size ≤ gb138))
              have n4_ := Aside0.mk ((by rw [hg]; exact (below_size (by repeat (first | (with_reducible first | exact HB.out | apply below_alloc | apply pw_below_drewN | apply below_drew1) | exact HB.out))) : w.heap.size ≤ gb138))
              clear HO136
              clear HB
              have HO136 := n0_
              have HB := n1_
              have BK138 := n2_
              have GW138 := n3_
              have GE138 := n4_
              clear n0_ n1_ n2_ n3_ n4_
              clear hb hbox hg
              refine hK.out _ _ ⟨HS0_, HS1_, HS2_, HS3_⟩ (fun hHeld => ?_)
              clear hK K
              refine norm_ (a' := ?_) ?_ ?_
              rotate_left
              · show Act.put _ (some 6) _ = _
                simp only [Act.put, List.setIfInBounds_toArray, List.set_cons_zero, List.set_cons_succ, i64_w, i32_w]
                rfl
              refine one_ (i := 9) (N := none) #[true, true, true, true, true, true, true, true, true, true, false] rfl rfl (one_of HT_.out (by kernel_rfl)) (by decide) (fun K hK => ?_)
              have hs18 : w17.cell? ⟨gb138, 0, none⟩ = some (.int .u64 0) := (blk_cell BK138.out 0).trans rfl
              have hfs18 := blk_frozen BK138.out 0
              have hs19 : w17.cell? ⟨gb138, 1, none⟩ = some (.int .u64 0) := (blk_cell BK138.out 1).trans rfl
              have hfs19 := blk_frozen BK138.out 1
              have hs20 : w17.cell? ⟨gb138, 2, none⟩ = some (.int .u64 0) := (blk_cell BK138.out 2).trans rfl
              have hfs20 := blk_frozen BK138.out 2
              have hs21 : w17.cell? ⟨gb138, 3, none⟩ = some (.int .u64 0) := (blk_cell BK138.out 3).trans rfl
              have hfs21 := blk_frozen BK138.out 3
              refine skip_ (w1 := ?_) (by rfl) rfl ?_ ?_
              rotate_left
              · go_simp
                rfl
              refine hK.out _ _ ⟨((cell_far (p := ⟨gb138, _, none⟩) (by first | exact Kd.own_blk (Kd.R_away HO136.out (fun _ hk => hk.2)) | (rw [add_block]; exact Kd.own_blk (Kd.R_away HO136.out (fun _ hk => hk.2))) | (show (Addr.add _ _).block ≠ _; rw [add_block]; exact Kd.own_blk (Kd.R_away HO136.out (fun _ hk => hk.2))) | (dsimp only; exact Kd.own_blk (Kd.R_away HO136.out (fun _ hk => hk.2)))) _).trans (((cell_far (p := ⟨gb138, _, none⟩) (by first | exact Kd.own_blk (Kd.R_away HO136.out (fun _ hk => hk.2)) | (rw [add_block]; exact Kd.own_blk (Kd.R_away HO136.out (fun _ hk => hk.2))) | (show (Addr.add _ _).block ≠ _; rw [add_block]; exact Kd.own_blk (Kd.R_away HO136.out (fun _ hk => hk.2))) | (dsimp only; exact Kd.own_blk (Kd.R_away HO136.out (fun _ hk => hk.2)))) _).trans (((cell_far (p := ⟨gb138, _, none⟩) (by first | exact Kd.own_blk (Kd.R_away HO136.out (fun _ hk => hk.2)) | (rw [add_block]; exact Kd.own_blk (Kd.R_away HO136.out (fun _ hk => hk.2))) | (show (Addr.add _ _).block ≠ _; rw [add_block]; exact Kd.own_blk (Kd.R_away HO136.out (fun _ hk => hk.2))) | (dsimp only; exact Kd.own_blk (Kd.R_away HO136.out (fun _ hk => hk.2)))) _).trans (((cell_far (p := ⟨gb138, _, none⟩) (by first | exact Kd.own_blk (Kd.R_away HO136.out (fun _ hk => hk.2)) | (rw [add_block]; exact Kd.own_blk (Kd.R_away HO136.out (fun _ hk => hk.2))) | (show (Addr.add _ _).block ≠ _; rw [add_block]; exact Kd.own_blk (Kd.R_away HO136.out (fun _ hk => hk.2))) | (dsimp only; exact Kd.own_blk (Kd.R_away HO136.out (fun _ hk => hk.2)))) _).trans (hHeld.1)))))))), ((cell_far (p := ⟨gb138, _, none⟩) (by first | exact Kd.own_blk (Kd.R_away HO136.out (fun _ hk => hk.2)) | (rw [add_block]; exact Kd.own_blk (Kd.R_away HO136.out (fun _ hk => hk.2))) | (show (Addr.add _ _).block ≠ _; rw [add_block]; exact Kd.own_blk (Kd.R_away HO136.out (fun _ hk => hk.2))) | (dsimp only; exact Kd.own_blk (Kd.R_away HO136.out (fun _ hk => hk.2)))) _).trans (((cell_far (p := ⟨gb138, _, none⟩) (by first | exact Kd.own_blk (Kd.R_away HO136.out (fun _ hk => hk.2)) | (rw [add_block]; exact Kd.own_blk (Kd.R_away HO136.out (fun _ hk => hk.2))) | (show (Addr.add _ _).block ≠ _; rw [add_block]; exact Kd.own_blk (Kd.R_away HO136.out (fun _ hk => hk.2))) | (dsimp only; exact Kd.own_blk (Kd.R_away HO136.out (fun _ hk => hk.2)))) _).trans (((cell_far (p := ⟨gb138, _, none⟩) (by first | exact Kd.own_blk (Kd.R_away HO136.out (fun _ hk => hk.2)) | (rw [add_block]; exact Kd.own_blk (Kd.R_away HO136.out (fun _ hk => hk.2))) | (show (Addr.add _ _).block ≠ _; rw [add_block]; exact Kd.own_blk (Kd.R_away HO136.out (fun _ hk => hk.2))) | (dsimp only; exact Kd.own_blk (Kd.R_away HO136.out (fun _ hk => hk.2)))) _).trans (((cell_far (p := ⟨gb138, _, none⟩) (by first | exact Kd.own_blk (Kd.R_away HO136.out (fun _ hk => hk.2)) | (rw [add_block]; exact Kd.own_blk (Kd.R_away HO136.out (fun _ hk => hk.2))) | (show (Addr.add _ _).block ≠ _; rw [add_block]; exact Kd.own_blk (Kd.R_away HO136.out (fun _ hk => hk.2))) | (dsimp only; exact Kd.own_blk (Kd.R_away HO136.out (fun _ hk => hk.2)))) _).trans (hHeld.2.1)))))))), ((cell_far (p := ⟨gb138, _, none⟩) (by first | exact Kd.own_blk (Kd.R_away HO136.out (fun _ hk => hk.2)) | (rw [add_block]; exact Kd.own_blk (Kd.R_away HO136.out (fun _ hk => hk.2))) | (show (Addr.add _ _).block ≠ _; rw [add_block]; exact Kd.own_blk (Kd.R_away HO136.out (fun _ hk => hk.2))) | (dsimp only; exact Kd.own_blk (Kd.R_away HO136.out (fun _ hk => hk.2)))) _).trans (((cell_far (p := ⟨gb138, _, none⟩) (by first | exact Kd.own_blk (Kd.R_away HO136.out (fun _ hk => hk.2)) | (rw [add_block]; exact Kd.own_blk (Kd.R_away HO136.out (fun _ hk => hk.2))) | (show (Addr.add _ _).block ≠ _; rw [add_block]; exact Kd.own_blk (Kd.R_away HO136.out (fun _ hk => hk.2))) | (dsimp only; exact Kd.own_blk (Kd.R_away HO136.out (fun _ hk => hk.2)))) _).trans (((cell_far (p := ⟨gb138, _, none⟩) (by first | exact Kd.own_blk (Kd.R_away HO136.out (fun _ hk => hk.2)) | (rw [add_block]; exact Kd.own_blk (Kd.R_away HO136.out (fun _ hk => hk.2))) | (show (Addr.add _ _).block ≠ _; rw [add_block]; exact Kd.own_blk (Kd.R_away HO136.out (fun _ hk => hk.2))) | (dsimp only; exact Kd.own_blk (Kd.R_away HO136.out (fun _ hk => hk.2)))) _).trans (((cell_far (p := ⟨gb138, _, none⟩) (by first | exact Kd.own_blk (Kd.R_away HO136.out (fun _ hk => hk.2)) | (rw [add_block]; exact Kd.own_blk (Kd.R_away HO136.out (fun _ hk => hk.2))) | (show (Addr.add _ _).block ≠ _; rw [add_block]; exact Kd.own_blk (Kd.R_away HO136.out (fun _ hk => hk.2))) | (dsimp only; exact Kd.own_blk (Kd.R_away HO136.out (fun _ hk => hk.2)))) _).trans (hHeld.2.2.1)))))))), ((cell_far (p := ⟨gb138, _, none⟩) (by first | exact Kd.own_blk (Kd.R_away HO136.out (fun _ hk => hk.2)) | (rw [add_block]; exact Kd.own_blk (Kd.R_away HO136.out (fun _ hk => hk.2))) | (show (Addr.add _ _).block ≠ _; rw [add_block]; exact Kd.own_blk (Kd.R_away HO136.out (fun _ hk => hk.2))) | (dsimp only; exact Kd.own_blk (Kd.R_away HO136.out (fun _ hk => hk.2)))) _).trans (((cell_far (p := ⟨gb138, _, none⟩) (by first | exact Kd.own_blk (Kd.R_away HO136.out (fun _ hk => hk.2)) | (rw [add_block]; exact Kd.own_blk (Kd.R_away HO136.out (fun _ hk => hk.2))) | (show (Addr.add _ _).block ≠ _; rw [add_block]; exact Kd.own_blk (Kd.R_away HO136.out (fun _ hk => hk.2))) | (dsimp only; exact Kd.own_blk (Kd.R_away HO136.out (fun _ hk => hk.2)))) _).trans (((cell_far (p := ⟨gb138, _, none⟩) (by first | exact Kd.own_blk (Kd.R_away HO136.out (fun _ hk => hk.2)) | (rw [add_block]; exact Kd.own_blk (Kd.R_away HO136.out (fun _ hk => hk.2))) | (show (Addr.add _ _).block ≠ _; rw [add_block]; exact Kd.own_blk (Kd.R_away HO136.out (fun _ hk => hk.2))) | (dsimp only; exact Kd.own_blk (Kd.R_away HO136.out (fun _ hk => hk.2)))) _).trans (((cell_far (p := ⟨gb138, _, none⟩) (by first | exact Kd.own_blk (Kd.R_away HO136.out (fun _ hk => hk.2)) | (rw [add_block]; exact Kd.own_blk (Kd.R_away HO136.out (fun _ hk => hk.2))) | (show (Addr.add _ _).block ≠ _; rw [add_block]; exact Kd.own_blk (Kd.R_away HO136.out (fun _ hk => hk.2))) | (dsimp only; exact Kd.own_blk (Kd.R_away HO136.out (fun _ hk => hk.2)))) _).trans (hHeld.2.2.2))))))))⟩ (fun hHeld => ?_)
              clear hK K
              refine pure_ (i := 10) (N := some 7) (v := ?_) (a' := ?_) #[true, true, true, true, true, true, true, true, true, true, true] rfl rfl (any_of HT_.out (by kernel_rfl)) (fun _ _ _ h => h) (Or.inl ⟨by rfl, ?_⟩) ?_ ?_
              rotate_left
              · intro w'
                go_simp
                with_reducible rfl
              rotate_left
              · simp only [Act.put, List.setIfInBounds_toArray, List.set_cons_zero, List.set_cons_succ, i64_w, i32_w]
                rfl
              refine done_ (done_of HT_.out (by kernel_rfl)) ?_
              go_upto_region 5 with (fail)
              go_cut [8] (fun v8 wc => ∃ (kq : Nat) (x8_12 : Bool), v8 = .bool x8_12 ∧ Aside0 (marks_Kind.j1 kq a0 a1 ji12 x8_12 ((rd_T77 t134 (ji7)).f0) ((rd_T77 t134 (ji7)).f1) ((rd_T77 t134 (ji7)).f2) ((rd_T77 t134 (ji7)).f3) = some r) ∧ Aside0 (kq ≤ kj2) ∧ Aside0 (wc.heap[gb138]? = some (.cells #[.int .u64 ((rd_T77 t134 (ji7)).f0), .int .u64 ((rd_T77 t134 (ji7)).f1), .int .u64 ((rd_T77 t134 (ji7)).f2), .int .u64 ((rd_T77 t134 (ji7)).f3)] 77 (0, 0))) ∧ Aside0 (Below w.heap.size w wc))
              case first =>
                have H := HC13.out
                clear HC13
                by_cases c22 : a1 ≥ 64
                · rw [if_pos c22] at H
                  have c22b0 : decide (64 ≤ a1) = true := decide_eq_true c22
                  clear c22
                  (first | rw [c22b0] | (simp only [i64_w, i32_w]; rw [c22b0]) | skip)
                  obtain ⟨ji23, hji23⟩ : ∃ j_ : Int, (wrap64 ((ji7) - 1)) = j_ := ⟨_, rfl⟩
                  replace H : (if 0 ≤ (ji23) then (if (ji23) < (t134.length : Int) then ((marks_rows_ends.f ((rd_T77 t134 (ji23)).f0) ((rd_T77 t134 (ji23)).f1) ((rd_T77 t134 (ji23)).f2) ((rd_T77 t134 (ji23)).f3)).bind fun t140 => (marks_Kind.j1 kj2 a0 a1 ji12 t140 ((rd_T77 t134 (ji7)).f0) ((rd_T77 t134 (ji7)).f1) ((rd_T77 t134 (ji7)).f2) ((rd_T77 t134 (ji7)).f3))) else (none)) else (none)) = some r := by first | (rw [hji23] at H; exact H) | (simp only [hji23] at H ⊢; exact H)
                  have hji23w : (IntKind.i64.wrap ((ji7) - 1)) = ji23 := (i64_w _).trans hji23
                  by_cases c24 : 0 ≤ (ji23)
                  · rw [if_pos c24] at H
                    have c24b0 : decide (0 ≤ (ji23)) = true := decide_eq_true c24
                    clear c24
                    by_cases c25 : (ji23) < (t134.length : Int)
                    · rw [if_pos c25] at H
                      have c25b0 : decide ((ji23) < (t134.length : Int)) = true := decide_eq_true c25
                      clear c25
                      replace H := Option.bind_eq_some_iff.mp H
                      obtain ⟨t140, A260, H⟩ := H
                      replace H : (marks_Kind.j1 kj2 a0 a1 ji12 t140 ((rd_T77 t134 (ji7)).f0) ((rd_T77 t134 (ji7)).f1) ((rd_T77 t134 (ji7)).f2) ((rd_T77 t134 (ji7)).f3)) = some r := H
                      have A26 := Aside0.mk A260
                      clear A260
                      have H' := Aside0.mk H
                      clear H
                      have p139 : 0 ≤ ((ji23) : Int) := of_decide_eq_true (by first | (with_reducible assumption) | assumption)
                      have q139 : (ji23) < (t134.length : Int) := of_decide_eq_true (by first | (with_reducible assumption) | assumption)
                      obtain ⟨ad139, e139, hx139_0, hx139_1, hx139_2, hx139_3⟩ := at_T77 (Kd.R_reads' HO136.out).2.2 (ji23) p139 q139
                      obtain rfl : ad137 = ad139 := (by injection e139)
                      have hn139_0 : ad137.block ≠ gb138 := (by first | exact Kd.own_blk (Kd.R_ne HO136.out BK138.out (by decide)) | exact Kd.own_blk (Kd.R_away HO136.out (fun _ hk => hk.2)))
                      have hn139_1 : ad137.block ≠ gb138 := (by first | exact Kd.own_blk (Kd.R_ne HO136.out BK138.out (by decide)) | exact Kd.own_blk (Kd.R_away HO136.out (fun _ hk => hk.2)))
                      have hn139_2 : ad137.block ≠ gb138 := (by first | exact Kd.own_blk (Kd.R_ne HO136.out BK138.out (by decide)) | exact Kd.own_blk (Kd.R_away HO136.out (fun _ hk => hk.2)))
                      have hn139_3 : ad137.block ≠ gb138 := (by first | exact Kd.own_blk (Kd.R_ne HO136.out BK138.out (by decide)) | exact Kd.own_blk (Kd.R_away HO136.out (fun _ hk => hk.2)))
                      replace hx139_0 := (cell_far (p := ⟨gb138, 0, none⟩) (by first | (rw [add_block]; exact hn139_0) | (show (Addr.add _ _).block ≠ _; rw [add_block]; exact hn139_0) | exact hn139_0) (.int .u64 ((rd_T77 t134 (ji7)).f0))).trans hx139_0
                      replace hx139_1 := (cell_far (p := ⟨gb138, 0, none⟩) (by first | (rw [add_block]; exact hn139_0) | (show (Addr.add _ _).block ≠ _; rw [add_block]; exact hn139_0) | exact hn139_0) (.int .u64 ((rd_T77 t134 (ji7)).f0))).trans hx139_1
                      replace hx139_2 := (cell_far (p := ⟨gb138, 0, none⟩) (by first | (rw [add_block]; exact hn139_0) | (show (Addr.add _ _).block ≠ _; rw [add_block]; exact hn139_0) | exact hn139_0) (.int .u64 ((rd_T77 t134 (ji7)).f0))).trans hx139_2
                      replace hx139_3 := (cell_far (p := ⟨gb138, 0, none⟩) (by first | (rw [add_block]; exact hn139_0) | (show (Addr.add _ _).block ≠ _; rw [add_block]; exact hn139_0) | exact hn139_0) (.int .u64 ((rd_T77 t134 (ji7)).f0))).trans hx139_3
                      replace hx139_0 := (cell_far (p := ⟨gb138, 1, none⟩) (by first | (rw [add_block]; exact hn139_1) | (show (Addr.add _ _).block ≠ _; rw [add_block]; exact hn139_1) | exact hn139_1) (.int .u64 ((rd_T77 t134 (ji7)).f1))).trans hx139_0
                      replace hx139_1 := (cell_far (p := ⟨gb138, 1, none⟩) (by first | (rw [add_block]; exact hn139_1) | (show (Addr.add _ _).block ≠ _; rw [add_block]; exact hn139_1) | exact hn139_1) (.int .u64 ((rd_T77 t134 (ji7)).f1))).trans hx139_1
                      replace hx139_2 := (cell_far (p := ⟨gb138, 1, none⟩) (by first | (rw [add_block]; exact hn139_1) | (show (Addr.add _ _).block ≠ _; rw [add_block]; exact hn139_1) | exact hn139_1) (.int .u64 ((rd_T77 t134 (ji7)).f1))).trans hx139_2
                      replace hx139_3 := (cell_far (p := ⟨gb138, 1, none⟩) (by first | (rw [add_block]; exact hn139_1) | (show (Addr.add _ _).block ≠ _; rw [add_block]; exact hn139_1) | exact hn139_1) (.int .u64 ((rd_T77 t134 (ji7)).f1))).trans hx139_3
                      replace hx139_0 := (cell_far (p := ⟨gb138, 2, none⟩) (by first | (rw [add_block]; exact hn139_2) | (show (Addr.add _ _).block ≠ _; rw [add_block]; exact hn139_2) | exact hn139_2) (.int .u64 ((rd_T77 t134 (ji7)).f2))).trans hx139_0
                      replace hx139_1 := (cell_far (p := ⟨gb138, 2, none⟩) (by first | (rw [add_block]; exact hn139_2) | (show (Addr.add _ _).block ≠ _; rw [add_block]; exact hn139_2) | exact hn139_2) (.int .u64 ((rd_T77 t134 (ji7)).f2))).trans hx139_1
                      replace hx139_2 := (cell_far (p := ⟨gb138, 2, none⟩) (by first | (rw [add_block]; exact hn139_2) | (show (Addr.add _ _).block ≠ _; rw [add_block]; exact hn139_2) | exact hn139_2) (.int .u64 ((rd_T77 t134 (ji7)).f2))).trans hx139_2
                      replace hx139_3 := (cell_far (p := ⟨gb138, 2, none⟩) (by first | (rw [add_block]; exact hn139_2) | (show (Addr.add _ _).block ≠ _; rw [add_block]; exact hn139_2) | exact hn139_2) (.int .u64 ((rd_T77 t134 (ji7)).f2))).trans hx139_3
                      replace hx139_0 := (cell_far (p := ⟨gb138, 3, none⟩) (by first | (rw [add_block]; exact hn139_3) | (show (Addr.add _ _).block ≠ _; rw [add_block]; exact hn139_3) | exact hn139_3) (.int .u64 ((rd_T77 t134 (ji7)).f3))).trans hx139_0
                      replace hx139_1 := (cell_far (p := ⟨gb138, 3, none⟩) (by first | (rw [add_block]; exact hn139_3) | (show (Addr.add _ _).block ≠ _; rw [add_block]; exact hn139_3) | exact hn139_3) (.int .u64 ((rd_T77 t134 (ji7)).f3))).trans hx139_1
                      replace hx139_2 := (cell_far (p := ⟨gb138, 3, none⟩) (by first | (rw [add_block]; exact hn139_3) | (show (Addr.add _ _).block ≠ _; rw [add_block]; exact hn139_3) | exact hn139_3) (.int .u64 ((rd_T77 t134 (ji7)).f3))).trans hx139_2
                      replace hx139_3 := (cell_far (p := ⟨gb138, 3, none⟩) (by first | (rw [add_block]; exact hn139_3) | (show (Addr.add _ _).block ≠ _; rw [add_block]; exact hn139_3) | exact hn139_3) (.int .u64 ((rd_T77 t134 (ji7)).f3))).trans hx139_3
                      clear hn139_0
                      clear hn139_1
                      clear hn139_2
                      clear hn139_3
                      replace p139 := eq_true p139
                      replace q139 := eq_true q139
                      go_wp2_with (first | (go_at_call 59; (with_reducible refine (marks_rows_ends.calls ((rd_T77 t134 (ji23)).f0) ((rd_T77 t134 (ji23)).f1) ((rd_T77 t134 (ji23)).f2) ((rd_T77 t134 (ji23)).f3) t140 _ A26.out).mono ?_); rintro e w27 ⟨rfl, hb⟩; have n0_ := Aside0.mk (Kd.R_below (by (with_reducible repeat (first | apply Kd.R_alloc | apply Kd.R_drewN | apply Kd.R_drew)); exact (Kd.R_mono (Kd.R_far (p := ⟨gb138, 3, none⟩) (Kd.R_far (p := ⟨gb138, 2, none⟩) (Kd.R_far (p := ⟨gb138, 1, none⟩) (Kd.R_far (p := ⟨gb138, 0, none⟩) (Kd.R_mono HO136.out (fun k_ hk => (⟨hk, hk.2⟩ : _ ∧ k_ ≠ gb138))) (fun _ hk => hk.2) (.int .u64 ((rd_T77 t134 (ji7)).f0))) (fun _ hk => hk.2) (.int .u64 ((rd_T77 t134 (ji7)).f1))) (fun _ hk => hk.2) (.int .u64 ((rd_T77 t134 (ji7)).f2))) (fun _ hk => hk.2) (.int .u64 ((rd_T77 t134 (ji7)).f3))) (fun _ h_ => h_.1))) hb); have n1_ := Aside0.mk (blk_below (g := gb138) (o := .cells #[.int .u64 ((rd_T77 t134 (ji7)).f0), .int .u64 ((rd_T77 t134 (ji7)).f1), .int .u64 ((rd_T77 t134 (ji7)).f2), .int .u64 ((rd_T77 t134 (ji7)).f3)] 77 (0, 0)) (by (with_reducible repeat (first | refine blk_drewN ?_ _ | refine blk_drew ?_ | refine blk_alloc ?_ _)); refine blk_put (cs := #[.int .u64 ((rd_T77 t134 (ji7)).f0), .int .u64 ((rd_T77 t134 (ji7)).f1), .int .u64 ((rd_T77 t134 (ji7)).f2), .int .u64 0]) ?_ 3 _ rfl; (with_reducible repeat (first | refine blk_drewN ?_ _ | refine blk_drew ?_ | refine blk_alloc ?_ _)); refine blk_put (cs := #[.int .u64 ((rd_T77 t134 (ji7)).f0), .int .u64 ((rd_T77 t134 (ji7)).f1), .int .u64 0, .int .u64 0]) ?_ 2 _ rfl; (with_reducible repeat (first | refine blk_drewN ?_ _ | refine blk_drew ?_ | refine blk_alloc ?_ _)); refine blk_put (cs := #[.int .u64 ((rd_T77 t134 (ji7)).f0), .int .u64 0, .int .u64 0, .int .u64 0]) ?_ 1 _ rfl; (with_reducible repeat (first | refine blk_drewN ?_ _ | refine blk_drew ?_ | refine blk_alloc ?_ _)); refine blk_put (cs := #[.int .u64 0, .int .u64 0, .int .u64 0, .int .u64 0]) ?_ 0 _ rfl; (with_reducible repeat (first | refine blk_drewN ?_ _ | refine blk_drew ?_ | refine blk_alloc ?_ _)); exact BK138.out) hb); have n2_ := Aside0.mk (below_step (by repeat (first | (with_reducible first | exact HB.out | apply below_alloc | apply pw_below_drewN | apply below_drew1 | refine below_set ?_ GE138.out) | exact HB.out)) hb); clear HO136; clear BK138; clear HB; have HO136 := n0_; have BK138 := n1_; have HB := n2_; clear n0_ n1_ n2_; (try clear hb); (try clear hb2); (try clear hk); (try clear hi)))
                      go_meet
                      case rel => exact ⟨_, (t140), (by first | rfl | (simp; done) | (simp [*]; done)), H', ⟨by have := HJ2.out; first | omega | exact Nat.le_refl _⟩, ⟨by (with_reducible repeat (first | refine blk_drewN ?_ _ | refine blk_drew ?_ | refine blk_alloc ?_ _)); exact BK138.out⟩, ⟨by repeat (first | (with_reducible first | exact HB.out | apply below_alloc | apply pw_below_drewN | apply below_drew1 | refine below_set ?_ GE138.out) | exact HB.out)⟩⟩
                    · rw [if_neg c25] at H
                      exact absurd H (by simp)
                  · rw [if_neg c24] at H
                    exact absurd H (by simp)
                · rw [if_neg c22] at H
                  have c22b0 : decide (64 ≤ a1) = false := decide_eq_false c22
                  clear c22
                  (first | rw [c22b0] | (simp only [i64_w, i32_w]; rw [c22b0]) | skip)
                  have H' := Aside0.mk H
                  clear H
                  go_wp2
                  go_meet
                  case rel => exact ⟨_, (false), (by first | rfl | (simp; done) | (simp [*]; done)), H', ⟨by have := HJ2.out; first | omega | exact Nat.le_refl _⟩, ⟨by (with_reducible repeat (first | refine blk_drewN ?_ _ | refine blk_drew ?_ | refine blk_alloc ?_ _)); refine blk_put (cs := #[.int .u64 ((rd_T77 t134 (ji7)).f0), .int .u64 ((rd_T77 t134 (ji7)).f1), .int .u64 ((rd_T77 t134 (ji7)).f2), .int .u64 0]) ?_ 3 _ rfl; (with_reducible repeat (first | refine blk_drewN ?_ _ | refine blk_drew ?_ | refine blk_alloc ?_ _)); refine blk_put (cs := #[.int .u64 ((rd_T77 t134 (ji7)).f0), .int .u64 ((rd_T77 t134 (ji7)).f1), .int .u64 0, .int .u64 0]) ?_ 2 _ rfl; (with_reducible repeat (first | refine blk_drewN ?_ _ | refine blk_drew ?_ | refine blk_alloc ?_ _)); refine blk_put (cs := #[.int .u64 ((rd_T77 t134 (ji7)).f0), .int .u64 0, .int .u64 0, .int .u64 0]) ?_ 1 _ rfl; (with_reducible repeat (first | refine blk_drewN ?_ _ | refine blk_drew ?_ | refine blk_alloc ?_ _)); refine blk_put (cs := #[.int .u64 0, .int .u64 0, .int .u64 0, .int .u64 0]) ?_ 0 _ rfl; (with_reducible repeat (first | refine blk_drewN ?_ _ | refine blk_drew ?_ | refine blk_alloc ?_ _)); exact BK138.out⟩, ⟨by repeat (first | (with_reducible first | exact HB.out | apply below_alloc | apply pw_below_drewN | apply below_drew1 | refine below_set ?_ GE138.out) | exact HB.out)⟩⟩
              case rest =>
                clear HC13
                try clear c1
                try clear p1
                try clear q1
                try clear hx1
                try clear c2
                try clear p2
                try clear c4
                try clear c4b0
                try clear c5
                try clear p6
                try clear c8
                try clear c8b0
                try clear c9
                try clear c9b0
                try clear c11
                try clear c11b0
                try clear c11b1
                try clear p13
                try clear q13
                try clear hx13
                try clear c22
                try clear c22b0
                try clear c24
                try clear c24b0
                try clear c25
                try clear c25b0
                try clear hx137_0
                try clear hx137_1
                try clear hx137_2
                try clear hx137_3
                try clear hx139_0
                try clear hx139_1
                try clear hx139_2
                try clear hx139_3
                try clear p137
                try clear p139
                try clear p2
                try clear q137
                try clear q139
                obtain ⟨kq, x8_12, rfl, HA, HJ12, BK138, HB⟩ := hcut
                cases kq with
                | zero => exact absurd HA.out (by simp [marks_Kind.j1])
                | succ kj12 =>
                  have H := HA.out
                  clear HA
                  simp only [marks_Kind.j1] at H
                  by_cases c28 : (Go.bits .and .u64 (Go.bits .or .u64 ((rd_T77 t134 (ji7)).f0) ((rd_T77 t134 (ji7)).f2)) ji12) = 0
                  · rw [if_pos c28] at H
                    have c28b0 : ((Go.bits .and .u64 (Go.bits .or .u64 ((rd_T77 t134 (ji7)).f0) ((rd_T77 t134 (ji7)).f2)) ji12) == 0) = true := beq_iff_eq.mpr c28
                    have c28b1 : ((Go.bits .and .u64 (Go.bits .or .u64 ((rd_T77 t134 (ji7)).f0) ((rd_T77 t134 (ji7)).f2)) ji12) != 0) = false := bne_eq_false_iff_eq.mpr c28
                    clear c28
                    replace H := Option.bind_eq_some_iff.mp H
                    obtain ⟨t141, A290, H⟩ := H
                    replace H : (if (Go.bits .and .u64 t141 ji12) = 0 then (some 0) else (some 119)) = some r := H
                    have A29 := Aside0.mk A290
                    clear A290
                    by_cases c30 : (Go.bits .and .u64 t141 ji12) = 0
                    · rw [if_pos c30] at H
                      have c30b0 : ((Go.bits .and .u64 t141 ji12) == 0) = true := beq_iff_eq.mpr c30
                      have c30b1 : ((Go.bits .and .u64 t141 ji12) != 0) = false := bne_eq_false_iff_eq.mpr c30
                      clear c30
                      obtain rfl := Option.some.inj H
                      have hcz31_0 : wc.cell? ⟨gb138, 0, none⟩ = some (.int .u64 ((rd_T77 t134 (ji7)).f0)) := (blk_cell BK138.out 0).trans rfl
                      have hcz31_1 : wc.cell? ⟨gb138, 1, none⟩ = some (.int .u64 ((rd_T77 t134 (ji7)).f1)) := (blk_cell BK138.out 1).trans rfl
                      have hcz31_2 : wc.cell? ⟨gb138, 2, none⟩ = some (.int .u64 ((rd_T77 t134 (ji7)).f2)) := (blk_cell BK138.out 2).trans rfl
                      have hcz31_3 : wc.cell? ⟨gb138, 3, none⟩ = some (.int .u64 ((rd_T77 t134 (ji7)).f3)) := (blk_cell BK138.out 3).trans rfl
                      have hfz31_0 := blk_frozen BK138.out 0
                      have hfz31_1 := blk_frozen BK138.out 1
                      have hfz31_2 := blk_frozen BK138.out 2
                      have hfz31_3 := blk_frozen BK138.out 3
                      go_wp2_with (first | ((with_reducible refine gate_callee (f := 60) rfl ?_); refine goesL_ (some 53) rfl rfl Tryd.func60 (by kernel_rfl) rfl #[.agg #[.int .u64 ((rd_T77 t134 (ji7)).f0), .int .u64 ((rd_T77 t134 (ji7)).f1), .int .u64 ((rd_T77 t134 (ji7)).f2), .int .u64 ((rd_T77 t134 (ji7)).f3)], .bool x8_12] rfl (by (try simp only [List.map_toArray, List.map_cons, List.map_nil]); first | done | (simp only [hji7]; rfl) | rfl | (simp only [List.length_drop, List.length_take]; rfl)) ?_; (with_reducible refine (marks_rows_starts.calls ((rd_T77 t134 (ji7)).f0) ((rd_T77 t134 (ji7)).f1) ((rd_T77 t134 (ji7)).f2) ((rd_T77 t134 (ji7)).f3) x8_12 t141 _ A29.out).mono ?_); rintro e w32 ⟨rfl, hb⟩; refine ⟨_, rfl, ?_⟩; have n0_ := Aside0.mk (blk_below (g := gb138) (o := .cells #[.int .u64 ((rd_T77 t134 (ji7)).f0), .int .u64 ((rd_T77 t134 (ji7)).f1), .int .u64 ((rd_T77 t134 (ji7)).f2), .int .u64 ((rd_T77 t134 (ji7)).f3)] 77 (0, 0)) (by (with_reducible repeat (first | refine blk_drewN ?_ _ | refine blk_drew ?_ | refine blk_alloc ?_ _)); exact BK138.out) hb); have n1_ := Aside0.mk (below_step (by repeat (first | (with_reducible first | exact HB.out | apply below_alloc | apply pw_below_drewN | apply below_drew1 | refine below_set ?_ GE138.out) | exact HB.out)) hb); clear BK138; clear HB; have BK138 := n0_; have HB := n1_; clear n0_ n1_; (try clear hb); (try clear hb2); (try clear hk); (try clear hi)))
                      go_ret
                      exact ⟨by first | rfl | (simp [errW_none, errW_some] <;> rfl) | (simp only [← hji7, ← hji10, ← hji12]; first | rfl | (simp [errW_none, errW_some] <;> rfl)) | (simp [*, errW_none, errW_some] <;> rfl), by repeat (first | (with_reducible first | exact HB.out | apply below_alloc | apply pw_below_drewN | apply below_drew1 | refine below_set ?_ GE138.out) | exact HB.out)⟩
                    · rw [if_neg c30] at H
                      have c30b0 : ((Go.bits .and .u64 t141 ji12) == 0) = false := beq_eq_false_iff_ne.mpr c30
                      have c30b1 : ((Go.bits .and .u64 t141 ji12) != 0) = true := bne_iff_ne.mpr c30
                      obtain rfl := Option.some.inj H
                      have hcz33_0 : wc.cell? ⟨gb138, 0, none⟩ = some (.int .u64 ((rd_T77 t134 (ji7)).f0)) := (blk_cell BK138.out 0).trans rfl
                      have hcz33_1 : wc.cell? ⟨gb138, 1, none⟩ = some (.int .u64 ((rd_T77 t134 (ji7)).f1)) := (blk_cell BK138.out 1).trans rfl
                      have hcz33_2 : wc.cell? ⟨gb138, 2, none⟩ = some (.int .u64 ((rd_T77 t134 (ji7)).f2)) := (blk_cell BK138.out 2).trans rfl
                      have hcz33_3 : wc.cell? ⟨gb138, 3, none⟩ = some (.int .u64 ((rd_T77 t134 (ji7)).f3)) := (blk_cell BK138.out 3).trans rfl
                      have hfz33_0 := blk_frozen BK138.out 0
                      have hfz33_1 := blk_frozen BK138.out 1
                      have hfz33_2 := blk_frozen BK138.out 2
                      have hfz33_3 := blk_frozen BK138.out 3
                      go_wp2_with (first | ((with_reducible refine gate_callee (f := 60) rfl ?_); refine goesL_ (some 53) rfl rfl Tryd.func60 (by kernel_rfl) rfl #[.agg #[.int .u64 ((rd_T77 t134 (ji7)).f0), .int .u64 ((rd_T77 t134 (ji7)).f1), .int .u64 ((rd_T77 t134 (ji7)).f2), .int .u64 ((rd_T77 t134 (ji7)).f3)], .bool x8_12] rfl (by (try simp only [List.map_toArray, List.map_cons, List.map_nil]); first | done | (simp only [hji7]; rfl) | rfl | (simp only [List.length_drop, List.length_take]; rfl)) ?_; (with_reducible refine (marks_rows_starts.calls ((rd_T77 t134 (ji7)).f0) ((rd_T77 t134 (ji7)).f1) ((rd_T77 t134 (ji7)).f2) ((rd_T77 t134 (ji7)).f3) x8_12 t141 _ A29.out).mono ?_); rintro e w34 ⟨rfl, hb⟩; refine ⟨_, rfl, ?_⟩; have n0_ := Aside0.mk (blk_below (g := gb138) (o := .cells #[.int .u64 ((rd_T77 t134 (ji7)).f0), .int .u64 ((rd_T77 t134 (ji7)).f1), .int .u64 ((rd_T77 t134 (ji7)).f2), .int .u64 ((rd_T77 t134 (ji7)).f3)] 77 (0, 0)) (by (with_reducible repeat (first | refine blk_drewN ?_ _ | refine blk_drew ?_ | refine blk_alloc ?_ _)); exact BK138.out) hb); have n1_ := Aside0.mk (below_step (by repeat (first | (with_reducible first | exact HB.out | apply below_alloc | apply pw_below_drewN | apply below_drew1 | refine below_set ?_ GE138.out) | exact HB.out)) hb); clear BK138; clear HB; have BK138 := n0_; have HB := n1_; clear n0_ n1_; (try clear hb); (try clear hb2); (try clear hk); (try clear hi)))
                      go_ret
                      exact ⟨by first | rfl | (simp [errW_none, errW_some] <;> rfl) | (simp only [← hji7, ← hji10, ← hji12]; first | rfl | (simp [errW_none, errW_some] <;> rfl)) | (simp [*, errW_none, errW_some] <;> rfl), by repeat (first | (with_reducible first | exact HB.out | apply below_alloc | apply pw_below_drewN | apply below_drew1 | refine below_set ?_ GE138.out) | exact HB.out)⟩
                  · rw [if_neg c28] at H
                    have c28b0 : ((Go.bits .and .u64 (Go.bits .or .u64 ((rd_T77 t134 (ji7)).f0) ((rd_T77 t134 (ji7)).f2)) ji12) == 0) = false := beq_eq_false_iff_ne.mpr c28
                    have c28b1 : ((Go.bits .and .u64 (Go.bits .or .u64 ((rd_T77 t134 (ji7)).f0) ((rd_T77 t134 (ji7)).f2)) ji12) != 0) = true := bne_iff_ne.mpr c28
                    by_cases c35 : 0 ≤ a1
                    · rw [if_pos c35] at H
                      have c35b0 : decide (0 ≤ a1) = true := decide_eq_true c35
                      clear c35
                      by_cases c36 : a1 < (a0.size : Int)
                      · rw [if_pos c36] at H
                        have c36b0 : decide (a1 < (a0.size : Int)) = true := decide_eq_true c36
                        clear c36
                        obtain rfl := Option.some.inj H
                        have hcz38_0 : wc.cell? ⟨gb138, 0, none⟩ = some (.int .u64 ((rd_T77 t134 (ji7)).f0)) := (blk_cell BK138.out 0).trans rfl
                        have hcz38_1 : wc.cell? ⟨gb138, 1, none⟩ = some (.int .u64 ((rd_T77 t134 (ji7)).f1)) := (blk_cell BK138.out 1).trans rfl
                        have hcz38_2 : wc.cell? ⟨gb138, 2, none⟩ = some (.int .u64 ((rd_T77 t134 (ji7)).f2)) := (blk_cell BK138.out 2).trans rfl
                        have hcz38_3 : wc.cell? ⟨gb138, 3, none⟩ = some (.int .u64 ((rd_T77 t134 (ji7)).f3)) := (blk_cell BK138.out 3).trans rfl
                        have hfz38_0 := blk_frozen BK138.out 0
                        have hfz38_1 := blk_frozen BK138.out 1
                        have hfz38_2 := blk_frozen BK138.out 2
                        have hfz38_3 := blk_frozen BK138.out 3
                        have p37 : 0 ≤ (a1 : Int) := of_decide_eq_true (by first | (with_reducible assumption) | assumption)
                        have q37 : a1 < (a0.size : Int) := of_decide_eq_true (by first | (with_reducible assumption) | assumption)
                        have hx37 := bt_at a0 a1
                        replace p37 := eq_true p37
                        replace q37 := eq_true q37
                        go_wp2
                        go_ret
                        exact ⟨by first | rfl | (simp [errW_none, errW_some] <;> rfl) | (simp only [← hji7, ← hji10, ← hji12]; first | rfl | (simp [errW_none, errW_some] <;> rfl)) | (simp [*, errW_none, errW_some] <;> rfl), by repeat (first | (with_reducible first | exact HB.out | apply below_alloc | apply pw_below_drewN | apply below_drew1 | refine below_set ?_ GE138.out) | exact HB.out)⟩
                      · rw [if_neg c36] at H
                        exact absurd H (by simp)
                    · rw [if_neg c35] at H
                      exact absurd H (by simp)
            · rw [if_neg c11] at H
              exact absurd H (by simp)
          · rw [if_neg c9] at H
            exact absurd H (by simp)
        · rw [if_neg c8] at H
          exact absurd H (by simp)

def quarrylaw08_sign.f (a0 : Int) : Option (Bool) := if a0 = 123 then (some true) else (if a0 = 125 then (some true) else (if a0 = 91 then (some true) else (if a0 = 93 then (some true) else (if a0 = 58 then (some true) else (some (a0 == 44))))))
set_option maxHeartbeats 8000000 in
set_option maxRecDepth 100000 in
theorem quarrylaw08_sign.calls (a0 : Int) (r : Bool) (w : World) (h : quarrylaw08_sign.f a0 = some r) :
    Calls Tryd.prog 24 #[.int .u8 a0] w fun e w' => e = .returned (.bool r) ∧ Drawn0 w w' := by
  have H : (if a0 = 123 then (some true) else (if a0 = 125 then (some true) else (if a0 = 91 then (some true) else (if a0 = 93 then (some true) else (if a0 = 58 then (some true) else (some (a0 == 44))))))) = some r := h
  clear h
  by_cases c2 : a0 = 123
  · rw [if_pos c2] at H
    have c2b0 : (a0 == 123) = true := beq_iff_eq.mpr c2
    have c2b1 : (a0 != 123) = false := bne_eq_false_iff_eq.mpr c2
    clear c2
    obtain rfl := Option.some.inj H
    go_enter Tryd.func24, Tryd.ntmps24
    go_wp2
    go_ret
    exact ⟨by first | rfl | (simp; done) | (simp [*]; done), by repeat (first | exact Drawn0.refl _ | apply Drawn0.step)⟩
  · rw [if_neg c2] at H
    have c2b0 : (a0 == 123) = false := beq_eq_false_iff_ne.mpr c2
    have c2b1 : (a0 != 123) = true := bne_iff_ne.mpr c2
    by_cases c3 : a0 = 125
    · rw [if_pos c3] at H
      have c3b0 : (a0 == 125) = true := beq_iff_eq.mpr c3
      have c3b1 : (a0 != 125) = false := bne_eq_false_iff_eq.mpr c3
      clear c3
      obtain rfl := Option.some.inj H
      go_enter Tryd.func24, Tryd.ntmps24
      go_wp2
      go_ret
      exact ⟨by first | rfl | (simp; done) | (simp [*]; done), by repeat (first | exact Drawn0.refl _ | apply Drawn0.step)⟩
    · rw [if_neg c3] at H
      have c3b0 : (a0 == 125) = false := beq_eq_false_iff_ne.mpr c3
      have c3b1 : (a0 != 125) = true := bne_iff_ne.mpr c3
      by_cases c4 : a0 = 91
      · rw [if_pos c4] at H
        have c4b0 : (a0 == 91) = true := beq_iff_eq.mpr c4
        have c4b1 : (a0 != 91) = false := bne_eq_false_iff_eq.mpr c4
        clear c4
        obtain rfl := Option.some.inj H
        go_enter Tryd.func24, Tryd.ntmps24
        go_wp2
        go_ret
        exact ⟨by first | rfl | (simp; done) | (simp [*]; done), by repeat (first | exact Drawn0.refl _ | apply Drawn0.step)⟩
      · rw [if_neg c4] at H
        have c4b0 : (a0 == 91) = false := beq_eq_false_iff_ne.mpr c4
        have c4b1 : (a0 != 91) = true := bne_iff_ne.mpr c4
        by_cases c5 : a0 = 93
        · rw [if_pos c5] at H
          have c5b0 : (a0 == 93) = true := beq_iff_eq.mpr c5
          have c5b1 : (a0 != 93) = false := bne_eq_false_iff_eq.mpr c5
          clear c5
          obtain rfl := Option.some.inj H
          go_enter Tryd.func24, Tryd.ntmps24
          go_wp2
          go_ret
          exact ⟨by first | rfl | (simp; done) | (simp [*]; done), by repeat (first | exact Drawn0.refl _ | apply Drawn0.step)⟩
        · rw [if_neg c5] at H
          have c5b0 : (a0 == 93) = false := beq_eq_false_iff_ne.mpr c5
          have c5b1 : (a0 != 93) = true := bne_iff_ne.mpr c5
          by_cases c6 : a0 = 58
          · rw [if_pos c6] at H
            have c6b0 : (a0 == 58) = true := beq_iff_eq.mpr c6
            have c6b1 : (a0 != 58) = false := bne_eq_false_iff_eq.mpr c6
            clear c6
            obtain rfl := Option.some.inj H
            go_enter Tryd.func24, Tryd.ntmps24
            go_wp2
            go_ret
            exact ⟨by first | rfl | (simp; done) | (simp [*]; done), by repeat (first | exact Drawn0.refl _ | apply Drawn0.step)⟩
          · rw [if_neg c6] at H
            have c6b0 : (a0 == 58) = false := beq_eq_false_iff_ne.mpr c6
            have c6b1 : (a0 != 58) = true := bne_iff_ne.mpr c6
            obtain rfl := Option.some.inj H
            go_enter Tryd.func24, Tryd.ntmps24
            go_wp2
            go_ret
            exact ⟨by first | rfl | (simp; done) | (simp [*]; done), by repeat (first | exact Drawn0.refl _ | apply Drawn0.step)⟩

end Go.Proofs.YtgddljealeklkaaDoor.PM
end
-- PMx6
section
namespace Go.Proofs.YtgddljealeklkaaDoor.PM
attribute [local go_sem] Go.Proofs.YtgddljealeklkaaDoorM.fieldBits0 Go.Proofs.YtgddljealeklkaaDoorM.fieldBits1
open Go.RowKit Go.Proofs.YtgddljealeklkaaDoorW.PrintWords Go.Proofs.YtgddljealeklkaaDoorW.PrintLast Go.Proofs.YtgddljealeklkaaDoorW.PrintMore
attribute [local go_sem] max2_int min2_int max_two min_two max_three min_three max_four min_four   -- for this text's walks alone
set_option linter.unusedVariables false
set_option linter.unusedSimpArgs false

section
open Go.Proofs.YtgddljealeklkaaDoorQ Go.Proofs.YtgddljealeklkaaDoorM Go.Shelf
open Go.Proofs.YtgddljealeklkaaDoorW.PrintWords
attribute [local go_sem] Oper.semAt_some
theorem mp_get {n : Int} {A : Option Addr} {k : Nat} {l : List Int} {W3 W : World} (R : Aside0 (W3.ownsRow 0 75 1 (.slice A l.length k) l.length (l.map (Value.int .u64)))) (hb : BelowH W3 W) (i : Int) (r : Bool) (e : bitmap_Get.f n l i = some r) :
    Calls Tryd.prog 23 #[.agg #[.int .i64 n, .slice A l.length k], .int .i64 i] W fun e w' => e = .returned (.bool r) ∧ Below W.heap.size W w' := by
  have h := Kd.R_reads' (show Kd.R (Kd.int .u64) 75 W3 0 (fun _ => True) (.slice A l.length k) l from Kd.R_of_own R.out (fun _ _ => trivial))
  exact bitmap_Get.calls _ _ _ _ _ _ W (Kd.C_below h.2.2 hb.out) h.2.1 e
/-- What the calls answer. -/
structure MpC (s : ByteArray) (n : Int) (l1 l2 l3 : List Int) (lkq : Int → Bool) (kdq : Nat → Int) (mq iq kb wq bg sg : Nat → Bool) (t : ByteArray) : Prop where mk ::
  aw : ∀ W, TabOk W → Calls Tryd.prog 17 #[] W fun e w' => e = .returned (.bool true) ∧ Below W.heap.size W w'
  cm : Aside0 (∀ W, Calls Tryd.prog 18 #[.string s] W fun e w' => ∃ v, e = .returned v ∧ ∃ A1 k1, v = .agg #[.int .i64 n, .slice A1 l1.length k1] ∧ Aside0 (w'.ownsRow 0 75 1 (.slice A1 l1.length k1) l1.length (l1.map (Value.int .u64))) ∧ Below W.heap.size W w')
  ci : Aside0 (∀ W, Calls Tryd.prog 19 #[.string s] W fun e w' => ∃ v, e = .returned v ∧ ∃ A2 k2, v = .agg #[.int .i64 n, .slice A2 l2.length k2] ∧ Aside0 (w'.ownsRow 0 75 1 (.slice A2 l2.length k2) l2.length (l2.map (Value.int .u64))) ∧ Below W.heap.size W w')
  cb : Aside0 (∀ W, Calls Tryd.prog 20 #[.string s] W fun e w' => ∃ v, e = .returned v ∧ ∃ A3 k3, v = .agg #[.int .i64 n, .slice A3 l3.length k3] ∧ Aside0 (w'.ownsRow 0 75 1 (.slice A3 l3.length k3) l3.length (l3.map (Value.int .u64))) ∧ Below W.heap.size W w')
  wd : ∀ W, Calls Tryd.prog 14 #[.string s] W fun e w' => ∃ g1 : Nat, e = .returned (.func (.func 49) #[] #[.pointer (some ⟨g1, 0, none⟩)]) ∧ W.heap.size ≤ g1 ∧ Blk w' g1 #[.string s] 9 ∧ BelowH W w'
  lk : ∀ W (i : Int), Calls Tryd.prog 21 #[.string s, .int .i64 i] W fun e w' => e = .returned (.bool (lkq i)) ∧ Below W.heap.size W w'
  kd : ∀ W (i : Nat), i < s.size → Calls Tryd.prog 22 #[.string s, .int .i64 (i : Int)] W fun e w' => e = .returned (.int .u8 (kdq i)) ∧ Below W.heap.size W w'
  kw : ∀ x ∈ spansW s, kdq x.1 = 119
  gm : ∀ i : Nat, i < s.size → bitmap_Get.f n l1 (i : Int) = some (mq i)
  gi : ∀ i : Nat, i < s.size → bitmap_Get.f n l2 (i : Int) = some (iq i)
  gb : ∀ i : Nat, i < s.size → bitmap_Get.f n l3 (i : Int) = some (kb i)
  sc : ∀ W (i : Nat), i < s.size → Calls Tryd.prog 24 #[.int .u8 (bt s (i : Int))] W fun e w' => e = .returned (.bool (sg i)) ∧ Below W.heap.size W w'
  hk : ∀ i : Nat, i < s.size → kb i = ((!mq i && !iq i) && (bt s (i : Int) == 32 || bt s (i : Int) == 9 || bt s (i : Int) == 10 || bt s (i : Int) == 13))
  hw : ∀ i : Nat, i < s.size → wq i = (((!mq i && !iq i) && !kb i) && !sg i)
  hg : ∀ i : Nat, i < s.size → bg i = (((!mq i && !iq i) && sg i || mq i && iq i) || wq i && !wasQ wq i)
  hd : ∀ i : Nat, i < s.size → (kdq i != 0) = bg i
  cv : ∀ i : Nat, i < s.size → covQ (spansW s) i = wq i
  ix : ∀ W, TabOk W → Calls Tryd.prog 26 #[.string s] W fun e w' => ∃ v, e = .returned v ∧ ∃ (A : Option Addr) (c : Nat), v = .slice A (xsL bg s.size).length c ∧ Kd.C (Kd.int .i64) w' A (xsL bg s.size).length (xsL bg s.size) ∧ (xsL bg s.size).length ≤ c ∧ Below W.heap.size W w'
  si : ∀ W A0 c0 A1 c1, Kd.C (Kd.int .i64) W A0 (xsL bg s.size).length (xsL bg s.size) → (xsL bg s.size).length ≤ c0 → Kd.C (Kd.int .i64) W A1 (xsL bg s.size).length (xsL bg s.size) → (xsL bg s.size).length ≤ c1 → Calls Tryd.prog 25 #[.slice A0 (xsL bg s.size).length c0, .slice A1 (xsL bg s.size).length c1] W fun e w' => e = .returned (.bool true) ∧ Below W.heap.size W w'
  mf : ∀ W, Calls Tryd.prog 27 #[.string s] W fun e w' => e = .returned (.string t) ∧ Below W.heap.size W w'
  tt : ∀ (W : World) (v : Value) (b : Nat), W.ownsRow b 5 1 v (ysB s kb s.size).length (ysB s kb s.size) → (convert 37 9 v).run Tryd.prog W = .ok (.string t) W
def MpR.ops37 : Array Oper := #[{ dst := some 216, op := Go.Op.load 9 (Go.Operand.tmp 1), type := 9, pos := "outright.go:73", after := #[], guard := none }, { dst := some 217, op := Go.Op.call { callee := Go.Callee.value (Go.Operand.func 26), args := #[Go.Operand.tmp 216], argTypes := #[9] }, type := 36, pos := "outright.go:73", after := #[{ on := 0, ground := Go.Ground.data }], guard := none }, { dst := some 218, op := Go.Op.move (Go.Operand.tmp 6), type := 36, pos := "outright.go:73", after := #[], guard := none }, { dst := some 219, op := Go.Op.call { callee := Go.Callee.value (Go.Operand.func 25), args := #[Go.Operand.tmp 217, Go.Operand.tmp 218], argTypes := #[36, 36] }, type := 4, pos := "outright.go:73", after := #[{ on := 1, ground := Go.Ground.data }, { on := 2, ground := Go.Ground.data }, { on := 1, ground := Go.Ground.chain }], guard := none }, { dst := some 220, op := Go.Op.move (Go.Operand.tmp 219), type := 4, pos := "outright.go:73", after := #[{ on := 3, ground := Go.Ground.data }, { on := 3, ground := Go.Ground.chain }], guard := none }, { dst := some 221, op := Go.Op.load 9 (Go.Operand.tmp 1), type := 9, pos := "outright.go:73", after := #[{ on := 4, ground := Go.Ground.guard }], guard := some (4, true) }, { dst := some 222, op := Go.Op.call { callee := Go.Callee.value (Go.Operand.func 27), args := #[Go.Operand.tmp 221], argTypes := #[9] }, type := 9, pos := "outright.go:73", after := #[{ on := 5, ground := Go.Ground.data }, { on := 4, ground := Go.Ground.chain }, { on := 4, ground := Go.Ground.guard }], guard := some (4, true) }, { dst := some 223, op := Go.Op.move (Go.Operand.tmp 7), type := 37, pos := "outright.go:73", after := #[{ on := 4, ground := Go.Ground.guard }], guard := some (4, true) }, { dst := some 224, op := Go.Op.convert 37 9 (Go.Operand.tmp 223), type := 9, pos := "outright.go:73", after := #[{ on := 7, ground := Go.Ground.data }, { on := 4, ground := Go.Ground.guard }], guard := some (4, true) }, { dst := some 225, op := Go.Op.binOp Go.BinOp.eql 9 (Go.Operand.tmp 222) (Go.Operand.tmp 224) 9, type := 4, pos := "outright.go:73", after := #[{ on := 6, ground := Go.Ground.data }, { on := 8, ground := Go.Ground.data }, { on := 4, ground := Go.Ground.guard }], guard := some (4, true) }, { dst := some 226, op := Go.Op.pick (Go.Operand.tmp 220) (Go.Operand.tmp 225) (Go.Operand.const (Go.Value.bool false)), type := 4, pos := "outright.go:73", after := #[{ on := 4, ground := Go.Ground.data }, { on := 9, ground := Go.Ground.data }], guard := none }, { dst := none, op := Go.Op.store 4 (Go.Operand.tmp 2) (Go.Operand.tmp 226), type := 0, pos := "outright.go:73", after := #[{ on := 10, ground := Go.Ground.data }, { on := 6, ground := Go.Ground.chain }, { on := 0, ground := Go.Ground.phase }, { on := 1, ground := Go.Ground.phase }, { on := 2, ground := Go.Ground.phase }, { on := 3, ground := Go.Ground.phase }, { on := 4, ground := Go.Ground.phase }, { on := 5, ground := Go.Ground.phase }, { on := 6, ground := Go.Ground.phase }, { on := 7, ground := Go.Ground.phase }, { on := 8, ground := Go.Ground.phase }, { on := 9, ground := Go.Ground.phase }, { on := 10, ground := Go.Ground.phase }], guard := none }]
set_option maxHeartbeats 8000000 in
set_option maxRecDepth 100000 in
theorem MpR.reg37 {F : Fence} (HF : Aside0 (F = Fence.wide)) {u0 u3 u4 u5 u8 u9 u10 u11 u12 u13 u14 u15 u16 u17 u18 u19 u20 u21 u22 u23 u24 u25 u26 u27 u28 u29 u30 u31 u32 u33 u34 u35 u36 u37 u38 u39 u40 u41 u42 u43 u44 u45 u46 u47 u48 u49 u50 u51 u52 u53 u54 u55 u56 u57 u58 u59 u60 u61 u62 u63 u64 u65 u66 u67 u68 u69 u70 u71 u72 u73 u74 u75 u76 u77 u78 u79 u80 u81 u82 u83 u84 u85 u86 u87 u88 u89 u90 u91 u92 u93 u94 u95 u96 u97 u98 u99 u100 u101 u102 u103 u104 u105 u106 u107 u108 u109 u110 u111 u112 u113 u114 u115 u116 u117 u118 u119 u120 u121 u122 u123 u124 u125 u126 u127 u128 u129 u130 u131 u132 u133 u134 u135 u136 u137 u138 u139 u140 u141 u142 u143 u144 u145 u146 u147 u148 u149 u150 u151 u152 u153 u154 u155 u156 u157 u158 u159 u160 u161 u162 u163 u164 u165 u166 u167 u168 u169 u170 u171 u172 u173 u174 u175 u176 u177 u178 u179 u180 u181 u182 u183 u184 u185 u186 u187 u188 u189 u190 u191 u192 u193 u194 u195 u196 u197 u198 u199 u200 u201 u202 u203 u204 u205 u206 u207 u208 u209 u210 u211 u212 u213 u214 u215 u216 u217 u218 u219 u220 u221 u222 u223 u224 u225 u226 : Value} {D : Nat} (s t : ByteArray) {l1 l2 l3 : List Int} {lkq : Int → Bool} {kdq : Nat → Int} {mq iq kb wq bg sg : Nat → Bool} (C : Aside0 (MpC s (s.size : Int) l1 l2 l3 lkq kdq mq iq kb wq bg sg t)) {g1 g2 gc g9 : Nat} {w W3 : World} {A7 : Option Addr} {c7 : Nat} {v7 : Value}
    (Q : Exit → Act → World → Prop) (W : World) (HT : Aside0 (TabOk w)) (HBw : BelowH w W3) (GE2 : Aside0 (w.heap.size ≤ g2)) (B1 : Blk W3 g1 #[.string s] 9) (B2 : Blk W3 g2 #[.bool false] 4) (HI : Aside0 (MpI s W3 gc g9 wq (.slice A7 (xsL bg s.size).length c7) v7 (xsB bg s.size) (ysB s kb s.size) W)) (HM : Aside0 (Marks w.heap.size [D] W))
    (H : Aside0 (∀ (x216 x217 x218 x219 x220 x221 x222 x223 x224 x225 x226 : Value) (W' : World), Blk W' g2 #[.bool true] 4 → BelowH w W' → Aside0 (Marks w.heap.size [D] W') → Q .normal { tmps := (u0 :: (.pointer (some ⟨g1, 0, none⟩) : Value) :: (.pointer (some ⟨g2, 0, none⟩) : Value) :: u3 :: u4 :: u5 :: (.slice A7 (xsL bg s.size).length c7 : Value) :: (v7 : Value) :: u8 :: u9 :: u10 :: u11 :: u12 :: u13 :: u14 :: u15 :: u16 :: u17 :: u18 :: u19 :: u20 :: u21 :: u22 :: u23 :: u24 :: u25 :: u26 :: u27 :: u28 :: u29 :: u30 :: u31 :: u32 :: u33 :: u34 :: u35 :: u36 :: u37 :: u38 :: u39 :: u40 :: u41 :: u42 :: u43 :: u44 :: u45 :: u46 :: u47 :: u48 :: u49 :: u50 :: u51 :: u52 :: u53 :: u54 :: u55 :: u56 :: u57 :: u58 :: u59 :: u60 :: u61 :: u62 :: u63 :: u64 :: u65 :: u66 :: u67 :: u68 :: u69 :: u70 :: u71 :: u72 :: u73 :: u74 :: u75 :: u76 :: u77 :: u78 :: u79 :: u80 :: u81 :: u82 :: u83 :: u84 :: u85 :: u86 :: u87 :: u88 :: u89 :: u90 :: u91 :: u92 :: u93 :: u94 :: u95 :: u96 :: u97 :: u98 :: u99 :: u100 :: u101 :: u102 :: u103 :: u104 :: u105 :: u106 :: u107 :: u108 :: u109 :: u110 :: u111 :: u112 :: u113 :: u114 :: u115 :: u116 :: u117 :: u118 :: u119 :: u120 :: u121 :: u122 :: u123 :: u124 :: u125 :: u126 :: u127 :: u128 :: u129 :: u130 :: u131 :: u132 :: u133 :: u134 :: u135 :: u136 :: u137 :: u138 :: u139 :: u140 :: u141 :: u142 :: u143 :: u144 :: u145 :: u146 :: u147 :: u148 :: u149 :: u150 :: u151 :: u152 :: u153 :: u154 :: u155 :: u156 :: u157 :: u158 :: u159 :: u160 :: u161 :: u162 :: u163 :: u164 :: u165 :: u166 :: u167 :: u168 :: u169 :: u170 :: u171 :: u172 :: u173 :: u174 :: u175 :: u176 :: u177 :: u178 :: u179 :: u180 :: u181 :: u182 :: u183 :: u184 :: u185 :: u186 :: u187 :: u188 :: u189 :: u190 :: u191 :: u192 :: u193 :: u194 :: u195 :: u196 :: u197 :: u198 :: u199 :: u200 :: u201 :: u202 :: u203 :: u204 :: u205 :: u206 :: u207 :: u208 :: u209 :: u210 :: u211 :: u212 :: u213 :: u214 :: u215 :: (x216 : Value) :: (x217 : Value) :: (x218 : Value) :: (x219 : Value) :: (x220 : Value) :: (x221 : Value) :: (x222 : Value) :: (x223 : Value) :: (x224 : Value) :: (x225 : Value) :: (x226 : Value) :: []).toArray, defers := marksD [D] } W')) :
    (Code.region 37 MpR.ops37 true).wpIn F 9 Tryd.prog Q { tmps := (u0 :: (.pointer (some ⟨g1, 0, none⟩) : Value) :: (.pointer (some ⟨g2, 0, none⟩) : Value) :: u3 :: u4 :: u5 :: (.slice A7 (xsL bg s.size).length c7 : Value) :: (v7 : Value) :: u8 :: u9 :: u10 :: u11 :: u12 :: u13 :: u14 :: u15 :: u16 :: u17 :: u18 :: u19 :: u20 :: u21 :: u22 :: u23 :: u24 :: u25 :: u26 :: u27 :: u28 :: u29 :: u30 :: u31 :: u32 :: u33 :: u34 :: u35 :: u36 :: u37 :: u38 :: u39 :: u40 :: u41 :: u42 :: u43 :: u44 :: u45 :: u46 :: u47 :: u48 :: u49 :: u50 :: u51 :: u52 :: u53 :: u54 :: u55 :: u56 :: u57 :: u58 :: u59 :: u60 :: u61 :: u62 :: u63 :: u64 :: u65 :: u66 :: u67 :: u68 :: u69 :: u70 :: u71 :: u72 :: u73 :: u74 :: u75 :: u76 :: u77 :: u78 :: u79 :: u80 :: u81 :: u82 :: u83 :: u84 :: u85 :: u86 :: u87 :: u88 :: u89 :: u90 :: u91 :: u92 :: u93 :: u94 :: u95 :: u96 :: u97 :: u98 :: u99 :: u100 :: u101 :: u102 :: u103 :: u104 :: u105 :: u106 :: u107 :: u108 :: u109 :: u110 :: u111 :: u112 :: u113 :: u114 :: u115 :: u116 :: u117 :: u118 :: u119 :: u120 :: u121 :: u122 :: u123 :: u124 :: u125 :: u126 :: u127 :: u128 :: u129 :: u130 :: u131 :: u132 :: u133 :: u134 :: u135 :: u136 :: u137 :: u138 :: u139 :: u140 :: u141 :: u142 :: u143 :: u144 :: u145 :: u146 :: u147 :: u148 :: u149 :: u150 :: u151 :: u152 :: u153 :: u154 :: u155 :: u156 :: u157 :: u158 :: u159 :: u160 :: u161 :: u162 :: u163 :: u164 :: u165 :: u166 :: u167 :: u168 :: u169 :: u170 :: u171 :: u172 :: u173 :: u174 :: u175 :: u176 :: u177 :: u178 :: u179 :: u180 :: u181 :: u182 :: u183 :: u184 :: u185 :: u186 :: u187 :: u188 :: u189 :: u190 :: u191 :: u192 :: u193 :: u194 :: u195 :: u196 :: u197 :: u198 :: u199 :: u200 :: u201 :: u202 :: u203 :: u204 :: u205 :: u206 :: u207 :: u208 :: u209 :: u210 :: u211 :: u212 :: u213 :: u214 :: u215 :: u216 :: u217 :: u218 :: u219 :: u220 :: u221 :: u222 :: u223 :: u224 :: u225 :: u226 :: []).toArray, defers := marksD [D] } W := by
  unfold MpR.ops37
  have hro := wide_round HF
  have F3 := Aside0.mk (And.intro B1 (And.intro B2 True.intro))
  clear B1 B2
  have el : (xsB bg s.size).length = (xsL bg s.size).length := by unfold xsB; rw [List.length_map]
  have R6C : Aside0 (∀ W', W'.ownsRow W3.heap.size 3 1 (.slice A7 (xsL bg s.size).length c7) (xsB bg s.size).length (xsB bg s.size) → Kd.C (Kd.int .i64) W' A7 (xsL bg s.size).length (xsL bg s.size) ∧ (xsL bg s.size).length ≤ c7) := ⟨fun W' h => by
    rw [el] at h
    have h1 := Kd.R_reads' (show Kd.R (Kd.int .i64) 3 W' W3.heap.size (fun _ => True) (.slice A7 (xsL bg s.size).length c7) (xsL bg s.size) from Kd.R_of_own h (fun _ _ => trivial))
    exact ⟨h1.2.2, h1.2.1⟩⟩
  clear el
  have b1 := (F3.out.1.below HI.out.hb.out).drew
  have HIn := Aside0.mk (HI.out.below (below_drew (Below.refl _ _)))
  have HMn := Aside0.mk (HM.out.below (below_drew (Below.refl _ _)))
  clear HI HM
  have HI := HIn
  have HM := HMn
  clear HIn HMn
  refine wpIn_region_last_wide HF (S := fun W' => Blk W' g1 #[.string s] 9 ∧ W'.ownsRow W3.heap.size 5 1 v7 (ysB s kb s.size).length (ysB s kb s.size)) (ds := [11]) (by kernel_rfl) ⟨b1, HI.out.r7⟩ (fun hS => ?_)
  refine wpAnyLast_take (i := 0) (oi := Oper.mk _ _ _ _ _ _) rfl (by kernel_rfl) (by kernel_rfl) (by kernel_rfl) (by kernel_rfl) (by kernel_rfl) (fun _ _ _ h => h) (rg_load1 (by rfl) (fun _ hS => hS.1.cell (i := 0) rfl) 9 _ rfl rfl (fun _ => by simp [isAgg, run_underlying Tryd.underlying9])) hS ?_
  try simp only [Act.put, List.setIfInBounds_toArray, List.set_cons_zero, List.set_cons_succ]
  refine' wpAnyLast_take (i := 2) (oi := Oper.mk _ _ _ _ _ _) rfl (by kernel_rfl) (by kernel_rfl) (by kernel_rfl) (by kernel_rfl) (by kernel_rfl) (fun _ _ _ h => h) (Or.inl ⟨by rfl, ?hy1⟩) hS ?rest1
  case hy1 => (intro w hSw; (try dsimp only at hSw); first | (go_simp; done) | (go_simp; with_reducible rfl))
  try simp only [Act.put, List.setIfInBounds_toArray, List.set_cons_zero, List.set_cons_succ]
  refine wpAnyLast_ready (rs := [1]) (by kernel_rfl) (by simp) ?_
  refine AllReadyL.cons (o := Oper.mk _ _ _ _ _ _) rfl (by decide) (fun K hK => ?_) ?_
  · refine rg_callE (by rfl) _ _ (by first | (go_simp; done) | (go_simp; rfl)) (C.out.ix _ (HT.out.stepH (HBw.step HI.out.hb.out))) ?_
    intro v W' hv
    obtain ⟨A6, c6, rfl, hC6, hl6, hb0⟩ := hv.out
    have hb := Aside0.mk hb0
    have HC6 := Aside0.mk (And.intro hC6 hl6)
    clear hv hb0 hC6 hl6
    have HIn := Aside0.mk (HI.out.below hb.out)
    have HMn := Aside0.mk (HM.out.below hb.out)
    have b1n := b1.below hb.out
    clear HI HM b1
    have HI := HIn
    have HM := HMn
    have b1 := b1n
    clear HIn HMn b1n
    refine hK.out _ _ ⟨b1, HI.out.r7⟩ (fun hS => ?_)
    clear hK K hb
    try simp only [Act.put, List.setIfInBounds_toArray, List.set_cons_zero, List.set_cons_succ]
    refine wpAnyLast_ready (rs := [3]) (by kernel_rfl) (by simp) ?_
    refine AllReadyL.cons (o := Oper.mk _ _ _ _ _ _) rfl (by decide) (fun K hK => ?_) ?_
    · refine rg_callP (by rfl) _ _ (.bool true) (by first | (go_simp; done) | (go_simp; rfl)) (C.out.si _ A6 c6 A7 c7 HC6.out.1 HC6.out.2 (R6C.out _ HI.out.r6).1 (R6C.out _ HI.out.r6).2) ?_
      intro W' hb
      have HIn := Aside0.mk (HI.out.below hb.out)
      have HMn := Aside0.mk (HM.out.below hb.out)
      have b1n := b1.below hb.out
      clear HI HM b1
      have HI := HIn
      have HM := HMn
      have b1 := b1n
      clear HIn HMn b1n
      refine hK.out _ _ ⟨b1, HI.out.r7⟩ (fun hS => ?_)
      clear hK K hb HC6
      try simp only [Act.put, List.setIfInBounds_toArray, List.set_cons_zero, List.set_cons_succ]
      refine' wpAnyLast_take (i := 4) (oi := Oper.mk _ _ _ _ _ _) rfl (by kernel_rfl) (by kernel_rfl) (by kernel_rfl) (by kernel_rfl) (by kernel_rfl) (fun _ _ _ h => h) (Or.inl ⟨by rfl, ?hy2⟩) hS ?rest2
      case hy2 => (intro w hSw; (try dsimp only at hSw); first | (go_simp; done) | (go_simp; with_reducible rfl))
      try simp only [Act.put, List.setIfInBounds_toArray, List.set_cons_zero, List.set_cons_succ]
      refine wpAnyLast_take (i := 5) (oi := Oper.mk _ _ _ _ _ _) rfl (by kernel_rfl) (by kernel_rfl) (by kernel_rfl) (by kernel_rfl) (by kernel_rfl) (fun _ _ _ h => h) (rg_load1 (by rfl) (fun _ hS => hS.1.cell (i := 0) rfl) 9 _ rfl rfl (fun _ => by simp [isAgg, run_underlying Tryd.underlying9])) hS ?_
      try simp only [Act.put, List.setIfInBounds_toArray, List.set_cons_zero, List.set_cons_succ]
      refine' wpAnyLast_take (i := 7) (oi := Oper.mk _ _ _ _ _ _) rfl (by kernel_rfl) (by kernel_rfl) (by kernel_rfl) (by kernel_rfl) (by kernel_rfl) (fun _ _ _ h => h) (Or.inl ⟨by rfl, ?hy3⟩) hS ?rest3
      case hy3 => (intro w hSw; (try dsimp only at hSw); first | (go_simp; done) | (go_simp; with_reducible rfl))
      try simp only [Act.put, List.setIfInBounds_toArray, List.set_cons_zero, List.set_cons_succ]
      refine wpAnyLast_take (i := 8) (oi := Oper.mk _ _ _ _ _ _) rfl (by kernel_rfl) (by kernel_rfl) (by kernel_rfl) (by kernel_rfl) (by kernel_rfl) (fun _ _ _ h => h) (rg_convY (by rfl) 37 9 _ rfl rfl (fun _ hS => C.out.tt _ _ _ hS.2)) hS ?_
      try simp only [Act.put, List.setIfInBounds_toArray, List.set_cons_zero, List.set_cons_succ]
      refine wpAnyLast_ready (rs := [6]) (by kernel_rfl) (by simp) ?_
      refine AllReadyL.cons (o := Oper.mk _ _ _ _ _ _) rfl (by decide) (fun K hK => ?_) ?_
      · refine rg_callP (by rfl) _ _ (.string t) (by first | (go_simp; done) | (go_simp; rfl)) (C.out.mf _) ?_
        intro W' hb
        have HIn := Aside0.mk (HI.out.below hb.out)
        have HMn := Aside0.mk (HM.out.below hb.out)
        have b1n := b1.below hb.out
        clear HI HM b1
        have HI := HIn
        have HM := HMn
        have b1 := b1n
        clear HIn HMn b1n
        refine hK.out _ _ ⟨b1, HI.out.r7⟩ (fun hS => ?_)
        clear hK K hb
        try simp only [Act.put, List.setIfInBounds_toArray, List.set_cons_zero, List.set_cons_succ]
        refine' wpAnyLast_take (i := 9) (oi := Oper.mk _ _ _ _ _ _) rfl (by kernel_rfl) (by kernel_rfl) (by kernel_rfl) (by kernel_rfl) (by kernel_rfl) (fun _ _ _ h => h) (Or.inl ⟨by rfl, ?hy4⟩) hS ?rest4
        case hy4 => (intro w hSw; (try dsimp only at hSw); first | (go_simp; done) | (go_simp; with_reducible rfl))
        try simp only [Act.put, List.setIfInBounds_toArray, List.set_cons_zero, List.set_cons_succ]
        refine' wpAnyLast_take (i := 10) (oi := Oper.mk _ _ _ _ _ _) rfl (by kernel_rfl) (by kernel_rfl) (by kernel_rfl) (by kernel_rfl) (by kernel_rfl) (fun _ _ _ h => h) (Or.inl ⟨by rfl, ?hy5⟩) hS ?rest5
        case hy5 => (intro w hSw; (try dsimp only at hSw); first | (go_simp; done) | (go_simp; with_reducible rfl))
        try simp only [Act.put, List.setIfInBounds_toArray, List.set_cons_zero, List.set_cons_succ]
        refine wpAnyLast_ready (rs := [11]) (by kernel_rfl) (by simp) ?_
        refine AllReadyL.cons_last (o := Oper.mk _ _ _ _ _ _) rfl (by decide) (fun K hK => ?_) ?_
        · refine rg_store1 (i := 0) (HBw.step HI.out.hb.out) (by rfl) (F3.out.2.1.below HI.out.hb.out) GE2 4 _ _ rfl rfl (.bool true) (by first | rfl | (simp; done) | (go_simp; rfl)) (by simp) (by kernel_rfl) rfl ?_
          intro w30 B30 HB30 K30
          have HMn := Aside0.mk (HM.out.same (fun D' hD' => by
            have e := List.mem_singleton.1 hD'
            subst e
            refine K30.out.2 _ (fun c => ?_)
            have h1 := (HM.out.at_ _ hD').2
            have h2 := (F3.out.2.1.below HI.out.hb.out).out
            rw [c, h2] at h1
            cases h1))
          clear HM HI b1
          have HM := HMn
          clear HMn
          refine hK.out _ _ ?_
          clear hK K
          try simp only [Act.put, List.setIfInBounds_toArray, List.set_cons_zero, List.set_cons_succ]
          refine wpAnyLast_done (by kernel_rfl) ?_ _
          refine NoPanic.normal ?_
          exact H.out _ _ _ _ _ _ _ _ _ _ _ w30 B30 HB30 HM
        exact AllReadyL.nil
      exact AllReadyL.nil
    exact AllReadyL.nil
  exact AllReadyL.nil
def quarrylaw08_MarksParts.nav : List Nat → Code → Code
  | [], c => c
  | 0 :: p, .seq a _ => quarrylaw08_MarksParts.nav p a
  | 1 :: p, .seq _ b => quarrylaw08_MarksParts.nav p b
  | 0 :: p, .block _ c => quarrylaw08_MarksParts.nav p c
  | _ :: _, c => c
theorem as_loop {P : Program} {F : Fence} {n : Nat} {Q : Exit → Act → World → Prop} {a : Act} {w : World} {c0 c : Code} (h : c0 = Code.loop c) (hw : (Code.loop c).wpIn F n P Q a w) : c0.wpIn F n P Q a w := h ▸ hw
set_option maxHeartbeats 8000000 in
set_option maxRecDepth 100000 in
theorem quarrylaw08_MarksParts.loopT {F : Fence} (HF : Aside0 (F = Fence.wide)) (s t : ByteArray) {l1 l2 l3 : List Int} {lkq : Int → Bool} {kdq : Nat → Int} {mq iq kb wq bg sg : Nat → Bool} (C : Aside0 (MpC s (s.size : Int) l1 l2 l3 lkq kdq mq iq kb wq bg sg t)) (HSZ : Aside0 (s.size ≤ 1048576)) {g1 g2 g3 g4 g5 gc g9 : Nat} {w W3 : World} {A1 A2 A3 : Option Addr} {k1 k2 k3 : Nat} {D : Nat}
    (Q : Exit → Act → World → Prop) (W : World) (y : Nat → Value) (a : Act) (ha : a = { tmps := ((.string s : Value) :: (.pointer (some ⟨g1, 0, none⟩) : Value) :: (.pointer (some ⟨g2, 0, none⟩) : Value) :: (.pointer (some ⟨g3, 0, none⟩) : Value) :: (.pointer (some ⟨g4, 0, none⟩) : Value) :: (.pointer (some ⟨g5, 0, none⟩) : Value) :: (.slice none 0 0 : Value) :: (.slice none 0 0 : Value) :: (.bool (wasQ wq 0) : Value) :: (.pointer (some ⟨g9, 0, none⟩) : Value) :: y 10 :: y 11 :: y 12 :: (.int .i64 0 : Value) :: y 14 :: y 15 :: y 16 :: y 17 :: y 18 :: y 19 :: y 20 :: y 21 :: y 22 :: y 23 :: y 24 :: y 25 :: y 26 :: y 27 :: y 28 :: y 29 :: y 30 :: y 31 :: y 32 :: y 33 :: y 34 :: y 35 :: y 36 :: y 37 :: y 38 :: y 39 :: y 40 :: y 41 :: y 42 :: y 43 :: y 44 :: y 45 :: y 46 :: y 47 :: y 48 :: y 49 :: y 50 :: y 51 :: y 52 :: y 53 :: y 54 :: y 55 :: y 56 :: y 57 :: y 58 :: y 59 :: y 60 :: y 61 :: y 62 :: y 63 :: y 64 :: y 65 :: y 66 :: y 67 :: y 68 :: y 69 :: y 70 :: y 71 :: y 72 :: y 73 :: y 74 :: y 75 :: y 76 :: y 77 :: y 78 :: y 79 :: y 80 :: y 81 :: y 82 :: y 83 :: y 84 :: y 85 :: y 86 :: y 87 :: y 88 :: y 89 :: y 90 :: y 91 :: y 92 :: y 93 :: y 94 :: y 95 :: y 96 :: y 97 :: y 98 :: y 99 :: y 100 :: y 101 :: y 102 :: y 103 :: y 104 :: y 105 :: y 106 :: y 107 :: y 108 :: y 109 :: y 110 :: y 111 :: y 112 :: y 113 :: y 114 :: y 115 :: y 116 :: y 117 :: y 118 :: y 119 :: y 120 :: y 121 :: y 122 :: y 123 :: y 124 :: y 125 :: y 126 :: y 127 :: y 128 :: y 129 :: y 130 :: y 131 :: y 132 :: y 133 :: y 134 :: y 135 :: y 136 :: y 137 :: y 138 :: y 139 :: y 140 :: y 141 :: y 142 :: y 143 :: y 144 :: y 145 :: y 146 :: y 147 :: y 148 :: y 149 :: y 150 :: y 151 :: y 152 :: y 153 :: y 154 :: y 155 :: y 156 :: y 157 :: y 158 :: y 159 :: y 160 :: y 161 :: y 162 :: y 163 :: y 164 :: y 165 :: y 166 :: y 167 :: y 168 :: y 169 :: y 170 :: y 171 :: y 172 :: y 173 :: y 174 :: y 175 :: y 176 :: y 177 :: y 178 :: y 179 :: y 180 :: y 181 :: y 182 :: y 183 :: y 184 :: y 185 :: y 186 :: y 187 :: y 188 :: y 189 :: y 190 :: y 191 :: y 192 :: y 193 :: y 194 :: y 195 :: y 196 :: y 197 :: y 198 :: y 199 :: y 200 :: y 201 :: y 202 :: y 203 :: y 204 :: y 205 :: y 206 :: y 207 :: y 208 :: y 209 :: y 210 :: y 211 :: y 212 :: y 213 :: y 214 :: y 215 :: y 216 :: y 217 :: y 218 :: y 219 :: y 220 :: y 221 :: y 222 :: y 223 :: y 224 :: y 225 :: y 226 :: []).toArray, defers := marksD [D] }) (F3 : Aside0 (Blk W3 g1 #[.string s] 9 ∧ Blk W3 g2 #[.bool false] 4 ∧ Blk W3 g3 #[.int .i64 s.size, .slice A1 l1.length k1] 34 ∧ Blk W3 g4 #[.int .i64 s.size, .slice A2 l2.length k2] 34 ∧ Blk W3 g5 #[.int .i64 s.size, .slice A3 l3.length k3] 34)) (R1 : Aside0 (W3.ownsRow 0 75 1 (.slice A1 l1.length k1) l1.length (l1.map (Value.int .u64)))) (R2 : Aside0 (W3.ownsRow 0 75 1 (.slice A2 l2.length k2) l2.length (l2.map (Value.int .u64)))) (R3 : Aside0 (W3.ownsRow 0 75 1 (.slice A3 l3.length k3) l3.length (l3.map (Value.int .u64))))
    (I0 : Aside0 (MpI s W3 gc g9 wq (.slice none 0 0) (.slice none 0 0) (xsB bg 0) (ysB s kb 0) W)) (HM : Aside0 (Marks w.heap.size [D] W))
    (H : Aside0 (∀ (v6 v7 : Value) (y : Nat → Value) (W' : World), Aside0 (MpI s W3 gc g9 wq v6 v7 (xsB bg s.size) (ysB s kb s.size) W') → Aside0 (Marks w.heap.size [D] W') → Q (.exit 4) { tmps := ((.string s : Value) :: (.pointer (some ⟨g1, 0, none⟩) : Value) :: (.pointer (some ⟨g2, 0, none⟩) : Value) :: (.pointer (some ⟨g3, 0, none⟩) : Value) :: (.pointer (some ⟨g4, 0, none⟩) : Value) :: (.pointer (some ⟨g5, 0, none⟩) : Value) :: (v6 : Value) :: (v7 : Value) :: (.bool (wasQ wq s.size) : Value) :: (.pointer (some ⟨g9, 0, none⟩) : Value) :: y 10 :: y 11 :: y 12 :: (.int .i64 (s.size : Int) : Value) :: y 14 :: y 15 :: y 16 :: y 17 :: y 18 :: y 19 :: y 20 :: y 21 :: y 22 :: y 23 :: y 24 :: y 25 :: y 26 :: y 27 :: y 28 :: y 29 :: y 30 :: y 31 :: y 32 :: y 33 :: y 34 :: y 35 :: y 36 :: y 37 :: y 38 :: y 39 :: y 40 :: y 41 :: y 42 :: y 43 :: y 44 :: y 45 :: y 46 :: y 47 :: y 48 :: y 49 :: y 50 :: y 51 :: y 52 :: y 53 :: y 54 :: y 55 :: y 56 :: y 57 :: y 58 :: y 59 :: y 60 :: y 61 :: y 62 :: y 63 :: y 64 :: y 65 :: y 66 :: y 67 :: y 68 :: y 69 :: y 70 :: y 71 :: y 72 :: y 73 :: y 74 :: y 75 :: y 76 :: y 77 :: y 78 :: y 79 :: y 80 :: y 81 :: y 82 :: y 83 :: y 84 :: y 85 :: y 86 :: y 87 :: y 88 :: y 89 :: y 90 :: y 91 :: y 92 :: y 93 :: y 94 :: y 95 :: y 96 :: y 97 :: y 98 :: y 99 :: y 100 :: y 101 :: y 102 :: y 103 :: y 104 :: y 105 :: y 106 :: y 107 :: y 108 :: y 109 :: y 110 :: y 111 :: y 112 :: y 113 :: y 114 :: y 115 :: y 116 :: y 117 :: y 118 :: y 119 :: y 120 :: y 121 :: y 122 :: y 123 :: y 124 :: y 125 :: y 126 :: y 127 :: y 128 :: y 129 :: y 130 :: y 131 :: y 132 :: y 133 :: y 134 :: y 135 :: y 136 :: y 137 :: y 138 :: y 139 :: y 140 :: y 141 :: y 142 :: y 143 :: y 144 :: y 145 :: y 146 :: y 147 :: y 148 :: y 149 :: y 150 :: y 151 :: y 152 :: y 153 :: y 154 :: y 155 :: y 156 :: y 157 :: y 158 :: y 159 :: y 160 :: y 161 :: y 162 :: y 163 :: y 164 :: y 165 :: y 166 :: y 167 :: y 168 :: y 169 :: y 170 :: y 171 :: y 172 :: y 173 :: y 174 :: y 175 :: y 176 :: y 177 :: y 178 :: y 179 :: y 180 :: y 181 :: y 182 :: y 183 :: y 184 :: y 185 :: y 186 :: y 187 :: y 188 :: y 189 :: y 190 :: y 191 :: y 192 :: y 193 :: y 194 :: y 195 :: y 196 :: y 197 :: y 198 :: y 199 :: y 200 :: y 201 :: y 202 :: y 203 :: y 204 :: y 205 :: y 206 :: y 207 :: y 208 :: y 209 :: y 210 :: y 211 :: y 212 :: y 213 :: y 214 :: y 215 :: y 216 :: y 217 :: y 218 :: y 219 :: y 220 :: y 221 :: y 222 :: y 223 :: y 224 :: y 225 :: y 226 :: []).toArray, defers := marksD [D] } W')) :
    (quarrylaw08_MarksParts.nav [1, 1, 1, 1, 1, 1, 1, 1, 1, 1, 1, 0, 1, 0] (Tryd.f4.body.getD .skip)).wpIn F 9 Tryd.prog Q a W := by
  subst ha
  have hro := wide_round HF
  have f6 := wide_fn HF 22
  have f7 := wide_fn HF 21
  have f10 := wide_fn HF 23
  have f11 := wide_fn HF 24
  refine as_loop rfl ?_
  refine wpIn_loopM (fun m a W => ∃ (i : Nat) (v6 v7 : Value) (z13 : Int) (y : Nat → Value), m = s.size - i ∧ z13 = (i : Int) ∧ i ≤ s.size ∧ a = { tmps := ((.string s : Value) :: (.pointer (some ⟨g1, 0, none⟩) : Value) :: (.pointer (some ⟨g2, 0, none⟩) : Value) :: (.pointer (some ⟨g3, 0, none⟩) : Value) :: (.pointer (some ⟨g4, 0, none⟩) : Value) :: (.pointer (some ⟨g5, 0, none⟩) : Value) :: (v6 : Value) :: (v7 : Value) :: (.bool (wasQ wq i) : Value) :: (.pointer (some ⟨g9, 0, none⟩) : Value) :: y 10 :: y 11 :: y 12 :: (.int .i64 z13 : Value) :: y 14 :: y 15 :: y 16 :: y 17 :: y 18 :: y 19 :: y 20 :: y 21 :: y 22 :: y 23 :: y 24 :: y 25 :: y 26 :: y 27 :: y 28 :: y 29 :: y 30 :: y 31 :: y 32 :: y 33 :: y 34 :: y 35 :: y 36 :: y 37 :: y 38 :: y 39 :: y 40 :: y 41 :: y 42 :: y 43 :: y 44 :: y 45 :: y 46 :: y 47 :: y 48 :: y 49 :: y 50 :: y 51 :: y 52 :: y 53 :: y 54 :: y 55 :: y 56 :: y 57 :: y 58 :: y 59 :: y 60 :: y 61 :: y 62 :: y 63 :: y 64 :: y 65 :: y 66 :: y 67 :: y 68 :: y 69 :: y 70 :: y 71 :: y 72 :: y 73 :: y 74 :: y 75 :: y 76 :: y 77 :: y 78 :: y 79 :: y 80 :: y 81 :: y 82 :: y 83 :: y 84 :: y 85 :: y 86 :: y 87 :: y 88 :: y 89 :: y 90 :: y 91 :: y 92 :: y 93 :: y 94 :: y 95 :: y 96 :: y 97 :: y 98 :: y 99 :: y 100 :: y 101 :: y 102 :: y 103 :: y 104 :: y 105 :: y 106 :: y 107 :: y 108 :: y 109 :: y 110 :: y 111 :: y 112 :: y 113 :: y 114 :: y 115 :: y 116 :: y 117 :: y 118 :: y 119 :: y 120 :: y 121 :: y 122 :: y 123 :: y 124 :: y 125 :: y 126 :: y 127 :: y 128 :: y 129 :: y 130 :: y 131 :: y 132 :: y 133 :: y 134 :: y 135 :: y 136 :: y 137 :: y 138 :: y 139 :: y 140 :: y 141 :: y 142 :: y 143 :: y 144 :: y 145 :: y 146 :: y 147 :: y 148 :: y 149 :: y 150 :: y 151 :: y 152 :: y 153 :: y 154 :: y 155 :: y 156 :: y 157 :: y 158 :: y 159 :: y 160 :: y 161 :: y 162 :: y 163 :: y 164 :: y 165 :: y 166 :: y 167 :: y 168 :: y 169 :: y 170 :: y 171 :: y 172 :: y 173 :: y 174 :: y 175 :: y 176 :: y 177 :: y 178 :: y 179 :: y 180 :: y 181 :: y 182 :: y 183 :: y 184 :: y 185 :: y 186 :: y 187 :: y 188 :: y 189 :: y 190 :: y 191 :: y 192 :: y 193 :: y 194 :: y 195 :: y 196 :: y 197 :: y 198 :: y 199 :: y 200 :: y 201 :: y 202 :: y 203 :: y 204 :: y 205 :: y 206 :: y 207 :: y 208 :: y 209 :: y 210 :: y 211 :: y 212 :: y 213 :: y 214 :: y 215 :: y 216 :: y 217 :: y 218 :: y 219 :: y 220 :: y 221 :: y 222 :: y 223 :: y 224 :: y 225 :: y 226 :: []).toArray, defers := marksD [D] } ∧ Aside0 (MpI s W3 gc g9 wq v6 v7 (xsB bg i) (ysB s kb i) W) ∧ Aside0 (Marks w.heap.size [D] W)) s.size
    ⟨0, .slice none 0 0, .slice none 0 0, 0, y, rfl, rfl, Nat.zero_le _, rfl, I0, HM⟩ ?_
  clear I0 HM
  rintro m a W ⟨i, v6, v7, z13, y, rfl, hz13, hi, rfl, HI, HM⟩ K hK
  have HKK := Aside0.mk hK
  clear hK
  have c1 := (F3.out.1.below HI.out.hb.out).cell (i := 0) rfl
  obtain ⟨wz, hwz⟩ : ∃ b, b = wasQ wq i := ⟨_, rfl⟩
  rw [← hwz]
  subst hz13
  by_cases hlt : i < s.size
  · have hq0 : decide ((i : Int) < (s.size : Int)) = true := decide_eq_true (by omega)
    have hq1 : (i : Int) < (s.size : Int) := by omega
    have hq2 : (0 : Int) ≤ (i : Int) := by omega
    have hq3 : wrap64 ((i : Int) + 1) = (i : Int) + 1 := wrap_succ (by have := HSZ.out; omega) hq2
    obtain ⟨cz, hcz⟩ : ∃ cz : Int, cz = bt s (i : Int) := ⟨_, rfl⟩
    have HCZ := Aside0.mk hcz
    have hby : ∀ h : i < s.size, ((s[i]'h).toNat : Int) = cz := fun h => by have := bt_at s (i : Int) (by rw [Int.toNat_natCast]; exact h); rw [hcz]; simpa using this
    obtain ⟨mb, hmb⟩ : ∃ b, b = mq i := ⟨_, rfl⟩
    obtain ⟨ib, hib⟩ : ∃ b, b = iq i := ⟨_, rfl⟩
    obtain ⟨ob, hob⟩ : ∃ b, b = (!mb && !ib) := ⟨_, rfl⟩
    obtain ⟨kk, hkk⟩ : ∃ b, b = kb i := ⟨_, rfl⟩
    obtain ⟨sgb, hsg⟩ : ∃ b, b = sg i := ⟨_, rfl⟩
    obtain ⟨wd, hwd⟩ : ∃ b, b = wq i := ⟨_, rfl⟩
    obtain ⟨bb, hbb⟩ : ∃ b, b = bg i := ⟨_, rfl⟩
    obtain ⟨lb, hlb⟩ : ∃ b, b = lkq (i : Int) := ⟨_, rfl⟩
    obtain ⟨kz, hkz⟩ : ∃ b, b = kdq i := ⟨_, rfl⟩
    have HLT := Aside0.mk hlt
    have HOB := Aside0.mk hob
    have HKQ := Aside0.mk hkk
    have HBQ := Aside0.mk hbb
    have HWQ := Aside0.mk hwd
    have HKK2 : Aside0 (kk = (ob && (cz == 32 || cz == 9 || cz == 10 || cz == 13))) := ⟨by rw [hkk, C.out.hk i hlt, hob, hmb, hib, hcz]⟩
    have HWW : Aside0 (wd = ((ob && !kk) && !sgb)) := ⟨by rw [hwd, C.out.hw i hlt, hob, hmb, hib, hkk, hsg]⟩
    have HBB : Aside0 (bb = ((ob && sgb || mb && ib) || wd && !wz)) := ⟨by rw [hbb, C.out.hg i hlt, hob, hmb, hib, hwd, hsg, hwz]⟩
    have GM : Aside0 (∀ W, BelowH W3 W → Calls Tryd.prog 23 #[.agg #[.int .i64 s.size, .slice A1 l1.length k1], .int .i64 (i : Int)] W fun e w' => e = .returned (.bool mb) ∧ Below W.heap.size W w') := ⟨fun W h => mp_get R1 h _ _ (by rw [hmb]; exact C.out.gm i hlt)⟩
    have GI : Aside0 (∀ W, BelowH W3 W → Calls Tryd.prog 23 #[.agg #[.int .i64 s.size, .slice A2 l2.length k2], .int .i64 (i : Int)] W fun e w' => e = .returned (.bool ib) ∧ Below W.heap.size W w') := ⟨fun W h => mp_get R2 h _ _ (by rw [hib]; exact C.out.gi i hlt)⟩
    have GB : Aside0 (∀ W, BelowH W3 W → Calls Tryd.prog 23 #[.agg #[.int .i64 s.size, .slice A3 l3.length k3], .int .i64 (i : Int)] W fun e w' => e = .returned (.bool kk) ∧ Below W.heap.size W w') := ⟨fun W h => mp_get R3 h _ _ (by rw [hkk]; exact C.out.gb i hlt)⟩
    have SG : Aside0 (∀ W', Below W.heap.size W W' → Calls Tryd.prog 24 #[.int .u8 cz] W' fun e w' => e = .returned (.bool sgb) ∧ Below W'.heap.size W' w') := ⟨fun W _ => by rw [hcz, hsg]; exact C.out.sc W i hlt⟩
    have SG : Aside0 (∀ W', Calls Tryd.prog 24 #[.int .u8 cz] W' fun e w' => e = .returned (.bool sgb) ∧ Below W'.heap.size W' w') := ⟨fun W => by rw [hcz, hsg]; exact C.out.sc W i hlt⟩
    have LK : Aside0 (∀ W', Calls Tryd.prog 21 #[.string s, .int .i64 (i : Int)] W' fun e w' => e = .returned (.bool lb) ∧ Below W'.heap.size W' w') := ⟨fun W => by rw [hlb]; exact C.out.lk W _⟩
    have KD : Aside0 (∀ W', Calls Tryd.prog 22 #[.string s, .int .i64 (i : Int)] W' fun e w' => e = .returned (.int .u8 kz) ∧ Below W'.heap.size W' w') := ⟨fun W => by rw [hkz]; exact C.out.kd W i hlt⟩
    have HKB : Aside0 ((kz != 0) = bb) := ⟨by rw [hkz, hbb]; exact C.out.hd i hlt⟩
    have CVI : Aside0 ((covA wq s.size)[i]? = some (.bool wd)) := ⟨by rw [hwd]; exact covA_at wq hlt⟩
    clear hmb hib hob hkk hsg hwd hbb hlb hkz hlt hi hcz hwz
    gi_upto_region 26 with (fail)
    gi_cut [14] from 227 (fun v14 wx => v14 = .bool ob ∧ Aside0 (MpI s W3 gc g9 wq v6 v7 (xsB bg i) (ysB s kb i) wx) ∧ Aside0 (Marks w.heap.size [D] wx))
    case first =>
      refine MpR.reg26 HF s i mb ib ob _ _ (F3.out.2.2.1.below HI.out.hb.out) (F3.out.2.2.2.1.below HI.out.hb.out) ⟨fun W' h => GM.out _ (HI.out.hb.step h)⟩ ⟨fun W' h => GI.out _ (HI.out.hb.step h)⟩ HOB.out ⟨?_⟩
      intro x105 x106 x107 x108 x109 x110 x111 x112 x113 x114 wk hb
      have HIn := Aside0.mk (HI.out.below hb)
      have HMn := Aside0.mk (HM.out.below hb)
      gi_wp2
      gi_meet
      case rel => exact ⟨rfl, HIn, HMn⟩
    case rest =>
    obtain ⟨rfl, HI1, HM1⟩ := hcut
    clear HI HM
    have HI := HI1
    have HM := HM1
    clear HI1 HM1
    gi_upto_region 27 with (fail)
    gi_cut [15] from 227 (fun v15 wx => v15 = .bool kk ∧ Aside0 (MpI s W3 gc g9 wq v6 v7 (xsB bg i) (ysB s kb i) wx) ∧ Aside0 (Marks w.heap.size [D] wx))
    case first =>
      refine MpR.reg27 HF s i cz ob kk _ _ (F3.out.1.below HI.out.hb.out) hq2 hq1 hby HKK2.out ⟨?_⟩
      intro x115 x116 x117 x118 x119 x120 x121 x122 x123 x124 x125 x126 x127 x128 x129 x130 x131 x132 x133 x134 x135 x136 x137 x138 x139 wk hb
      have HIn := Aside0.mk (HI.out.below hb)
      have HMn := Aside0.mk (HM.out.below hb)
      gi_wp2
      gi_meet
      case rel => exact ⟨rfl, HIn, HMn⟩
    case rest =>
    obtain ⟨rfl, HI1, HM1⟩ := hcut
    clear HI HM
    have HI := HI1
    have HM := HM1
    clear HI1 HM1
    gi_upto_region 29 with (fail)
    gi_cut [8] from 227 (fun v8 wx => v8 = .bool wd ∧ Aside0 (MpI s W3 gc g9 wq v6 v7 (xsB bg i) (ysB s kb i) wx) ∧ Aside0 (Marks w.heap.size [D] wx))
    case first =>
      refine MpR.reg29 HF s i cz ob kk sgb wd _ _ (F3.out.1.below HI.out.hb.out) hq2 hq1 hby SG HWW.out ⟨?_⟩
      intro x141 x142 x143 x144 x145 x146 x147 x148 x149 x150 x151 x152 wk hb
      have HIn := Aside0.mk (HI.out.below hb)
      have HMn := Aside0.mk (HM.out.below hb)
      gi_wp2
      gi_meet
      case rel => exact ⟨rfl, HIn, HMn⟩
    case rest =>
    obtain ⟨rfl, HI1, HM1⟩ := hcut
    clear HI HM
    have HI := HI1
    have HM := HM1
    clear HI1 HM1
    gi_upto_region 30 with (fail)
    gi_cut [17] from 227 (fun v17 wx => v17 = .bool bb ∧ Aside0 (MpI s W3 gc g9 wq v6 v7 (xsB bg i) (ysB s kb i) wx) ∧ Aside0 (Marks w.heap.size [D] wx))
    case first =>
      refine MpR.reg30 HF s i cz mb ib ob sgb wd wz bb _ _ (F3.out.1.below HI.out.hb.out) (F3.out.2.2.1.below HI.out.hb.out) (F3.out.2.2.2.1.below HI.out.hb.out) hq2 hq1 hby ⟨fun W' h => GM.out _ (HI.out.hb.step h)⟩ ⟨fun W' h => GI.out _ (HI.out.hb.step h)⟩ SG HBB.out ⟨?_⟩
      intro x153 x154 x155 x156 x157 x158 x159 x160 x161 x162 x163 x164 x165 x166 x167 x168 x169 x170 x171 x172 x173 x174 x175 x176 wk hb
      have HIn := Aside0.mk (HI.out.below hb)
      have HMn := Aside0.mk (HM.out.below hb)
      gi_wp2
      gi_meet
      case rel => exact ⟨rfl, HIn, HMn⟩
    case rest =>
    obtain ⟨rfl, HI1, HM1⟩ := hcut
    clear HI HM
    have HI := HI1
    have HM := HM1
    clear HI1 HM1
    gi_upto_if 177 with (fail)
    gi_cut [6] from 227 (fun v6 wx => Aside0 (MpI s W3 gc g9 wq v6 v7 (xsB bg (i + 1)) (ysB s kb i) wx) ∧ Aside0 (Marks w.heap.size [D] wx))
    case first =>
      refine MpR.reg32 HF s i bb wq bg _ _ HBQ ⟨by have := xsB_len bg i; have := HSZ.out; have := HLT.out; omega⟩ HI ⟨?_⟩
      intro x0 x1 x2 x3 v' wk HIn KOn
      have HMn := Aside0.mk (HM.out.others KOn.out)
      gi_wp2
      gi_meet
      case rel => exact ⟨HIn, HMn⟩
    case rest =>
    obtain ⟨HI1, HM1⟩ := hcut
    clear HI HM
    have HI := HI1
    have HM := HM1
    clear HI1 HM1
    gi_upto_if 183 with (fail)
    gi_cut [6, 7] from 227 (fun v6 v7 wx => Aside0 (MpI s W3 gc g9 wq v6 v7 (xsB bg (i + 1)) (ysB s kb (i + 1)) wx) ∧ Aside0 (Marks w.heap.size [D] wx))
    case first =>
      refine MpR.reg34 HF s i cz (!kk) kk wq kb _ _ rfl HKQ HCZ hq2 hq1 hby (F3.out.1.below HI.out.hb.out) ⟨by have := ysB_len s kb i; have := HSZ.out; have := HLT.out; omega⟩ HI ⟨?_⟩
      intro x0 x1 x2 x3 x4 x5 v' wk HIn KOn
      have HMn := Aside0.mk (HM.out.others KOn.out)
      gi_wp2
      gi_meet
      case rel => exact ⟨HIn, HMn⟩
    case rest =>
    obtain ⟨HI1, HM1⟩ := hcut
    clear HI HM
    have HI := HI1
    have HM := HM1
    clear HI1 HM1
    gi_upto_region 35 with (fail)
    gi_cut [6, 7, 215] from 227 (fun v6 v7 v215 wx => v215 = .bool false ∧ Aside0 (MpI s W3 gc g9 wq v6 v7 (xsB bg (i + 1)) (ysB s kb (i + 1)) wx) ∧ Aside0 (Marks w.heap.size [D] wx))
    case first =>
      refine MpR.reg35 HF s i wq kz kk wd bb lb _ _ (F3.out.1.below HI.out.hb.out) (F3.out.2.2.2.2.below HI.out.hb.out) HI.out.b9 HI.out.bc CVI hq2 hq1 ⟨fun W' h => GB.out _ (HI.out.hb.step h)⟩ LK KD HKB ⟨?_⟩
      intro x190 x191 x192 x193 x194 x195 x196 x197 x198 x199 x200 x201 x202 x203 x204 x205 x206 x207 x208 x209 x210 x211 x212 x213 x214 wk hb
      have HIn := Aside0.mk (HI.out.below hb)
      have HMn := Aside0.mk (HM.out.below hb)
      gi_wp2
      gi_meet
      case rel => exact ⟨rfl, HIn, HMn⟩
    case rest =>
    obtain ⟨rfl, HI1, HM1⟩ := hcut
    clear HI HM
    have HI := HI1
    have HM := HM1
    clear HI1 HM1
    gi_wp2
    have hwd := HWQ.out
    subst hwd
    refine act_in fun aa ha => ?_
    refine HKK.out (s.size - (i + 1)) aa _ (by have := HLT.out; omega) ⟨i + 1, _, _, wrap64 ((i : Int) + 1), fun k => aa.tmps.getD k undef, rfl, by rw [hq3]; omega, by have := HLT.out; omega, ?fr, HI, HM⟩
    case fr => subst ha; rfl
  · have EI : i = s.size := by omega
    have hq0 : decide ((i : Int) < (s.size : Int)) = false := decide_eq_false (by omega)
    have hq1 : ¬ (i : Int) < (s.size : Int) := by omega
    have hsz : (i : Int) = (s.size : Int) := by omega
    have HEI := Aside0.mk EI
    have HIe : Aside0 (MpI s W3 gc g9 wq v6 v7 (xsB bg s.size) (ysB s kb s.size) W) := ⟨by rw [← EI]; exact HI.out⟩
    have HWZ := Aside0.mk hwz
    have HSN := Aside0.mk hsz
    clear HI EI hlt hi hwz hsz
    gi_wp2
    refine act_in (K := Q (.exit 4)) fun aa ha => ?_
    have e1 := HSN.out
    have e2 := HWZ.out
    have e3 := HEI.out
    subst e2
    subst e3
    have h := H.out v6 v7 (fun k => aa.tmps.getD k undef) W HIe HM
    subst ha
    exact h
set_option maxHeartbeats 4000000 in
set_option maxRecDepth 100000 in
theorem quarrylaw08_MarksParts.core (s : ByteArray) (hs : s.size ≤ 1048576) (l1 l2 l3 : List Int) (lkq : Int → Bool) (kdq : Nat → Int) (mq iq kb wq bg sg : Nat → Bool) (t : ByteArray) (C : MpC s (s.size : Int) l1 l2 l3 lkq kdq mq iq kb wq bg sg t) (w : World) (hT : TabOk w) :
    Calls Tryd.prog 4 #[.string s] w fun e w' => e = .returned (.bool true) ∧ Below w.heap.size w w' := by
  have C := Aside0.mk C
  have HSZ := Aside0.mk hs
  obtain ⟨F, hF⟩ : ∃ F, F = Fence.wide := ⟨_, rfl⟩
  have HF := Aside0.mk hF
  refine (callsIn_wide (n := 9)).1 ?_
  rw [← hF]
  clear hF
  have hro := wide_round HF
  have HB := BelowH.refl w
  have f1 := wide_fn HF 17
  have f2 := wide_fn HF 18
  have f3 := wide_fn HF 19
  have f4 := wide_fn HF 20
  have f5 := wide_fn HF 14
  have f6 := wide_fn HF 22
  have f7 := wide_fn HF 21
  have f8 := wide_fn HF 49
  have f9 := wide_fn HF 25
  have f10 := wide_fn HF 23
  have f11 := wide_fn HF 24
  have f12 := wide_fn HF 26
  have f13 := wide_fn HF 27
  have HT := Aside0.mk hT
  clear hT hs
  refine callsIn_of_wp_marks Tryd.func4 rfl (wide_fn HF _) ?_ hro
  simp only [Tryd.ntmps4, List.size_toArray, List.length_cons, List.length_nil, Nat.reduceAdd, Nat.reduceSub, Array.replicate_succ, Array.replicate_zero, List.push_toArray, List.append_toArray, List.nil_append, List.cons_append]
  gi_upto_region 1 with (first
    | ((with_reducible refine gate_dstIn (N := 1) rfl ?_); refine ev_allocIn HB rfl rfl (#[.string s]) 9 ?hr ?_; (case hr => first | (go_simp; done) | (go_simp; rfl)); intro g1 w1 G_g1 GE_g1 B_g1 HBn K_g1 KO_w1; clear HB; have HB := HBn; clear HBn)
    | ((with_reducible refine gate_dstIn (N := 2) rfl ?_); refine ev_allocIn HB rfl rfl (#[.bool false]) 4 ?hr ?_; (case hr => first | (go_simp; done) | (go_simp; rfl)); intro g2 w2 G_g2 GE_g2 B_g2 HBn K_g2 KO_w2; clear HB; have HB := HBn; clear HBn))
  have B1 := B_g1.below K_g2.out
  have P12 := Aside0.mk (show g1 ≠ g2 by have := B_g1.lt; have := G_g2.out; omega)
  clear B_g1 KO_w1 KO_w2 K_g1 K_g2 G_g1 G_g2
  have HT2 := HT.out.step HB.out
  gi_upto_region 3 with (first
    | (gi_at_call 17; refine (callsIn_of HF (C.out.aw _ HT2)).mono ?_; rintro e wx ⟨rfl, hb⟩; have HBn := HB.step hb; have g1n := B1.below hb; have g2n := B_g2.below hb; clear HB hb B1 B_g2; have HB := HBn; have B1 := g1n; have B2 := g2n; clear HBn g1n g2n))
  clear HT2
  obtain ⟨n, hn⟩ : ∃ n : Int, n = (s.size : Int) := ⟨_, rfl⟩
  have HN := Aside0.mk hn
  refine quarrylaw08_MarksParts.region3In HF s n l1 l2 l3 w _ _ g1 g2 (hn ▸ C.out.cm) (hn ▸ C.out.ci) (hn ▸ C.out.cb) _ ⟨B1.cell (i := 0) rfl, B1, B2, HB⟩ ?_
  clear B1 B2 HB
  intro A1 k1 A2 k2 A3 k3 g3 g4 g5 W3 hS R1 R2 R3 B3 B4 B5 GE3
  obtain ⟨c1, B1, B2, HB⟩ := hS
  have c30 := B3.cell (i := 0) rfl
  have c31 := B3.cell (i := 1) rfl
  have c40 := B4.cell (i := 0) rfl
  have c41 := B4.cell (i := 1) rfl
  have c50 := B5.cell (i := 0) rfl
  have c51 := B5.cell (i := 1) rfl
  subst hn
  gi_upto_region 9 with (fail)
  clear c30 c31 c40 c41 c50 c51
  have HB9 := Aside0.mk HB
  have HBw := HB
  clear HB
  have HB := BelowH.refl W3
  gi_upto_region 10 with (first
    | ((with_reducible refine gate_dstIn (N := 47) rfl ?_); refine ev_makeRowIn HB rfl 38 4 _ _ s.size rfl rfl rfl Tryd.underlying38 (by kernel_rfl) (by have := HSZ.out; omega) ?_; intro gc w6 G_gc GE_gc B_gc HBn K_gc KO6; clear HB; have HB := HBn; clear HBn)
    | ((with_reducible refine gate_dstIn (N := 9) rfl ?_); refine ev_allocIn HB rfl rfl (#[.slice none 0 0]) 38 ?hr ?_; (case hr => first | (go_simp; done) | (go_simp; rfl)); intro g9 w7 G_g9 GE_g9 B_g9 HBn K_g9 KO_w7; clear HB; have HB := HBn; clear HBn)
    | ((with_reducible refine gate_In (Op.store 38 (.tmp 9) (.tmp 47)) rfl ?_); refine ev_store1In (i := 0) HB B_g9 GE_g9 rfl 38 _ _ rfl rfl (.slice (some ⟨gc, 0, none⟩) s.size s.size) (by first | rfl | (simp only [Act.put, List.setIfInBounds_toArray, List.set_cons_zero, List.set_cons_succ]; rfl)) (by simp) (by kernel_rfl) rfl ?_; intro w8 B9 HBn K_w8 KO8; clear HB; have HB := HBn; clear HBn))
  simp only [Act.put, List.setIfInBounds_toArray, List.set_cons_zero, List.set_cons_succ]
  have B91 := B_gc.below K_g9.out
  have HP9 := Aside0.mk (show gc ≠ g9 ∧ gc < w8.heap.size ∧ g9 < w8.heap.size by have := B_gc.lt; have := G_g9.out; have := B9.lt; have := K_w8.out.1; have := B91.lt; exact ⟨by omega, by omega, by omega⟩)
  have B_gc8 := B91.other K_w8 HP9.out.1
  clear B91 B_gc K_gc K_g9 K_w8 G_gc G_g9 KO6 KO8
  have QF : ∀ (w : World) (f : Fn) (a c : Array Value), (binOp .eql 23 (.func f a c) .nilFunc).run Tryd.prog w = .ok (.bool false) w := fun w f a c => run_eql_func_nil (ps := #[72]) (rs := #[]) (vd := false) _ (by kernel_rfl) _ _ _ _
  have c18 := (B1.below HB.out).cell (i := 0) rfl
  gi_cut [10] from 11 (fun v10 wx => ∃ h1, v10 = .func (.func 49) #[] #[.pointer (some ⟨h1, 0, none⟩)] ∧ Aside0 (w8.heap.size ≤ h1) ∧ Blk wx h1 #[.string s] 9 ∧ Aside0 (Below w8.heap.size w8 wx))
  case first =>
    gi_wp2_with (first
      | (gi_at_call 14; refine (callsIn_of HF (C.out.wd _)).mono ?_; rintro e wA ⟨h1, rfl, GEh, BH1, HBA⟩))
    gi_meet
    case rel => exact ⟨h1, rfl, ⟨GEh⟩, BH1, ⟨HBA.out⟩⟩
  case rest =>
  obtain ⟨h1, rfl, GEh, BH1, HBA⟩ := hcut
  clear c18
  have HBA8 := HB.step HBA.out
  have B9A := B9.below HBA.out
  have BcA := B_gc8.below HBA.out
  have HTA := (HT.out.stepH HBw).stepH HBA8
  have P0 := HTA.pos
  have LH1 := BH1.lt
  have PM : Aside0 (gc < wc.heap.size ∧ g9 < wc.heap.size ∧ W3.heap.size ≤ wc.heap.size ∧ h1 ≠ gc ∧ h1 ≠ g9 ∧ 0 < W3.heap.size ∧ gc ≠ g9 ∧ W3.heap.size ≤ gc ∧ W3.heap.size ≤ g9 ∧ h1 < wc.heap.size) := ⟨⟨BcA.lt, B9A.lt, HBA8.le, by have := HP9.out; have := GEh.out; omega, by have := HP9.out; have := GEh.out; omega, (HT.out.stepH HBw).pos, HP9.out.1, GE_gc.out, GE_g9.out, LH1⟩⟩
  have F3 := Aside0.mk (And.intro B1 (And.intro B2 (And.intro B3 (And.intro B4 B5))))
  obtain ⟨wa, hwa⟩ : ∃ wa, wa = wc := ⟨_, rfl⟩
  clear B9 B_gc8 GEh HBA B1 B2 B3 B4 B5
  gi_upto_region 13 with (fail)
  gi_cut [52] from 11 (fun v52 wy => v52 = .func (.func 49) #[] #[.pointer (some ⟨h1, 0, none⟩)] ∧ wy = wa)
  case first =>
    gi_wp2
    gi_meet
    case rel => exact ⟨rfl, hwa.symm⟩
  case rest =>
  obtain ⟨rfl, hwb⟩ := hcut
  rw [← hwa] at BH1 HBA8 B9A BcA HTA P0 LH1 PM
  subst hwb
  clear hwa
  gi_wp2
  refine wpIn_rangeFunc_O hro (by decide) (gf := 49) (lb := #[.pointer (some ⟨h1, 0, none⟩)]) rfl f8 (enters_of Tryd.func49 (by kernel_rfl) rfl)
    (marks_Words_1.stops F HF (9 - 1) (by decide) h1 s (by have := HSZ.out; omega) _ BH1 HTA) Keep2.trans (fun W l o o' hl ho hc hw => Keep2.putObj P0 LH1 W l o o' hl ho hc hw) (Below.refl _ _) (fun _ => rfl)
    (fun _ pre W => Blk W gc (covA (covQ pre) s.size) 4 ∧ Blk W g9 #[.slice (some ⟨gc, 0, none⟩) s.size s.size] 38 ∧ BelowH W3 W ∧ wc.heap.size ≤ W.heap.size) (fun _ _ _ => False)
    (fun _ pre A B row hs hg hr => ⟨hs.1.kept hg (fun r e => (hr r e).2), hs.2.1.kept hg (fun r e => (hr r e).2), hs.2.2.1.kept hg PM.out.2.2.1 (fun r e => (hr r e).1), Nat.le_trans hs.2.2.2 hg.size⟩)
    (fun _ _ _ _ _ hs _ _ => hs)
    (fun X pre A k h hk => h)
    (fun X pre A C hX h ht => ⟨h.1.turned ht (not_mem_above hX PM.out.1), h.2.1.turned ht (not_mem_above hX PM.out.2.1), ⟨ht.below (fun k hk => Nat.le_trans PM.out.2.2.1 (hX k hk)) h.2.2.1.le h.2.2.1.out⟩, Nat.le_trans h.2.2.2 ht.size⟩)
    ⟨BcA, B9A, HBA8, Nat.le_refl _⟩
    (fun x a' W => ∃ gb, wc.heap.size ≤ gb ∧ Blk W gb #[.int .i64 ((x.1 : Nat) : Int), .int .i64 ((x.2 : Nat) : Int)] 26 ∧ a' = { tmps := ((.string s : Value) :: (.pointer (some ⟨g1, 0, none⟩) : Value) :: (.pointer (some ⟨g2, 0, none⟩) : Value) :: (.pointer (some ⟨g3, 0, none⟩) : Value) :: (.pointer (some ⟨g4, 0, none⟩) : Value) :: (.pointer (some ⟨g5, 0, none⟩) : Value) :: (.slice none 0 0 : Value) :: (.slice none 0 0 : Value) :: (.bool false : Value) :: (.pointer (some ⟨g9, 0, none⟩) : Value) :: (.func (.func 49) #[] #[.pointer (some ⟨h1, 0, none⟩)] : Value) :: (.pointer (some ⟨gb, 0, none⟩) : Value) :: u12 :: u13 :: u14 :: u15 :: u16 :: u17 :: u18 :: u19 :: u20 :: u21 :: u22 :: u23 :: u24 :: u25 :: u26 :: u27 :: u28 :: u29 :: u30 :: u31 :: u32 :: u33 :: u34 :: u35 :: u36 :: u37 :: u38 :: u39 :: u40 :: u41 :: u42 :: u43 :: u44 :: u45 :: u46 :: u47 :: u48 :: u49 :: u50 :: u51 :: (.func (.func 49) #[] #[.pointer (some ⟨h1, 0, none⟩)] : Value) :: (.agg #[.int .i64 ((x.1 : Nat) : Int), .int .i64 ((x.2 : Nat) : Int)] : Value) :: u54 :: u55 :: u56 :: u57 :: u58 :: u59 :: u60 :: u61 :: u62 :: u63 :: u64 :: u65 :: u66 :: u67 :: u68 :: u69 :: u70 :: u71 :: u72 :: u73 :: u74 :: u75 :: u76 :: u77 :: u78 :: u79 :: u80 :: u81 :: u82 :: u83 :: u84 :: u85 :: u86 :: u87 :: u88 :: u89 :: u90 :: u91 :: u92 :: u93 :: u94 :: u95 :: u96 :: u97 :: u98 :: u99 :: u100 :: u101 :: u102 :: u103 :: u104 :: u105 :: u106 :: u107 :: u108 :: u109 :: u110 :: u111 :: u112 :: u113 :: u114 :: u115 :: u116 :: u117 :: u118 :: u119 :: u120 :: u121 :: u122 :: u123 :: u124 :: u125 :: u126 :: u127 :: u128 :: u129 :: u130 :: u131 :: u132 :: u133 :: u134 :: u135 :: u136 :: u137 :: u138 :: u139 :: u140 :: u141 :: u142 :: u143 :: u144 :: u145 :: u146 :: u147 :: u148 :: u149 :: u150 :: u151 :: u152 :: u153 :: u154 :: u155 :: u156 :: u157 :: u158 :: u159 :: u160 :: u161 :: u162 :: u163 :: u164 :: u165 :: u166 :: u167 :: u168 :: u169 :: u170 :: u171 :: u172 :: u173 :: u174 :: u175 :: u176 :: u177 :: u178 :: u179 :: u180 :: u181 :: u182 :: u183 :: u184 :: u185 :: u186 :: u187 :: u188 :: u189 :: u190 :: u191 :: u192 :: u193 :: u194 :: u195 :: u196 :: u197 :: u198 :: u199 :: u200 :: u201 :: u202 :: u203 :: u204 :: u205 :: u206 :: u207 :: u208 :: u209 :: u210 :: u211 :: u212 :: u213 :: u214 :: u215 :: u216 :: u217 :: u218 :: u219 :: u220 :: u221 :: u222 :: u223 :: u224 :: u225 :: u226 :: []).toArray, defers := [] })
    (fun x a' pre A B row hs hg hr => by
      obtain ⟨gb, h1, h2, h3⟩ := hs
      exact ⟨gb, h1, h2.kept hg (fun r e => (hr r e).2), h3⟩)
    ?assign ?body ?done ?stop
  case stop =>
    intro D c pre W hD hp hf
    exact hf.elim
  case assign =>
    intro X l pre x W K hX hI hsp hK
    have HB := hI.2.2.1
    have SZ := Aside0.mk hI.2.2.2
    have HXA := Aside0.mk hX
    have HI := Aside0.mk hI
    clear hX hsp hI
    have hz : ∀ t : Array Value, (((#[53] : Array Tmp).zip (wEnc x)).foldl (fun t (p, v) => t.setIfInBounds p v) t) = t.setIfInBounds 53 (.agg #[.int .i64 ((x.1 : Nat) : Int), .int .i64 ((x.2 : Nat) : Int)]) := fun t => by simp [wEnc]
    rw [hz]
    simp only [List.setIfInBounds_toArray, List.set_cons_succ, List.set_cons_zero]
    clear hz
    gi_wp2_with (first
      | ((with_reducible refine gate_dstIn (N := 11) rfl ?_); refine ev_allocIn HB rfl rfl (#[.int .i64 0, .int .i64 0]) 26 ?hr ?_; (case hr => first | (go_simp; done) | (go_simp; rfl)); intro gb wB G_gb GE_gb B_gb HBn K_gb KO_wB; clear HB; have HB := HBn; clear HBn)
      | ((with_reducible refine gate_In (Op.store 26 (.tmp 11) (.tmp 53)) rfl ?_); refine ev_storeIn HB B_gb GE_gb rfl 26 _ _ rfl rfl rfl (by kernel_rfl) rfl (by simp [Value.oneCell']) ?_; intro wC B9 HBn K_wC KO_wC; clear HB; have HB := HBn; clear HBn))
    have hKO := KO_wB.out.trans KO_wC.out
    have NGB : ∀ g, g < W.heap.size → g ≠ gb := fun g h => by have := G_gb.out; omega
    have same : ∀ g, g < W.heap.size → wC.heap[g]? = W.heap[g]? := fun g h => (K_wC.out.2 g (NGB g h)).trans (K_gb.out.block g h)
    have Z := SZ.out
    have p := PM.out
    have h := HI.out
    exact hK _ _ (hKO.from _) (fun k hk => same k (HXA.out k hk).2) ⟨same 0 (by omega), same h1 (by omega), Nat.le_trans K_gb.out.size K_wC.out.1⟩ ⟨⟨(same gc h.1.lt).trans h.1.out⟩, ⟨(same g9 h.2.1.lt).trans h.2.1.out⟩, HB, Nat.le_trans Z (Nat.le_trans K_gb.out.size K_wC.out.1)⟩ ⟨gb, Nat.le_trans SZ.out G_gb.out, B9, rfl⟩
  case body =>
    rintro X l pre x a' W hX hl ⟨r, hr⟩ hI ⟨gb, hgb, BX, rfl⟩ hsp
    have HXA := Aside0.mk hX
    have HI := Aside0.mk hI
    obtain ⟨suf, hsuf⟩ := hsp
    have hmem : x ∈ spansW s := by rw [← hsuf, List.append_assoc]; exact List.mem_append_right _ (List.mem_append_left _ (List.mem_singleton.2 rfl))
    have hx := spans_mem hmem
    have hk9 := C.out.kw x hmem
    have HX := Aside0.mk (And.intro hx.1 hx.2.1)
    have HCV : Aside0 (∀ i, x.1 ≤ i → covQ pre i = false) := ⟨fun i hi => cov_next (suf := suf) (by rw [← hsuf, List.append_assoc]; rfl) hi⟩
    have KDX : Aside0 (∀ W, Calls Tryd.prog 22 #[.string s, .int .i64 ((x.1 : Nat) : Int)] W fun e w' => e = .returned (.int .u8 119) ∧ Below W.heap.size W w') := ⟨fun W => by
      have h := C.out.kd W x.1 (by omega)
      rw [hk9] at h
      exact h⟩
    obtain ⟨za, hza⟩ : ∃ za : Int, za = ((x.1 : Nat) : Int) := ⟨_, rfl⟩
    obtain ⟨zb, hzb⟩ : ∃ zb : Int, zb = ((x.2 : Nat) : Int) := ⟨_, rfl⟩
    have t1 : decide (za < 0) = false := decide_eq_false (by omega)
    have t2 : decide (za ≥ zb) = false := decide_eq_false (by omega)
    have t3 : decide (zb > (s.size : Int)) = false := decide_eq_false (by omega)
    rw [← hza, ← hzb] at BX
    rw [← hza] at KDX
    rw [← hza, ← hzb]
    have HZ := Aside0.mk (And.intro hza hzb)
    have cx0 := BX.cell (i := 0) rfl
    have cx1 := BX.cell (i := 1) rfl
    have c18 := (F3.out.1.below hI.2.2.1.out).cell (i := 0) rfl
    obtain ⟨lb, hlb⟩ : ∃ lb, lb = lkq za := ⟨_, rfl⟩
    have LKX : Aside0 (∀ W, Calls Tryd.prog 21 #[.string s, .int .i64 za] W fun e w' => e = .returned (.bool lb) ∧ Below W.heap.size W w') := ⟨fun W => by rw [hlb]; exact C.out.lk W za⟩
    clear hX hl hr hI hsuf hmem hx hk9 hza hzb hlb
    gi_upto_region 15 with (fail)
    gi_cut [83] from 12 (fun v83 wy => v83 = .bool false ∧ Aside0 (Below W.heap.size W wy))
    case first =>
      cases lb with
      | false =>
        gi_wp2_with (first
          | (gi_at_call 21; refine (CallsIn.inRound l (callsIn_of HF (LKX.out _))).mono ?_; rintro e wk ⟨rfl, hb⟩; have HK1 := Aside0.mk hb; clear hb))
        gi_meet
        case rel => exact ⟨rfl, HK1⟩
      | true =>
        gi_wp2_with (first
          | (gi_at_call 21; refine (CallsIn.inRound l (callsIn_of HF (LKX.out _))).mono ?_; rintro e wk ⟨rfl, hb⟩; have HK1 := Aside0.mk hb; have cx0 := pw_cell_below hb cx0; have c18 := pw_cell_below hb c18; clear hb)
          | (gi_at_call 22; refine (CallsIn.inRound l (callsIn_of HF (KDX.out _))).mono ?_; rintro e wk2 ⟨rfl, hb⟩; have HK2 := Aside0.mk (HK1.out.trans (hb.mono HK1.out.size)); clear hb))
        gi_meet
        case rel => exact ⟨rfl, HK2⟩
    case rest =>
    obtain ⟨rfl, HKB⟩ := hcut
    have HJ0 : Aside0 (x.1 ≤ x.1 ∧ x.1 ≤ x.2) := ⟨Nat.le_refl _, Nat.le_of_lt HX.out.1⟩
    have HM0 : Aside0 (MpW s W3 gc g9 gb za zb W (fun i => covQ pre i || (decide (x.1 ≤ i) && decide (i < x.1))) wc) := ⟨by
      have hb := HKB.out
      have e1 : covA (covQ pre) s.size = covA (fun i => covQ pre i || (decide (x.1 ≤ i) && decide (i < x.1))) s.size := covA_congr fun i _ => by
        by_cases h : x.1 ≤ i
        · rw [decide_eq_false (show ¬ i < x.1 by omega)]; simp
        · rw [decide_eq_false h]; simp
      exact ⟨e1 ▸ HI.out.1.below hb, HI.out.2.1.below hb, BX.below hb, HI.out.2.2.1.step hb, keepsOthers_below hb, fun k h1 _ => hb.block k h1, hb.size⟩⟩
    have HGB : Aside0 (gb ≠ gc) := ⟨by have := PM.out; omega⟩
    have cx0 := HM0.out.bx.cell (i := 0) rfl
    clear c18 HKB LKX KDX BX
    gi_wp2
    gi_loopw [12] (fun v12 wr => ∃ j : Nat, v12 = .int .i64 (j : Int) ∧ Aside0 (x.1 ≤ j ∧ j ≤ x.2) ∧ Aside0 (MpW s W3 gc g9 gb za zb W (fun i => covQ pre i || (decide (x.1 ≤ i) && decide (i < j))) wr)) (fun v12 _ => x.2 - (intOf v12).toNat)
    case atStart => exact ⟨x.1, by rw [HZ.out.1], HJ0, HM0⟩
    case round =>
      clear cx0 HJ0 HM0
      obtain ⟨j, rfl, HJ, HM⟩ := hrel
      have cx1 := HM.out.bx.cell (i := 1) rfl
      by_cases hj : j < x.2
      · have t1 : decide ((j : Int) < zb) = true := decide_eq_true (by have := HZ.out; omega)
        have t2 : (j : Int) < zb := by have := HZ.out; omega
        have hjs : j < s.size := by have := HX.out; omega
        have hk1 : (0 : Int) ≤ (j : Int) := by omega
        have hk2 : (j : Int) < (s.size : Int) := by omega
        have c9 := HM.out.b9.cell (i := 0) rfl
        have cj : wr.cell? ⟨gc, j, none⟩ = some (.bool false) := HM.out.bc.cell (i := j) (by
          rw [covA_at _ hjs, HCV.out j HJ.out.1, decide_eq_false (Nat.lt_irrefl j)]
          simp)
        have HWj : Aside0 (wrap64 ((j : Int) + 1) = ((j + 1 : Nat) : Int)) := ⟨by have := HSZ.out; unfold wrap64; omega⟩
        have HJJ := Aside0.mk (And.intro hj hjs)
        have GEC : Aside0 (W3.heap.size ≤ gc) := ⟨PM.out.2.2.2.2.2.2.2.1⟩
        have HB := HM.out.hb
        have bc := HM.out.bc
        clear hj hjs
        gi_wp2_with (first
          | ((with_reducible refine gate_In (Op.store 4 (.tmp 98) (.const (.bool true))) rfl ?_); refine ev_store1In (i := j) HB bc GEC rfl 4 _ _ rfl rfl (.bool true) rfl (by rw [covA_size]; exact HJJ.out.2) (by kernel_rfl) rfl ?_; intro w30 B30 HB30 K_w30 KO_w30))
        go_roundw
        case rel => exact ⟨j + 1, by rw [HWj.out], ⟨by have := HJ.out; omega, by have := HJJ.out; omega⟩, ⟨HM.out.put (fun i _ => by
          have h1 := HJ.out.1
          by_cases e1 : i < j
          · rw [decide_eq_true e1, decide_eq_true (show i < j + 1 by omega), decide_eq_false (show ¬ i = j by omega)]; simp
          · by_cases e2 : i = j
            · rw [decide_eq_true e2, decide_eq_true (show i < j + 1 by omega), decide_eq_true (show x.1 ≤ i by omega)]; simp
            · rw [decide_eq_false e1, decide_eq_false e2, decide_eq_false (show ¬ i < j + 1 by omega)]; simp) B30 HB30 K_w30 KO_w30 (Ne.symm PM.out.2.2.2.2.2.2.1) HGB.out⟩⟩
        case measure => have := HJJ.out; rw [HWj.out]; simp [intOf]; omega
      · have t1 : decide ((j : Int) < zb) = false := decide_eq_false (by have := HZ.out; omega)
        have t2 : ¬ (j : Int) < zb := by have := HZ.out; omega
        have hje : Aside0 (j = x.2) := ⟨by have := HJ.out; omega⟩
        clear hj
        gi_wp2
        have hcv : covA (fun i => covQ pre i || (decide (x.1 ≤ i) && decide (i < j))) s.size = covA (covQ (pre ++ [x])) s.size := covA_congr fun i _ => by rw [covQ_snoc, hje.out]
        exact ⟨HM.out.ko.from _, fun k hk => HM.out.same k (HXA.out k hk).2 (by have := HXA.out k hk; have := PM.out; omega), ⟨HM.out.same 0 (by have := PM.out; have := HI.out.2.2.2; omega) (by have := PM.out; omega), HM.out.same h1 (by have := PM.out; have := HI.out.2.2.2; omega) PM.out.2.2.2.1, HM.out.le⟩, hcv ▸ HM.out.bc, HM.out.b9, HM.out.hb, Nat.le_trans HI.out.2.2.2 HM.out.le⟩
  case done =>
    rintro D X ys W hD hX rfl hI hK
    have hDw : w.heap.size ≤ D := by have := HBw.le; have := PM.out; omega
    have HM := Aside0.mk (Marks.cons (Marks.nil (W := W)) hDw hK (List.not_mem_nil))
    have hcv : covA (covQ (spansW s)) s.size = covA wq s.size := covA_congr fun i hi => C.out.cv i hi
    have I0 : Aside0 (MpI s W3 gc g9 wq (.slice none 0 0) (.slice none 0 0) (xsB bg 0) (ysB s kb 0) W) := ⟨⟨hcv ▸ hI.1, hI.2.1, World.ownsRow_nil W _ _ 1, World.ownsRow_nil W _ _ 1, hI.2.2.1⟩⟩
    clear hX hI hK hD hDw hcv P0 LH1 HTA HBA8 B9A BcA BH1
    gi_wp2
    refine act_in fun aa ha => ?_
    refine quarrylaw08_MarksParts.loopT HF s t C HSZ _ W (fun k => aa.tmps.getD k undef) aa ?fr F3 R1 R2 R3 I0 HM ⟨?_⟩
    case fr => subst ha; rfl
    clear I0 HM ha
    intro v6 v7 y W HI HM
    obtain ⟨A7, c7, rfl⟩ := own_slice HI.out.r6
    have el : (xsB bg s.size).length = (xsL bg s.size).length := by unfold xsB; rw [List.length_map]
    rw [el] at HI
    rw [el]
    clear el
    gi_upto_region 37 with (fail)
    refine MpR.reg37 HF s t C _ _ HT HBw ⟨GE_g2.out⟩ F3.out.1 F3.out.2.1 HI HM ⟨?_⟩
    intro x1 x2 x3 x4 x5 x6 x7 x8 x9 x10 x11 W' B30 HB30 HM30
    gi_wp2
    refine leaves_marksS (S := fun A => Blk A g2 #[.bool true] 4 ∧ BelowH w A) (fun A D' hs h1 h2 => ?_) [D] W' ⟨B30, HB30⟩ HM30.out fun A hA => ⟨_, results_cell1 rfl _ _ g2 4 _ _ rfl hA.1 Tryd.underlying4 rfl, rfl, hA.2.out⟩
    have hg := grownBy_putObj' A D' (.deferred none)
    have hr2 : ∀ r, some D' = some r → ∃ o : Obj, A.heap[r]? = some o ∧ o.isCells = false := fun r e => by
      cases e
      exact ⟨_, h2, rfl⟩
    exact ⟨hs.1.kept hg hr2, hs.2.kept hg h1 (fun r e => by cases e; exact Nat.le_refl _)⟩
namespace MpF
theorem mp_size_eq (n : Nat) (h : n ≤ 281474976710656) : bitmap_size.f (n : Int) = some ((nwords n : Nat) : Int) := by
  unfold bitmap_size.f
  have e1 : Int.tmod (n : Int) 64 = ((n % 64 : Nat) : Int) := rfl
  have e2 : Int.tdiv (n : Int) 64 = ((n / 64 : Nat) : Int) := rfl
  have e3 : wrap64 ((n / 64 : Nat) : Int) = ((n / 64 : Nat) : Int) := by unfold wrap64; omega
  rw [e1, e2, e3]
  have e4 : wrap64 (((n / 64 : Nat) : Int) + 1) = ((n / 64 : Nat) : Int) + 1 := by unfold wrap64; omega
  rw [e4]
  unfold nwords
  by_cases h : n % 64 = 0
  · rw [if_pos (by omega)]; congr 1; omega
  · rw [if_neg (by omega)]; congr 1; omega
/-- The bits that the last word of a row may have. -/
def mp_tailW (n : Nat) : BitVec 64 := if n % 64 = 0 then 18446744073709551615#64 else BitVec.ofNat 64 (2 ^ (n % 64) - 1)
theorem mp_shl_one (m : Nat) (h : m < 64) : shl .u64 1 (m : Int) = ((2 ^ m : Nat) : Int) := by
  have : ∀ m : Fin 64, shl .u64 1 ((m.val : Nat) : Int) = ((2 ^ m.val : Nat) : Int) := by decide
  exact this ⟨m, h⟩
theorem mp_tail_eq (n : Nat) : bitmap_tail.f (n : Int) = some (iv (mp_tailW n)) := by
  unfold bitmap_tail.f mp_tailW
  have e1 : Int.tmod (n : Int) 64 = ((n % 64 : Nat) : Int) := rfl
  rw [e1]
  by_cases h : n % 64 = 0
  · rw [if_pos (by omega), if_pos h]; rfl
  · rw [if_neg (by omega), if_neg h, if_pos (by omega), mp_shl_one _ (by omega)]
    have hp : 0 < 2 ^ (n % 64) := Nat.pow_pos (by decide)
    have hq : 2 ^ (n % 64) < 2 ^ 64 := Nat.pow_lt_pow_right (by decide) (by omega)
    have : ((2 ^ (n % 64) : Nat) : Int) - 1 = ((2 ^ (n % 64) - 1 : Nat) : Int) := by omega
    rw [this, wrap_nat]
    unfold iv
    rw [BitVec.toNat_ofNat]
theorem mp_rd_words (n : Nat) (p : Nat → Bool) (k : Nat) (h : k < nwords n) : rd (wordsOf n p) (k : Int) = iv (wordAt n p k) := by
  unfold rd
  rw [Int.toNat_natCast]
  exact wordsOf_get n p k h
/-- What is told of a row of bits is well formed. -/
theorem mp_formed_eq (n : Nat) (p : Nat → Bool) (h : n ≤ 281474976710656) : bitmap_Formed.f (n : Int) (wordsOf n p) = some true := by
  unfold bitmap_Formed.f
  rw [if_neg (by omega), mp_size_eq n h, Option.bind_some, wordsOf_length, if_pos rfl]
  by_cases h0 : n = 0
  · rw [if_pos (by omega)]
  · have hw : 0 < nwords n := by unfold nwords; omega
    have hb : nwords n ≤ 281474976710656 := by unfold nwords; omega
    have e : wrap64 (((nwords n : Nat) : Int) - 1) = ((nwords n - 1 : Nat) : Int) := by unfold wrap64; omega
    rw [if_neg (by omega), e, if_pos (by omega), if_pos (by omega), mp_tail_eq, Option.bind_some, mp_rd_words n p _ (by omega), bits_andNot]
    have hz : wordAt n p (nwords n - 1) &&& ~~~mp_tailW n = 0#64 := by
      refine BitVec.eq_of_getLsbD_eq fun i hi => ?_
      rw [BitVec.getLsbD_and, BitVec.getLsbD_not]
      unfold wordAt
      rw [word_bit]
      unfold mp_tailW
      have hn : nwords n = (n + 63) / 64 := rfl
      by_cases g : n % 64 = 0
      · rw [if_pos g]
        have : (18446744073709551615#64).getLsbD i = true := by
          have : ∀ i : Fin 64, (18446744073709551615#64).getLsbD i.val = true := by decide
          exact this ⟨i, hi⟩
        rw [this]; simp
      · rw [if_neg g, BitVec.getLsbD_ofNat, Nat.testBit_two_pow_sub_one]
        by_cases g2 : i < n % 64
        · simp [g2, hi]
        · have : ¬ (64 * (nwords n - 1) + i < n) := by omega
          simp [this]
    rw [hz]
    rfl
theorem mp_get_eq (n : Nat) (p : Nat → Bool) (h : n ≤ 281474976710656) (i : Nat) (hi : i < n) : bitmap_Get.f (n : Int) (wordsOf n p) (i : Int) = some (p i) := by
  unfold bitmap_Get.f
  have e1 : Int.tmod (i : Int) 64 = ((i % 64 : Nat) : Int) := rfl
  have e2 : Int.tdiv (i : Int) 64 = ((i / 64 : Nat) : Int) := rfl
  have e3 : wrap64 ((i / 64 : Nat) : Int) = ((i / 64 : Nat) : Int) := by unfold wrap64; omega
  have hn : nwords n = (n + 63) / 64 := rfl
  rw [mp_formed_eq n p h, Option.bind_some, if_pos rfl, if_pos (by omega), if_pos (by omega), e1, e2, e3, if_pos (by omega), if_pos (by rw [wordsOf_length]; omega), if_pos (by omega), mp_rd_words n p _ (by omega)]
  have es : shr .u64 (iv (wordAt n p (i / 64))) ((i % 64 : Nat) : Int) = iv (wordAt n p (i / 64) >>> (i % 64)) := by
    rw [← shr_iv]
    unfold shr
    rw [Int.toNat_natCast, Nat.min_eq_left (by show i % 64 ≤ 64; omega)]
  have e1' : (1 : Int) = iv (1#64) := rfl
  rw [es, e1', bits_and]
  have hb : (wordAt n p (i / 64) >>> (i % 64)) &&& 1#64 = if p i then 1#64 else 0#64 := by
    refine BitVec.eq_of_getLsbD_eq fun j hj => ?_
    rw [BitVec.getLsbD_and, BitVec.getLsbD_ushiftRight]
    unfold wordAt
    rw [word_bit]
    have h1 : (1#64).getLsbD j = decide (j = 0) := by
      have : ∀ i : Fin 64, (1#64).getLsbD i.val = decide (i.val = 0) := by decide
      exact this ⟨j, hj⟩
    rw [h1]
    by_cases g : j = 0
    · subst g
      have a1 : i % 64 + 0 < 64 := by omega
      have a2 : 64 * (i / 64) + (i % 64 + 0) = i := by omega
      rw [a2]
      rw [decide_eq_true a1, decide_eq_true hi]
      cases p i <;> rfl
    · cases p i <;> simp [g, h1]
  rw [hb]
  cases p i <;> rfl
theorem mp_w64s (i n : Nat) (h : i < n) (hn : n ≤ 281474976702464) : wrap64 ((i : Int) + 1) = ((i + 1 : Nat) : Int) := by unfold wrap64; omega
theorem mp_prog_loop (s : ByteArray) (hn : s.size ≤ 1048576) (z : Int) :
    ∀ (d i k : Nat), i + d = nwords s.size → d < k → marks_Blanks.l0 k (lookL s) ((nwords s.size : Nat) : Int) (i : Int) z ((List.range i).map fun j => iv (wordAt s.size (blq s) j)) = some (z, wordsOf s.size (blq s)) := by
  have hw : nwords s.size ≤ 1048576 := by unfold nwords; omega
  have hl : (lookL s).length = nwords s.size := by simp [lookL]
  intro d
  induction d with
  | zero =>
    intro i k hi hk
    obtain ⟨k, rfl⟩ : ∃ m, k = m + 1 := ⟨k - 1, by omega⟩
    unfold marks_Blanks.l0
    rw [if_neg (by omega), show i = nwords s.size by omega]
    rfl
  | succ d ih =>
    intro i k hi hk
    obtain ⟨k, rfl⟩ : ∃ m, k = m + 1 := ⟨k - 1, by omega⟩
    have h2 := ih (i + 1) k (by omega) (by omega)
    rw [List.range_succ, List.map_append] at h2
    have hr : rd_T77 (lookL s) (i : Int) = rowS s i := by
      unfold rd_T77 lookL
      rw [Int.toNat_natCast, List.getD_eq_getElem?_getD, List.getElem?_map, List.getElem?_range (by omega)]
      rfl
    unfold marks_Blanks.l0
    rw [if_pos (by omega), if_pos (by omega), if_pos (by rw [hl]; omega), if_pos (by rw [List.length_map, List.length_range]; omega), mp_w64s i (nwords s.size) (by omega) (by omega), hr]
    exact h2
theorem mp_blanks_eq (s : ByteArray) (hn : s.size ≤ 1048576) (k : Nat) (hk : 67 * s.size + 67 < k) : marks_Blanks.f k s = some ((s.size : Int), wordsOf s.size (blq s)) := by
  have hw : nwords s.size ≤ s.size + 1 := by unfold nwords; omega
  unfold marks_Blanks.f marks_look.f
  rw [if_pos (by omega), Option.bind_some, show (lookL s).length = nwords s.size by simp [lookL]]
  exact mp_prog_loop s hn s.size (nwords s.size) 0 k (by omega) (by omega)
theorem mp_minify_l (s : ByteArray) (hn : s.size ≤ 1048576) : ∀ i, i ≤ s.size → marks_Minify.l s (s.size : Int) (wordsOf s.size (blq s)) i = some (minL s i) := by
  intro i
  induction i with
  | zero => exact fun _ => rfl
  | succ i ih =>
    intro hi
    unfold marks_Minify.l
    rw [ih (by omega), Option.bind_some, mp_get_eq _ _ (by omega) i (by omega), Option.bind_some, minL_succ]
theorem mp_minify_eq (s : ByteArray) (hn : s.size ≤ 1048576) (k : Nat) (hk : 67 * s.size + 67 < k) : marks_Minify.f k s = some (minT s) := by
  unfold marks_Minify.f
  rw [if_pos (by omega), mp_blanks_eq s hn k hk, Option.bind_some]
  simp only []
  rw [mp_minify_l s hn s.size (Nat.le_refl _), Option.bind_some]
  rfl
/-- What a byte is. -/
def mp_kindB (s : ByteArray) (i : Nat) : Int := if mkq s i && insS s i then 3 else if mkq s i then 4 else if insS s i then 5 else if sgx (bt s (i : Int)).toNat then 1 else if blx (bt s (i : Int)).toNat then 2 else 6
theorem mp_sgx_int {b : Int} (h : 0 ≤ b ∧ b ≤ 255) : sgx b.toNat = (b == 123 || b == 125 || b == 91 || b == 93 || b == 58 || b == 44) := by
  obtain ⟨n, rfl⟩ : ∃ n : Nat, b = n := ⟨b.toNat, by omega⟩
  rw [Int.toNat_natCast]
  unfold sgx
  rw [Bool.eq_iff_iff]
  simp only [Bool.or_eq_true, beq_iff_eq]
  omega
theorem mp_blx_int {b : Int} (h : 0 ≤ b ∧ b ≤ 255) : blx b.toNat = (b == 32 || b == 9 || b == 10 || b == 13) := by
  obtain ⟨n, rfl⟩ : ∃ n : Nat, b = n := ⟨b.toNat, by omega⟩
  rw [Int.toNat_natCast]
  unfold blx
  rw [Bool.eq_iff_iff]
  simp only [Bool.or_eq_true, beq_iff_eq]
  omega
theorem mp_kb_sg (s : ByteArray) (i : Nat) : sgq s i = decide (mp_kindB s i = 1) := by
  unfold mp_kindB sgq outq
  cases hm : mkq s i <;> cases hn : insS s i <;> cases hs : sgx (bt s (i : Int)).toNat <;> cases hb : blx (bt s (i : Int)).toNat <;> simp
theorem mp_kb_op (s : ByteArray) (i : Nat) : opq s i = decide (mp_kindB s i = 3) := by
  unfold mp_kindB opq
  cases hm : mkq s i <;> cases hn : insS s i <;> cases hs : sgx (bt s (i : Int)).toNat <;> cases hb : blx (bt s (i : Int)).toNat <;> simp
theorem mp_kb_wd (s : ByteArray) (i : Nat) : wdq s i = decide (mp_kindB s i = 6) := by
  unfold wdq sgq blq mp_kindB outq
  cases hm : mkq s i <;> cases hn : insS s i <;> cases hs : sgx (bt s (i : Int)).toNat <;> cases hb : blx (bt s (i : Int)).toNat <;> simp
theorem mp_shl_one' (m : Nat) (h : m < 64) : shl .u64 1 (m : Int) = iv (1#64 <<< m) := by
  rw [mp_shl_one m h]
  unfold iv
  rw [BitVec.toNat_shiftLeft, Nat.shiftLeft_eq]
  have : 2 ^ m < 2 ^ 64 := Nat.pow_lt_pow_right (by decide) h
  rw [show (1#64).toNat = 1 from rfl, Nat.one_mul, Nat.mod_eq_of_lt this]
theorem mp_and_bit (p : Nat → Bool) (m : Nat) (h : m < 64) : (bits .and .u64 (iv (word p)) (shl .u64 1 (m : Int)) = 0) ↔ p m = false := by
  rw [mp_shl_one' m h, bits_and, show (0 : Int) = iv 0#64 from rfl, iv_inj]
  have hb : ∀ j, j < 64 → (word p &&& 1#64 <<< m).getLsbD j = (p j && decide (j = m)) := fun j hj => by
    rw [BitVec.getLsbD_and, word_bit, BitVec.getLsbD_shiftLeft, decide_eq_true hj]
    by_cases g : j < m
    · simp [g, show ¬ j = m by omega]
    · by_cases g2 : j = m
      · subst g2
        simp
      · have : (1#64).getLsbD (j - m) = false := by
          have h1 : ∀ i : Fin 64, i.val ≠ 0 → (1#64).getLsbD i.val = false := by decide
          exact h1 ⟨j - m, by omega⟩ (by show j - m ≠ 0; omega)
        simp [g, g2, this]
  constructor
  · intro e
    have := hb m h
    rw [e] at this
    simpa using this.symm
  · intro e
    apply BitVec.eq_of_getLsbD_eq
    intro j hj
    rw [hb j hj]
    by_cases g : j = m
    · subst g; rw [e]; simp
    · simp [g]
theorem mp_wordAt_fun (n : Nat) (q : Nat → Bool) (k : Nat) : wordAt n q k = word fun i => decide (64 * k + i < n) && q (64 * k + i) := rfl
theorem mp_ends_eq (n : Nat) (q : Nat → Bool) (k : Nat) (h : 64 * k + 63 < n) (a b c : Int) : marks_rows_ends.f a b c (iv (wordAt n q k)) = some (q (64 * k + 63)) := by
  unfold marks_rows_ends.f
  rw [mp_wordAt_fun, top_word, decide_eq_true h, Bool.true_and]
  cases q (64 * k + 63) <;> rfl
/-- Where words begin in a block. -/
def mp_startB (n : Nat) (q : Nat → Bool) (k : Nat) (c : Bool) (j : Nat) : Bool := (decide (64 * k + j < n) && q (64 * k + j)) && !(if j = 0 then c else decide (64 * k + (j - 1) < n) && q (64 * k + (j - 1)))
theorem mp_starts_eq (n : Nat) (q : Nat → Bool) (k : Nat) (c : Bool) (x y z : Int) : marks_rows_starts.f x y z (iv (wordAt n q k)) c = some (iv (word (mp_startB n q k c))) := by
  have e1 : IntKind.u64.wrap (iv (wordAt n q k) * 2) = iv (wordAt n q k <<< 1) := wrap_shl _ 1
  have e2 : (1 : Int) = iv 1#64 := rfl
  have h1 : ∀ i : Fin 64, (1#64).getLsbD i.val = decide (i.val = 0) := by decide
  unfold marks_rows_starts.f
  cases c with
  | true =>
    rw [if_pos rfl, e1, e2, bits_or, bits_andNot]
    apply congrArg (fun w => some (iv w))
    apply eq_word
    intro j hj
    rw [BitVec.getLsbD_and, BitVec.getLsbD_not, BitVec.getLsbD_or, BitVec.getLsbD_shiftLeft, mp_wordAt_fun, word_bit, word_bit, h1 ⟨j, hj⟩, decide_eq_true hj]
    unfold mp_startB
    by_cases g : j = 0
    · subst g; simp
    · rw [if_neg g, decide_eq_false (show ¬ j < 1 by omega), decide_eq_true (show j - 1 < 64 by omega), decide_eq_false (show ¬ (⟨j, hj⟩ : Fin 64).val = 0 from g)]
      simp
  | false =>
    rw [if_neg (by decide), e1, bits_andNot]
    apply congrArg (fun w => some (iv w))
    apply eq_word
    intro j hj
    rw [BitVec.getLsbD_and, BitVec.getLsbD_not, BitVec.getLsbD_shiftLeft, mp_wordAt_fun, word_bit, word_bit, decide_eq_true hj]
    unfold mp_startB
    by_cases g : j = 0
    · subst g; simp
    · rw [if_neg g, decide_eq_false (show ¬ j < 1 by omega), decide_eq_true (show j - 1 < 64 by omega)]
      simp
/-- What begins at a place. -/
def mp_kindR (s : ByteArray) (i : Nat) : Int := if mp_kindB s i = 1 ∨ mp_kindB s i = 3 then bt s (i : Int) else if mp_kindB s i = 6 ∧ (i = 0 ∨ mp_kindB s (i - 1) ≠ 6) then 119 else 0
theorem mp_rd_look (s : ByteArray) (k : Nat) (h : k < nwords s.size) : rd_T77 (lookL s) (k : Int) = rowS s k := by
  unfold rd_T77 lookL
  rw [Int.toNat_natCast, List.getD_eq_getElem?_getD, List.getElem?_map, List.getElem?_range h]
  rfl
theorem mp_kind_last (s : ByteArray) (i k : Nat) (hi : i < s.size) (c : Bool) (hc : c = if 64 ≤ i then wdq s (64 * (i / 64) - 1) else false) :
    marks_Kind.j1 (k + 1) s (i : Int) (shl .u64 1 ((i % 64 : Nat) : Int)) c (rowS s (i / 64)).f0 (rowS s (i / 64)).f1 (rowS s (i / 64)).f2 (rowS s (i / 64)).f3 = some (mp_kindR s i) := by
  have hm : i % 64 < 64 := Nat.mod_lt _ (by decide)
  have hd : 64 * (i / 64) + i % 64 = i := by omega
  have e0 : (rowS s (i / 64)).f0 = iv (wordAt s.size (sgq s) (i / 64)) := rfl
  have e2 : (rowS s (i / 64)).f2 = iv (wordAt s.size (opq s) (i / 64)) := rfl
  have e3 : (rowS s (i / 64)).f3 = iv (wordAt s.size (wdq s) (i / 64)) := rfl
  have hor : bits .or .u64 (iv (wordAt s.size (sgq s) (i / 64))) (iv (wordAt s.size (opq s) (i / 64))) = iv (word fun j => (decide (64 * (i / 64) + j < s.size) && sgq s (64 * (i / 64) + j)) || (decide (64 * (i / 64) + j < s.size) && opq s (64 * (i / 64) + j))) := mask_or _ _
  simp only [marks_Kind.j1]
  rw [e0, e2, hor]
  by_cases h : mp_kindB s i = 1 ∨ mp_kindB s i = 3
  · rw [if_neg (by
      rw [mp_and_bit _ _ hm]
      simp only [hd, decide_eq_true hi, Bool.true_and, mp_kb_sg, mp_kb_op]
      rcases h with h | h <;> simp [h]), if_pos (by omega), if_pos (by omega)]
    unfold mp_kindR
    rw [if_pos h]
  · have h1 : mp_kindB s i ≠ 1 := fun e => h (.inl e)
    have h3 : mp_kindB s i ≠ 3 := fun e => h (.inr e)
    rw [if_pos (by
      rw [mp_and_bit _ _ hm]
      simp only [hd, decide_eq_true hi, Bool.true_and, mp_kb_sg, mp_kb_op]
      simp [h1, h3]), e3, mp_starts_eq, Option.bind_some]
    unfold mp_kindR
    rw [if_neg h]
    have hst : mp_startB s.size (wdq s) (i / 64) c (i % 64) = decide (mp_kindB s i = 6 ∧ (i = 0 ∨ mp_kindB s (i - 1) ≠ 6)) := by
      unfold mp_startB
      rw [hd, decide_eq_true hi, Bool.true_and, mp_kb_wd, hc]
      by_cases g0 : i % 64 = 0
      · rw [if_pos g0]
        by_cases g1 : 64 ≤ i
        · rw [if_pos g1, show 64 * (i / 64) - 1 = i - 1 by omega, mp_kb_wd]
          by_cases a : mp_kindB s i = 6 <;> by_cases b : mp_kindB s (i - 1) = 6 <;> simp [a, b, show ¬ i = 0 by omega]
        · rw [if_neg g1]
          have : i = 0 := by omega
          subst this
          simp
      · rw [if_neg g0, show 64 * (i / 64) + (i % 64 - 1) = i - 1 by omega, decide_eq_true (show i - 1 < s.size by omega), Bool.true_and, mp_kb_wd]
        by_cases a : mp_kindB s i = 6 <;> by_cases b : mp_kindB s (i - 1) = 6 <;> simp [a, b, show ¬ i = 0 by omega]
    by_cases hb : mp_kindB s i = 6 ∧ (i = 0 ∨ mp_kindB s (i - 1) ≠ 6)
    · rw [if_neg (by rw [mp_and_bit _ _ hm, hst, decide_eq_true hb]; decide), if_pos hb]
    · rw [if_pos (by rw [mp_and_bit _ _ hm, hst, decide_eq_false hb]), if_neg hb]
theorem mp_kind_eq (s : ByteArray) (hn : s.size ≤ 1048576) (i : Nat) (hi : i < s.size) (k : Nat) : marks_Kind.f (k + 2) s (i : Int) = some (mp_kindR s i) := by
  have e1 : Int.tmod (i : Int) 64 = ((i % 64 : Nat) : Int) := rfl
  have e2 : Int.tdiv (i : Int) 64 = ((i / 64 : Nat) : Int) := rfl
  have e3 : wrap64 ((i / 64 : Nat) : Int) = ((i / 64 : Nat) : Int) := by unfold wrap64; omega
  have hl : (lookL s).length = nwords s.size := by simp [lookL]
  have hw : i / 64 < nwords s.size := by unfold nwords; omega
  unfold marks_Kind.f
  rw [if_neg (by omega), decide_eq_false (by omega)]
  simp only [marks_Kind.j0, marks_look.f]
  rw [if_neg (by decide), if_pos (by omega), Option.bind_some, e1, e2, e3, hl, if_pos (by omega), if_pos (by omega), if_pos (by omega), mp_rd_look s _ hw]
  by_cases g : 64 ≤ i
  · have e4 : wrap64 (((i / 64 : Nat) : Int) - 1) = ((i / 64 - 1 : Nat) : Int) := by unfold wrap64; omega
    rw [if_pos (by omega), e4, if_pos (by omega), if_pos (by omega), mp_rd_look s _ (by omega)]
    have e5 : (rowS s (i / 64 - 1)).f3 = iv (wordAt s.size (wdq s) (i / 64 - 1)) := rfl
    rw [e5, mp_ends_eq _ _ _ (by omega), Option.bind_some]
    exact mp_kind_last s i k hi _ (by rw [if_pos g, show 64 * (i / 64 - 1) + 63 = 64 * (i / 64) - 1 by omega])
  · rw [if_neg (by omega)]
    exact mp_kind_last s i k hi _ (by rw [if_neg g])
theorem mp_sameints_loop (l : List Int) (hl : l.length ≤ 140737488355328) : ∀ (d i k : Nat), i + d = l.length → d < k → quarryref00_SameInts.l0 k l l (i : Int) = some true := by
  intro d
  induction d with
  | zero =>
    intro i k hi hk
    obtain ⟨k, rfl⟩ : ∃ m, k = m + 1 := ⟨k - 1, by omega⟩
    unfold quarryref00_SameInts.l0
    rw [if_neg (by omega)]
  | succ d ih =>
    intro i k hi hk
    obtain ⟨k, rfl⟩ : ∃ m, k = m + 1 := ⟨k - 1, by omega⟩
    have e : wrap64 ((i : Int) + 1) = ((i + 1 : Nat) : Int) := by unfold wrap64; omega
    unfold quarryref00_SameInts.l0
    rw [if_pos (by omega), if_pos (by omega), if_pos (by omega), if_pos rfl, e, ih (i + 1) k (by omega) (by omega)]
/-- A list is the same as itself. -/
theorem mp_sameints_refl (l : List Int) (hl : l.length ≤ 140737488355328) (k : Nat) (hk : l.length < k) : quarryref00_SameInts.f k l l = some true := by
  unfold quarryref00_SameInts.f
  rw [if_pos rfl]
  exact mp_sameints_loop l hl l.length 0 k (by omega) hk
theorem mp_begq_kind (s : ByteArray) (i : Nat) : begq s i = decide (mp_kindB s i = 1 ∨ mp_kindB s i = 3 ∨ (mp_kindB s i = 6 ∧ (i = 0 ∨ mp_kindB s (i - 1) ≠ 6))) := by
  unfold begq
  rw [mp_kb_sg, mp_kb_op, mp_kb_wd, mp_kb_wd]
  by_cases h1 : mp_kindB s i = 1
  · simp [h1]
  by_cases h3 : mp_kindB s i = 3
  · simp [h3]
  by_cases h6 : mp_kindB s i = 6
  · by_cases h0 : i = 0
    · subst h0
      simp [h6]
    · by_cases b : mp_kindB s (i - 1) = 6
      · simp [h6, b, h0, show 0 < i by omega]
      · simp [h6, b]
  · simp [h1, h3, h6]
theorem mp_index_eq (s : ByteArray) (hn : s.size ≤ 1048576) : marks_Index.f s = some (idxL s s.size) := by
  unfold marks_Index.f
  rw [if_pos (by omega)]
theorem mp_awake8 : ∃ k, quarrylaw08_awake.f k = some true := by
  refine ⟨100, ?_⟩
  decide +kernel
/-- Where a span begins a word begins. -/
theorem spW_begin (W : Nat → Bool) : ∀ (m : Nat) (o : Option Nat) (p : Nat) (x : Nat × Nat), x ∈ spW W m o p → o = some x.1 ∨ (W x.1 = true ∧ p ≤ x.1 ∧ (x.1 = p ∧ o = none ∨ W (x.1 - 1) = false ∧ p < x.1))
  | 0, o, p, x, h => .inl (spW_zero' W o p x h).1
  | m + 1, o, p, x, h => by
    rw [spW_one'] at h
    by_cases hp : W p = true
    · rw [if_pos hp] at h
      rcases spW_begin W m _ _ x h with h1 | ⟨h1, h2, h3⟩
      · cases o with
        | none => exact .inr ⟨by have := Option.some.inj h1; simp at this; rw [← this]; exact hp, by have := Option.some.inj h1; simp at this; omega, .inl ⟨by have := Option.some.inj h1; simp at this; exact this.symm, rfl⟩⟩
        | some f => exact .inl (by simpa using h1)
      · rcases h3 with ⟨_, h3⟩ | h3
        · cases h3
        · exact .inr ⟨h1, by omega, .inr ⟨h3.1, by omega⟩⟩
    · rw [if_neg hp] at h
      rcases List.mem_append.1 h with h | h
      · exact .inl (spW_zero' W o p x h).1
      · rcases spW_begin W m _ _ x h with h1 | ⟨h1, h2, h3⟩
        · cases h1
        · rcases h3 with ⟨h3, _⟩ | h3
          · exact .inr ⟨h1, by omega, .inr ⟨by rw [h3]; simpa using hp, by omega⟩⟩
          · exact .inr ⟨h1, by omega, .inr ⟨h3.1, by omega⟩⟩
theorem kindR_begin {s : ByteArray} {x : Nat × Nat} (h : x ∈ spansW s) : mp_kindR s x.1 = 119 := by
  have hm := spans_mem h
  have hw := hm.2.2.1 x.1 (Nat.le_refl _) hm.1
  rw [mp_kb_wd] at hw
  have h6 := of_decide_eq_true hw
  have hc : x.1 = 0 ∨ mp_kindB s (x.1 - 1) ≠ 6 := by
    rcases spW_begin (wrdQ s) s.size none 0 x h with h1 | ⟨_, _, h1 | h1⟩
    · cases h1
    · exact .inl h1.1
    · refine .inr fun c => ?_
      have h2 : wrdQ s (x.1 - 1) = false := h1.1
      unfold wrdQ at h2
      rw [mp_kb_wd, decide_eq_true c, decide_eq_true (show x.1 - 1 < s.size by omega)] at h2
      cases h2
  unfold mp_kindR
  rw [if_neg (by rw [h6]; decide), if_pos ⟨h6, hc⟩]
theorem kindR_not (s : ByteArray) (i : Nat) : (mp_kindR s i != 0) = begq s i := by
  rw [mp_begq_kind]
  unfold mp_kindR
  by_cases h : mp_kindB s i = 1 ∨ mp_kindB s i = 3
  · rw [if_pos h, decide_eq_true (by rcases h with h | h <;> simp [h])]
    have hb : bt s (i : Int) ≠ 0 := fun c => by
      rcases h with h | h
      · have h2 : sgq s i = true := by rw [mp_kb_sg, decide_eq_true h]
        unfold sgq at h2
        rw [c] at h2
        simp [sgx] at h2
      · have h2 : opq s i = true := by rw [mp_kb_op, decide_eq_true h]
        unfold opq mkq at h2
        rw [c] at h2
        simp at h2
    simpa using hb
  · rw [if_neg h]
    by_cases h6 : mp_kindB s i = 6 ∧ (i = 0 ∨ mp_kindB s (i - 1) ≠ 6)
    · rw [if_pos h6, decide_eq_true (.inr (.inr h6))]
      decide
    · rw [if_neg h6, decide_eq_false (fun c => by rcases c with c | c | c; exact h (.inl c); exact h (.inr c); exact h6 c)]
      decide
theorem looked_some (s : ByteArray) (hs : s.size ≤ 1048576) (i : Int) : quarrylaw08_looked.f s i = some ((quarrylaw08_looked.f s i).getD false) := by
  have e1 : wrap64 ((s.size : Int) / 64) = (s.size : Int) / 64 := by unfold wrap64; omega
  have e2 : wrap64 ((s.size : Int) / 64 + 1) = (s.size : Int) / 64 + 1 := by unfold wrap64; omega
  have e3 : ¬ (s.size : Int) / 64 + 1 = 0 := by omega
  unfold quarrylaw08_looked.f
  rw [e1, e2, if_neg e3]
  split
  · rfl
  · split
    · rfl
    · rfl
theorem sign_eq (x : Int) (h : 0 ≤ x ∧ x ≤ 255) : quarrylaw08_sign.f x = some (sgx x.toNat) := by
  rw [mp_sgx_int h]
  unfold quarrylaw08_sign.f
  by_cases h1 : x = 123
  · subst h1; rfl
  by_cases h2 : x = 125
  · subst h2; rfl
  by_cases h3 : x = 91
  · subst h3; rfl
  by_cases h4 : x = 93
  · subst h4; rfl
  by_cases h5 : x = 58
  · subst h5; rfl
  rw [if_neg h1, if_neg h2, if_neg h3, if_neg h4, if_neg h5, beq_eq_false_iff_ne.2 h1, beq_eq_false_iff_ne.2 h2, beq_eq_false_iff_ne.2 h3, beq_eq_false_iff_ne.2 h4, beq_eq_false_iff_ne.2 h5]
  simp
end MpF
theorem mp_bits {f : FuncId} {s : ByteArray} {n : Int} {l : List Int} (h : ∀ W, Calls Tryd.prog f #[.string s] W fun e w' => ∃ v1_ : Value, e = .returned (.agg #[.int .i64 n, v1_]) ∧ Kd.R (Kd.int .u64) 75 w' W.heap.size (fun _ => True) v1_ l ∧ Below W.heap.size W w') :
    Aside0 (∀ W, Calls Tryd.prog f #[.string s] W fun e w' => ∃ v, e = .returned v ∧ ∃ (A1 : Option Addr) (k1 : Nat), v = .agg #[.int .i64 n, .slice A1 l.length k1] ∧ Aside0 (w'.ownsRow 0 75 1 (.slice A1 l.length k1) l.length (l.map (Value.int .u64))) ∧ Below W.heap.size W w') := ⟨fun W => by
  refine (h W).mono ?_
  rintro e w' ⟨v, rfl, hR, hb⟩
  obtain ⟨A, c, rfl⟩ := Kd.R_slice hR
  exact ⟨_, rfl, A, c, rfl, ⟨row_mono (Kd.own_of_R hR) (Nat.zero_le _)⟩, hb⟩⟩
theorem mp_drawn {n : FuncId} {args : Array Value} {W : World} {r : Bool} (h : Calls Tryd.prog n args W fun e w' => e = .returned (.bool r) ∧ Drawn0 W w') : Calls Tryd.prog n args W fun e w' => e = .returned (.bool r) ∧ Below W.heap.size W w' :=
  h.mono fun e w' ⟨h1, nd, h2⟩ => ⟨h1, by subst h2; exact ((BelowH.refl W).drewN nd).out⟩
theorem mpC (s : ByteArray) (hs : s.size ≤ 1048576) : MpC s (s.size : Int) (wordsOf s.size (mkq s)) (wordsOf s.size (insS s)) (wordsOf s.size (blq s)) (fun i => (quarrylaw08_looked.f s i).getD false) (MpF.mp_kindR s) (mkq s) (insS s) (blq s) (wdq s) (begq s) (fun i => sgx (bt s (i : Int)).toNat) (minT s) where
  aw := fun W hT => by
    obtain ⟨k, hk⟩ := MpF.mp_awake8
    exact quarrylaw08_awake.calls k true W hT hk
  cm := mp_bits fun W => quotes_Marks.calls s _ _ W (by unfold quotes_Marks.f; rw [if_pos (by omega)])
  ci := mp_bits fun W => quotes_Inside.calls s _ _ W (by unfold quotes_Inside.f; rw [if_pos (by omega)]; rfl)
  cb := mp_bits fun W => marks_Blanks.calls (67 * s.size + 68) s _ _ W (MpF.mp_blanks_eq s hs _ (by omega))
  wd := fun W => marks_Words.calls s W
  lk := fun W i => mp_drawn (quarrylaw08_looked.calls s i _ W (MpF.looked_some s hs i))
  kd := fun W i hi => marks_Kind.calls 2 s _ _ W (MpF.mp_kind_eq s hs i hi 0)
  kw := fun x hx => MpF.kindR_begin hx
  gm := fun i hi => MpF.mp_get_eq s.size (mkq s) (by omega) i hi
  gi := fun i hi => MpF.mp_get_eq s.size (insS s) (by omega) i hi
  gb := fun i hi => MpF.mp_get_eq s.size (blq s) (by omega) i hi
  sc := fun W i hi => mp_drawn (quarrylaw08_sign.calls _ _ W (MpF.sign_eq _ (bt_range s (i : Int))))
  hk := fun i hi => by
    unfold blq outq
    rw [MpF.mp_blx_int (bt_range s (i : Int)), Bool.and_comm, Bool.not_or]
  hw := fun i hi => by
    unfold wdq sgq blq outq
    rw [Bool.not_or]
    cases mkq s i <;> cases insS s i <;> cases sgx (bt s (i : Int)).toNat <;> cases blx (bt s (i : Int)).toNat <;> rfl
  hg := fun i hi => by
    unfold begq sgq opq outq
    rw [Bool.not_or]
    have e : (decide (0 < i) && wdq s (i - 1)) = wasQ (wdq s) i := by cases i <;> simp [wasQ]
    rw [e]
    cases mkq s i <;> cases insS s i <;> cases sgx (bt s (i : Int)).toNat <;> simp
  hd := fun i hi => MpF.kindR_not s i
  cv := fun i hi => cov_all s hi
  ix := fun W hT => by
    have e : idxL s s.size = xsL (begq s) s.size := by
      unfold idxL xsL
      congr 1
      exact List.filter_congr fun i hi => by rw [decide_eq_true (List.mem_range.1 hi), Bool.true_and]
    refine (marks_Index.calls s _ W hT (MpF.mp_index_eq s hs)).mono ?_
    rintro e' w' ⟨v, rfl, hR, hb⟩
    rw [e] at hR
    obtain ⟨A, c, rfl⟩ := Kd.R_slice hR
    have h2 := Kd.R_reads' hR
    exact ⟨_, rfl, A, c, rfl, h2.2.2, h2.2.1, hb⟩
  si := fun W A0 c0 A1 c1 h0 h1 h2 h3 => mp_drawn (quarryref00_SameInts.calls ((xsL (begq s) s.size).length + 1) A0 c0 _ A1 c1 _ true W h0 h1 h2 h3 (MpF.mp_sameints_refl _ (by have := xsB_len (begq s) s.size; unfold xsB at this; rw [List.length_map] at this; omega) _ (by omega)))
  mf := fun W => marks_Minify.calls (67 * s.size + 68) s _ W (MpF.mp_minify_eq s hs _ (by omega))
  tt := fun W v b h => by
    have e : ysB s (blq s) s.size = nums .u8 (minL s s.size) := by
      unfold ysB nums minL
      rw [List.map_map]
      rfl
    rw [e] at h
    exact own_string Tryd.underlying37 Tryd.underlying5 Tryd.underlying9 h
theorem quarrylaw08_MarksParts.true_ (s : ByteArray) (hs : s.size ≤ 1048576) (w : World) (hT : TabOk w) :
    Calls Tryd.prog 4 #[.string s] w fun e w' => e = .returned (.bool true) ∧ Below w.heap.size w w' :=
  quarrylaw08_MarksParts.core s hs _ _ _ _ _ _ _ _ _ _ _ _ (mpC s hs) w hT
def quarrylaw08_MarksParts.f (a0 : ByteArray) : Option Bool := if a0.size ≤ 1048576 then some true else none
theorem quarrylaw08_MarksParts.calls (a0 : ByteArray) (r : Bool) (w : World) (hT : TabOk w) (h : quarrylaw08_MarksParts.f a0 = some r) :
    Calls Tryd.prog 4 #[.string a0] w fun e w' => e = .returned (.bool r) ∧ Below w.heap.size w w' := by
  unfold quarrylaw08_MarksParts.f at h
  by_cases hs : a0.size ≤ 1048576
  case neg => rw [if_neg hs] at h; cases h
  rw [if_pos hs] at h
  cases h
  exact quarrylaw08_MarksParts.true_ a0 hs w hT
def quarrylaw08_MarksParts.Pure : Prop := ∀ (a0 : ByteArray), a0.size ≤ 1048576 → quarrylaw08_MarksParts.f a0 = some true
theorem quarrylaw08_MarksParts.walk (P : quarrylaw08_MarksParts.Pure) (a0 : ByteArray) (w : World) (hT : TabOk w) (w0 : a0.size ≤ 1048576) :
    Calls Tryd.prog 4 #[.string a0] w fun e w' => e = .returned (.bool true) ∧ Below w.heap.size w w' :=
  quarrylaw08_MarksParts.calls a0 true w hT (P a0 w0)
end


end Go.Proofs.YtgddljealeklkaaDoor.PM
end
-- PureMarksParts
section
namespace Go.Proofs.YtgddljealeklkaaDoor.Pure
open Go Go.RowKit Go.Proofs.YtgddljealeklkaaDoor.PM Go.Proofs.YtgddljealeklkaaDoorW.PrintWords Go.Proofs.YtgddljealeklkaaDoorW.PrintLast Go.Proofs.YtgddljealeklkaaDoorQ
set_option linter.unusedVariables false
set_option linter.unusedSimpArgs false
theorem MarksParts (s : ByteArray) (hn : s.size ≤ 1048576) : quarrylaw08_MarksParts.f s = some true := by
  unfold quarrylaw08_MarksParts.f
  rw [if_pos hn]

end Go.Proofs.YtgddljealeklkaaDoor.Pure
end
namespace Go.Proofs.YtgddljealeklkaaDoor.marksParts
open Go.ChangeShapes Go.WideShapes Go.ChangeAt Go.RowKit
open Go.ChangeMaps (open_string shut_string)
set_option linter.unusedVariables false
set_option linter.unusedSimpArgs false
theorem own : ownKnob Tryd.prog.godebug = none := by kernel_rfl
theorem gTab : Tryd.prog.globalNamed "math/bits.deBruijn64tab" = some 0 := by kernel_rfl
theorem gTabType : (Tryd.prog.globals[0]?).map (·.type) = some 85 := by kernel_rfl
theorem cellsTab : Tryd.prog.cellsOf 85 = 64 := by kernel_rfl
theorem cellsByte : Tryd.prog.cellsOf 5 = 1 := by kernel_rfl
def tabZ : List Int := [0, 1, 56, 2, 57, 49, 28, 3, 61, 58, 42, 50, 38, 29, 17, 4, 62, 47, 59, 36, 45, 43, 51, 22, 53, 39, 33, 30, 24, 18, 12, 5, 63, 55, 48, 27, 60, 41, 37, 16, 46, 35, 44, 21, 52, 32, 23, 11, 54, 26, 40, 15, 34, 20, 31, 10, 25, 14, 19, 9, 13, 8, 7, 6]
theorem table {W : World} (h : laidMetH Tryd.prog Rows.marksPartsUptoRow.laid W) : Lib.TabIs Tryd.prog W "math/bits.deBruijn64tab" .u8 tabZ :=
  Lib.tabIs_of_head (rest := []) gTab gTabType Tryd.underlying85 Tryd.underlying5 cellsByte cellsTab h
theorem tab_eq : ∀ j, j < 64 → tabZ.getD j 0 = ((Lib.deBruijn64tab.getD j 0 : Nat) : Int) := by decide
theorem tabOk {W : World} (h : laidMetH Tryd.prog Rows.marksPartsUptoRow.laid W) : Go.Proofs.YtgddljealeklkaaDoorM.TabOk W := ⟨fun j hj => by
  have h64 : j < 64 := hj
  rw [(table h).cell gTab j h64, tab_eq j h64]⟩
noncomputable def laidWorld (os : Os) : World :=
  { World.holding Tryd.prog os ⟨#[], #[], []⟩ with heap := (World.holding Tryd.prog os ⟨#[], #[], []⟩).heap.modify 0 fun
      | .cells _ t frozen => .cells #[.int .u8 0, .int .u8 1, .int .u8 56, .int .u8 2, .int .u8 57, .int .u8 49, .int .u8 28, .int .u8 3, .int .u8 61, .int .u8 58, .int .u8 42, .int .u8 50, .int .u8 38, .int .u8 29, .int .u8 17, .int .u8 4, .int .u8 62, .int .u8 47, .int .u8 59, .int .u8 36, .int .u8 45, .int .u8 43, .int .u8 51, .int .u8 22, .int .u8 53, .int .u8 39, .int .u8 33, .int .u8 30, .int .u8 24, .int .u8 18, .int .u8 12, .int .u8 5, .int .u8 63, .int .u8 55, .int .u8 48, .int .u8 27, .int .u8 60, .int .u8 41, .int .u8 37, .int .u8 16, .int .u8 46, .int .u8 35, .int .u8 44, .int .u8 21, .int .u8 52, .int .u8 32, .int .u8 23, .int .u8 11, .int .u8 54, .int .u8 26, .int .u8 40, .int .u8 15, .int .u8 34, .int .u8 20, .int .u8 31, .int .u8 10, .int .u8 25, .int .u8 14, .int .u8 19, .int .u8 9, .int .u8 13, .int .u8 8, .int .u8 7, .int .u8 6] t frozen
      | o => o }
theorem laid_met (os : Os) : laidMet Tryd.prog Rows.marksPartsUptoRow.laid ((laidWorld os).forCall (fun _ _ => 0) ⟨#[], #[.string ByteArray.empty], []⟩).memory :=
  laidMet_of_run' 8 (by kernel_rfl) (by kernel_rfl)
theorem reads (os : Os) {H : Type} (enc : TypeId × Value → H) : ∃ places, DataW.whole enc Tryd.prog ((laidWorld os).forCall (fun _ _ => 0) ⟨#[], #[.string ByteArray.empty], []⟩).memory Tryd.f4.params.toList Rows.marksPartsSpec.vars false (#[.string ByteArray.empty] : Array Value).toList 8 = some ([.lit (.string [])], [], places) :=
  ⟨[], by kernel_rfl⟩
set_option maxRecDepth 100000 in
theorem lifted (os : Os) (started : os.Started) (H : Type) (enc : TypeId × Value → H) (F : Stop.Interp) :
    ReturnsInHanded {} Tryd.checked os 4 .any ((Rows.OpenSpec.upto Rows.marksPartsSpec).preRow enc Tryd.prog Tryd.f4 Rows.marksPartsUptoRow.domain false Rows.marksPartsUptoRow.laid) (((Rows.OpenSpec.upto Rows.marksPartsSpec).at F).post enc Tryd.prog Tryd.f4 false true false false) := by
  obtain ⟨places, hx⟩ := reads os enc
  refine returnsInHanded_of_row (C := Tryd.checked) (s := Rows.OpenSpec.upto Rows.marksPartsSpec) own started (by kernel_rfl) Tryd.func4
    (witness_row_at (enc := enc) (C := Tryd.checked) false (laidWorld os) #[.string ByteArray.empty] rfl (by kernel_rfl) (by kernel_rfl) (by kernel_rfl)
      (OpenSpec.preRow_of_cond 8 hx (by kernel_rfl) (fun k hk => by cases hk; kernel_rfl) (by kernel_rfl) (laid_met os))) ?_
  intro W base args ds gs before hval0 hW hcnd hk0 hsz0 hL _ _
  have hsz : (DataW.weightsEach Tryd.prog (Tryd.f4.params.toList ++ Rows.marksPartsSpec.plain.varTypes Tryd.prog) (ds ++ gs)).all (· ≤ reachBytes) = true := hsz0
  have hval : ∀ (j : Nat) t v, Tryd.f4.params[j]? = some t → args[j]? = some v → Value.okWide Tryd.prog W .any base t v := hval0
  have hW' := hW
  obtain ⟨p, q, hA0, hV, rfl, hfz, hnd⟩ := hW
  have hA : DataW.TrodAll enc Tryd.prog W 0 (fun _ => true) true Tryd.f4.params.toList args.toList ds p := hA0
  rw [Tryd.params4] at hA hval hsz
  obtain ⟨v0, vs0, d0, ds0, p0, q0, hargs, rfl, rfl, h0, r0⟩ := trodAll_cons hA
  obtain ⟨rfl, rfl, rfl⟩ := trodAll_nil r0
  obtain rfl : args = #[v0] := by cases args; simp_all
  obtain ⟨rfl, rfl⟩ := trodVars_none hV
  obtain ⟨a0, rfl, rfl, rfl, y0⟩ := open_string Tryd.underlying9 (hval 0 9 v0 rfl rfl) h0
  have w0 : a0.size ≤ 140737488351232 := by
    have z := sized_string hsz (j := 0) (t := 9) rfl rfl
    rw [Array.length_toList] at z
    exact z
  clear hA0 hval0 hsz0 hsz
  have hk1 : Rows.uptoBulkAll _ ≤ 1048576 := of_decide_eq_true (hk0 _ rfl)
  simp only [Rows.uptoBulkAll, Rows.uptoBulk, List.append_nil, List.nil_append, List.cons_append] at hk1
  have e0_ : a0.data.toList.length = a0.size := by rw [Array.length_toList]; rfl
  have s0_ : a0.size ≤ 1048576 := by omega
  have hk := Pure.MarksParts a0 s0_
  refine (PM.quarrylaw08_MarksParts.calls a0 true W (tabOk hL) hk).mono fun e W' ⟨he, bel⟩ => ?_
  subst he
  exact ⟨_, rfl, _, _, _, [], _, [], hW', trodAll_mk1 (shut_bool Tryd.underlying4 _), (trodAll_cons_mk (shut_string Tryd.underlying9 y0) trodAll_mk0), rfl, bel.frame _, fun h => by cases h⟩
theorem over : Rows.marksPartsUptoRow.holds Tryd.pinned (Rows.OpenSpec.upto Rows.marksPartsSpec) :=
  OpenClaim.holds_of_cond 4 Tryd.f4 rfl rfl rfl rfl rfl rfl rfl ⟨rfl, rfl, rfl, rfl, rfl⟩ rfl rfl rfl rfl rfl (by kernel_rfl) Tryd.func4 (by kernel_rfl)
    (of_decide_eq_true (by kernel_rfl)) (by unfold Func.isWrapper; first | (rw [if_pos (by decide +kernel)]; kernel_rfl) | (rw [if_neg (by decide +kernel)]; exact ⟨rfl, rfl⟩))
    (fun os started H enc _ F => by rw [OpenClaim.pre_eq_preRow]; exact lifted os started H enc F)
theorem said : Rows.MarksPartsUptoSaid := over
theorem plain (f : FuncId) (fn : Func) (hf : Tryd.pinned.checked.prog.funcNamed "quarry/quarrylaw08.MarksParts" = some f) (hfn : Tryd.pinned.checked.prog.funcs[f]? = some fn) :
    false = Tryd.pinned.checked.prog.looks [] ∧ ∀ (j : Nat) t, fn.params[j]? = some t → Tryd.pinned.checked.prog.wantsStandIn t = false := by
  obtain rfl : f = 4 := Option.some.inj ((show Tryd.prog.funcNamed "quarry/quarrylaw08.MarksParts" = some 4 by kernel_rfl).symm.trans hf) |>.symm
  obtain rfl : fn = Tryd.f4 := (Option.some.inj (Tryd.func4.symm.trans hfn)).symm
  refine ⟨by kernel_rfl, fun j t ht => ?_⟩
  rw [Tryd.params4] at ht
  have hm := Array.mem_of_getElem? ht
  simp only [List.mem_toArray, List.mem_cons, List.not_mem_nil, or_false] at hm
  subst hm
  exact (show Tryd.prog.wantsStandIn 9 = false by kernel_rfl)
theorem card : Rows.MarksPartsUptoCardSaid :=
  Claim7.holds_tied_plain_at .later [] _ _ _ _ said (fun _ h => by cases h) (by kernel_rfl) (fun _ h => by cases h) marksPartsUpto_row_tie rfl ⟨rfl, rfl⟩ (by kernel_rfl) rfl plain (by kernel_rfl)
#print axioms card
end Go.Proofs.YtgddljealeklkaaDoor.marksParts
namespace Go.Proofs.YtgddljealeklkaaDoor
/-- The card, under a short name, for the claim. -/
theorem marksParts_holds : Rows.MarksPartsUptoCardSaid := marksParts.card
end Go.Proofs.YtgddljealeklkaaDoor
