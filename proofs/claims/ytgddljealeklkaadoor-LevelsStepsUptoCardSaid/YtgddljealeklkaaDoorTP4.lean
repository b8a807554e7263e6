/- Parts of a claim (TP), packed by a program (pack.py) out of the texts that it names. -/
import Derived.Test.YtgddljealeklkaaDoorCards
import Derived.Test.YtgddljealeklkaaDoorTie
import Derived.WalkKit
import Derived.ProofKit
import Derived.OpenShut
import Derived.ShutString
import Derived.ChangeOld
import Derived.Below
import Derived.SizedLaws
import Derived.Deep.DeepHandedRow
import Derived.Lib.LaidTab
import Derived.Test.YtgddljealeklkaaDoorTP3
-- PLx6
section
namespace Go.Proofs.YtgddljealeklkaaDoor.PL
attribute [local go_sem] Go.Proofs.YtgddljealeklkaaDoorM.fieldBits0 Go.Proofs.YtgddljealeklkaaDoorM.fieldBits1
open Go.Proofs.YtgddljealeklkaaDoorM (TabOk)
open Go.RowKit Go.Proofs.YtgddljealeklkaaDoorW.PrintWords Go.Proofs.YtgddljealeklkaaDoorW.PrintLast Go.Proofs.YtgddljealeklkaaDoorW.PrintMore
attribute [local go_sem] max2_int min2_int max_two min_two max_three min_three max_four min_four   -- for this text's walks alone
set_option linter.unusedVariables false
set_option linter.unusedSimpArgs false

section
open Go.Proofs.YtgddljealeklkaaDoorQ Go.Proofs.YtgddljealeklkaaDoorM
set_option maxHeartbeats 1000000 in
theorem levels_Depth_1.calls (p d a : Int) (g : Nat) (w : World) (B : Blk w g #[.int .i64 a] 3) :
    Calls Tryd.prog 74 #[.int .i64 p, .int .i64 d, .pointer (some ⟨g, 0, none⟩)] w fun e w' => e = .returned (.bool (decide (p < a))) ∧ Below w.heap.size w w' := by
  have ca := B.cell (i := 0) rfl
  go_enter Tryd.func74, Tryd.ntmps74
  go_wp2
  go_ret
  exact ⟨rfl, Below.refl _ _⟩
end


section
open Go.Proofs.YtgddljealeklkaaDoorQ Go.Proofs.YtgddljealeklkaaDoorM
def levels_Depth.f (a0 : ByteArray) (a1 : Int) : Option Int := if a0.size ≤ 1048576 then some ((depAt a0 a1 : Nat) : Int) else none
set_option maxHeartbeats 4000000 in
theorem levels_Depth.calls (a0 : ByteArray) (a1 r : Int) (w : World) (hT : TabOk w) (h : levels_Depth.f a0 a1 = some r) :
    Calls Tryd.prog 37 #[.string a0, .int .i64 a1] w fun e w' => e = .returned (.int .i64 r) ∧ Below w.heap.size w w' := by
  unfold levels_Depth.f at h
  by_cases hs : a0.size ≤ 1048576
  case neg => rw [if_neg hs] at h; cases h
  rw [if_pos hs] at h
  injection h with hr
  have HB := BelowH.refl w
  have HT := Aside0.mk hT
  have HR := Aside0.mk hr
  have HS := Aside0.mk hs
  clear hT hr hs
  have WK : Aside0 (∀ (g : Nat) (W : World), TabOk W → Blk W g #[.int .i64 a1] 3 → Calls Tryd.prog 64 #[.string a0, .func (.func 74) #[] #[.pointer (some ⟨g, 0, none⟩)]] W fun e w' => e = .returned (.int .i64 r) ∧ Below W.heap.size W w') := ⟨fun g W hTW B => by
    have := levels_walk.walk a0 HS.out W hTW 74 #[.pointer (some ⟨g, 0, none⟩)] []
      (fun i W' => Blk W' g #[.int .i64 a1] 3 ∧ ∀ (j q : Nat), j < i → (placesL a0)[j]? = some q → (q : Int) < a1)
      (fun i p _ => ¬ ((p : Int) < a1) ∧ ∀ (j q : Nat), j < i → (placesL a0)[j]? = some q → (q : Int) < a1)
      (enters_of Tryd.func74 (by kernel_rfl) rfl) (fun k hk => by cases hk) (fun W1 W2 h hb => ⟨h.1.below hb, h.2⟩)
      (fun i p W1 hp hB hJ => (levels_Depth_1.calls (p : Int) _ a1 g W1 hJ.1).mono fun e W2 ⟨he, hb⟩ => ⟨_, he, Turned.of_below hb, fun hd => ⟨hJ.1.below hb, fun j q hj hq => by
          by_cases c : j = i
          · subst c
            rw [hp] at hq
            injection hq with hq
            rw [← hq]
            exact of_decide_eq_true hd
          · exact hJ.2 j q (by omega) hq⟩, fun hd => ⟨of_decide_eq_false hd, hJ.2⟩⟩)
      ⟨B, fun j q hj _ => absurd hj (Nat.not_lt_zero _)⟩
    refine this.mono fun e w' ⟨d, he, ht, hh⟩ => ⟨?_, ht.below (fun k hk => by cases hk) (Nat.le_refl _) (Below.refl _ _)⟩
    rw [he, ← HR.out]
    rcases hh with ⟨hd, _, h2⟩ | ⟨i, p, hp, hd, h1, h2⟩
    · rw [hd, depAt_all (fun j q hq => h2 j q ((List.getElem?_eq_some_iff.1 hq).1) hq)]
    · rw [hd, depAt_stop hp h1 h2]⟩
  clear HR HS
  go_enter Tryd.func37, Tryd.ntmps37
  go_wp2_with (first
    | ((with_reducible refine gate_dst (N := 3) rfl ?_); refine ev_alloc HB rfl (#[.int .i64 a1]) 3 ?hr ?_; (case hr => first | (go_simp; done) | (go_simp; rfl)); intro g3 w3 G_g3 GE_g3 B_g3 HBn K_g3; clear HB; have HB := HBn; clear HBn)
    | (go_at_call 64; refine (WK.out g3 w3 (HT.out.stepH HB) B_g3).mono ?_; rintro e w4 ⟨rfl, hb4⟩; have HB4 := HB.step hb4; clear hb4))
  go_ret
  exact ⟨rfl, HB4.out⟩
end


mutual
def marks_Kind.j0 : Nat → ByteArray → Int → Bool → Option (Int)
  | 0, _, _, _ => none
  | k + 1, x0, x1, x16 => if x16 = true then (some 0) else ((marks_look.f x0).bind fun t125 => (if 0 ≤ (wrap64 (Int.tdiv x1 64)) then (if (wrap64 (Int.tdiv x1 64)) < (t125.length : Int) then (if 0 ≤ (Int.tmod x1 64) then (if x1 ≥ 64 then (if 0 ≤ (wrap64 ((wrap64 (Int.tdiv x1 64)) - 1)) then (if (wrap64 ((wrap64 (Int.tdiv x1 64)) - 1)) < (t125.length : Int) then ((marks_rows_ends.f ((rd_T77 t125 (wrap64 ((wrap64 (Int.tdiv x1 64)) - 1))).f0) ((rd_T77 t125 (wrap64 ((wrap64 (Int.tdiv x1 64)) - 1))).f1) ((rd_T77 t125 (wrap64 ((wrap64 (Int.tdiv x1 64)) - 1))).f2) ((rd_T77 t125 (wrap64 ((wrap64 (Int.tdiv x1 64)) - 1))).f3)).bind fun t131 => (marks_Kind.j1 k x0 x1 (shl .u64 1 (Int.tmod x1 64)) t131 ((rd_T77 t125 (wrap64 (Int.tdiv x1 64))).f0) ((rd_T77 t125 (wrap64 (Int.tdiv x1 64))).f1) ((rd_T77 t125 (wrap64 (Int.tdiv x1 64))).f2) ((rd_T77 t125 (wrap64 (Int.tdiv x1 64))).f3))) else (none)) else (none)) else (marks_Kind.j1 k x0 x1 (shl .u64 1 (Int.tmod x1 64)) false ((rd_T77 t125 (wrap64 (Int.tdiv x1 64))).f0) ((rd_T77 t125 (wrap64 (Int.tdiv x1 64))).f1) ((rd_T77 t125 (wrap64 (Int.tdiv x1 64))).f2) ((rd_T77 t125 (wrap64 (Int.tdiv x1 64))).f3))) else (none)) else (none)) else (none)))
def marks_Kind.j1 : Nat → ByteArray → Int → Int → Bool → Int → Int → Int → Int → Option (Int)
  | 0, _, _, _, _, _, _, _, _ => none
  | k + 1, x0, x1, x7, x8, x130000, x130001, x130002, x130003 => if (Go.bits .and .u64 (Go.bits .or .u64 x130000 x130002) x7) = 0 then ((marks_rows_starts.f x130000 x130001 x130002 x130003 x8).bind fun t132 => (if (Go.bits .and .u64 t132 x7) = 0 then (some 0) else (some 119))) else (if 0 ≤ x1 then (if x1 < (x0.size : Int) then (some (bt x0 x1)) else (none)) else (none))
end
def marks_Kind.f (k : Nat) (a0 : ByteArray) (a1 : Int) : Option (Int) := if a1 < 0 then (marks_Kind.j0 k a0 a1 true) else (marks_Kind.j0 k a0 a1 (decide (a1 ≥ (a0.size : Int))))
theorem marks_Kind.mono_l : ∀ k, (∀ y0 y1 y2, LeO (marks_Kind.j0 k y0 y1 y2) (marks_Kind.j0 (k + 1) y0 y1 y2)) ∧ (∀ y0 y1 y2 y3 y4 y5 y6 y7, LeO (marks_Kind.j1 k y0 y1 y2 y3 y4 y5 y6 y7) (marks_Kind.j1 (k + 1) y0 y1 y2 y3 y4 y5 y6 y7))
  | 0 => ⟨fun _ _ _ r h => by simp [marks_Kind.j0] at h, fun _ _ _ _ _ _ _ _ r h => by simp [marks_Kind.j1] at h⟩
  | k + 1 => by
    obtain ⟨ih0, ih1⟩ := marks_Kind.mono_l k
    refine ⟨?_, ?_⟩
    · intro y0 y1 y2
      unfold marks_Kind.j0
      repeat' first
      | (with_reducible exact ih0 _ _ _)
      | (with_reducible exact ih1 _ _ _ _ _ _ _ _)
      | (with_reducible exact LeO.refl _)
      | (with_reducible exact LeO.none _)
      | (with_reducible refine LeO.ite ?_ ?_)
      | (with_reducible refine LeO.bind ?_ (fun _ => ?_))
      | exact ih0 _ _ _
      | exact ih1 _ _ _ _ _ _ _ _
      | exact LeO.none _
      | refine LeO.ite ?_ ?_
      | refine LeO.bind ?_ (fun _ => ?_)
    · intro y0 y1 y2 y3 y4 y5 y6 y7
      unfold marks_Kind.j1
      repeat' first
      | (with_reducible exact ih0 _ _ _)
      | (with_reducible exact ih1 _ _ _ _ _ _ _ _)
      | (with_reducible exact LeO.refl _)
      | (with_reducible exact LeO.none _)
      | (with_reducible refine LeO.ite ?_ ?_)
      | (with_reducible refine LeO.bind ?_ (fun _ => ?_))
      | exact ih0 _ _ _
      | exact ih1 _ _ _ _ _ _ _ _
      | exact LeO.none _
      | refine LeO.ite ?_ ?_
      | refine LeO.bind ?_ (fun _ => ?_)
theorem marks_Kind.mono : ∀ a0 a1 k, LeO (marks_Kind.f k a0 a1) (marks_Kind.f (k + 1) a0 a1) := by
  intro a0 a1 k
  obtain ⟨ih0, ih1⟩ := marks_Kind.mono_l k
  unfold marks_Kind.f
  repeat' first
      | (with_reducible exact ih0 _ _ _)
      | (with_reducible exact ih1 _ _ _ _ _ _ _ _)
      | (with_reducible exact LeO.refl _)
      | (with_reducible exact LeO.none _)
      | (with_reducible refine LeO.ite ?_ ?_)
      | (with_reducible refine LeO.bind ?_ (fun _ => ?_))
      | exact ih0 _ _ _
      | exact ih1 _ _ _ _ _ _ _ _
      | exact LeO.none _
      | refine LeO.ite ?_ ?_
      | refine LeO.bind ?_ (fun _ => ?_)
def marks_Kind.T4 : Bool × List (List Nat × List Nat) := (true, [([], []), ([], []), ([1], [1]), ([0, 2], [0, 2]), ([3], [3]), ([], []), ([5], [5]), ([6], [6]), ([], []), ([8, 4, 0, 1, 2, 3, 4, 8], [4, 8]), ([7, 9, 0, 1, 2, 3, 4, 5, 6, 7, 8, 9], [7])])
def marks_Kind.B4 : List Nat := [0, 0, 2, 7, 15, 0, 32, 96, 0, 287, 1023]
theorem marks_Kind.tab4 : rtab .any (opsOf Tryd.f22 4) = marks_Kind.T4 := by kernel_rfl
theorem marks_Kind.bits4 : waitsOk marks_Kind.T4.2 marks_Kind.B4 = true := by kernel_rfl
set_option maxHeartbeats 8000000 in
set_option maxRecDepth 100000 in
theorem marks_Kind.calls (k : Nat) (a0 : ByteArray) (a1 : Int) (r : Int) (w : World) (h : marks_Kind.f k a0 a1 = some r) :
    Calls Tryd.prog 22 #[.string a0, .int .i64 a1] w fun e w' => e = .returned (.int .u8 r) ∧ Below w.heap.size w w' := by
  have hu77 := Tryd.underlying77
  have HB := Aside0.mk (Below.refl w.heap.size w)
  have H : (if a1 < 0 then (marks_Kind.j0 k a0 a1 true) else (marks_Kind.j0 k a0 a1 (decide (a1 ≥ (a0.size : Int))))) = some r := h
  clear h
  have HC3 := Aside0.mk H
  clear H
  go_enter Tryd.func22, Tryd.ntmps22
  go_upto_region 1 with (fail)
  go_cut [16] (fun v16 wc => ∃ (kq : Nat) (x16_2 : Bool), v16 = .bool x16_2 ∧ Aside0 (marks_Kind.j0 kq a0 a1 x16_2 = some r) ∧ Aside0 (kq ≤ k) ∧ Aside0 (Below w.heap.size w wc))
  case first =>
    have H := HC3.out
    clear HC3
    by_cases c4 : a1 < 0
    · rw [if_pos c4] at H
      have c4b0 : decide (a1 < 0) = true := decide_eq_true c4
      clear c4
      (first | rw [c4b0] | (simp only [i64_w, i32_w]; rw [c4b0]) | skip)
      have H' := Aside0.mk H
      clear H
      go_wp2
      go_meet
      case rel => exact ⟨_, (true), (by first | rfl | (simp; done) | (simp [*]; done)), H', ⟨by first | omega | exact Nat.le_refl _⟩, ⟨by repeat (first | (with_reducible first | exact HB.out | apply below_alloc | apply pw_below_drewN | apply below_drew1) | exact HB.out)⟩⟩
    · rw [if_neg c4] at H
      have c4b0 : decide (a1 < 0) = false := decide_eq_false c4
      clear c4
      (first | rw [c4b0] | (simp only [i64_w, i32_w]; rw [c4b0]) | skip)
      have H' := Aside0.mk H
      clear H
      go_wp2
      go_meet
      case rel => exact ⟨_, (decide (a1 ≥ (a0.size : Int))), (by first | rfl | (simp; done) | (simp [*]; done)), H', ⟨by first | omega | exact Nat.le_refl _⟩, ⟨by repeat (first | (with_reducible first | exact HB.out | apply below_alloc | apply pw_below_drewN | apply below_drew1) | exact HB.out)⟩⟩
  case rest =>
    clear HC3
    try clear c2
    try clear p2
    try clear c4
    try clear c4b0
    obtain ⟨kq, x16_2, rfl, HA, HJ2, HB⟩ := hcut
    cases kq with
    | zero => exact absurd HA.out (by simp [marks_Kind.j0])
    | succ kj2 =>
      have H := HA.out
      clear HA
      simp only [marks_Kind.j0] at H
      by_cases c5 : x16_2 = true
      · subst c5
        have H1 : (some 0) = some r := by rw [if_pos rfl] at H; exact H
        clear H
        have H := H1
        clear H1
        obtain rfl := Option.some.inj H
        go_wp2
        go_ret
        exact ⟨by first | rfl | (simp [errW_none, errW_some] <;> rfl) | (simp [*, errW_none, errW_some] <;> rfl), by repeat (first | (with_reducible first | exact HB.out | apply below_alloc | apply pw_below_drewN | apply below_drew1) | exact HB.out)⟩
      · replace c5 := Bool.eq_false_iff.mpr c5
        subst c5
        have H1 : ((marks_look.f a0).bind fun t125 => (if 0 ≤ (wrap64 (Int.tdiv a1 64)) then (if (wrap64 (Int.tdiv a1 64)) < (t125.length : Int) then (if 0 ≤ (Int.tmod a1 64) then (if a1 ≥ 64 then (if 0 ≤ (wrap64 ((wrap64 (Int.tdiv a1 64)) - 1)) then (if (wrap64 ((wrap64 (Int.tdiv a1 64)) - 1)) < (t125.length : Int) then ((marks_rows_ends.f ((rd_T77 t125 (wrap64 ((wrap64 (Int.tdiv a1 64)) - 1))).f0) ((rd_T77 t125 (wrap64 ((wrap64 (Int.tdiv a1 64)) - 1))).f1) ((rd_T77 t125 (wrap64 ((wrap64 (Int.tdiv a1 64)) - 1))).f2) ((rd_T77 t125 (wrap64 ((wrap64 (Int.tdiv a1 64)) - 1))).f3)).bind fun t131 => (marks_Kind.j1 kj2 a0 a1 (shl .u64 1 (Int.tmod a1 64)) t131 ((rd_T77 t125 (wrap64 (Int.tdiv a1 64))).f0) ((rd_T77 t125 (wrap64 (Int.tdiv a1 64))).f1) ((rd_T77 t125 (wrap64 (Int.tdiv a1 64))).f2) ((rd_T77 t125 (wrap64 (Int.tdiv a1 64))).f3))) else (none)) else (none)) else (marks_Kind.j1 kj2 a0 a1 (shl .u64 1 (Int.tmod a1 64)) false ((rd_T77 t125 (wrap64 (Int.tdiv a1 64))).f0) ((rd_T77 t125 (wrap64 (Int.tdiv a1 64))).f1) ((rd_T77 t125 (wrap64 (Int.tdiv a1 64))).f2) ((rd_T77 t125 (wrap64 (Int.tdiv a1 64))).f3))) else (none)) else (none)) else (none))) = some r := by rw [if_neg (show ¬ (false = true) by decide)] at H; exact H
        clear H
        have H := H1
        clear H1
        replace H := Option.bind_eq_some_iff.mp H
        obtain ⟨t125, A60, H⟩ := H
        replace H : (if 0 ≤ (wrap64 (Int.tdiv a1 64)) then (if (wrap64 (Int.tdiv a1 64)) < (t125.length : Int) then (if 0 ≤ (Int.tmod a1 64) then (if a1 ≥ 64 then (if 0 ≤ (wrap64 ((wrap64 (Int.tdiv a1 64)) - 1)) then (if (wrap64 ((wrap64 (Int.tdiv a1 64)) - 1)) < (t125.length : Int) then ((marks_rows_ends.f ((rd_T77 t125 (wrap64 ((wrap64 (Int.tdiv a1 64)) - 1))).f0) ((rd_T77 t125 (wrap64 ((wrap64 (Int.tdiv a1 64)) - 1))).f1) ((rd_T77 t125 (wrap64 ((wrap64 (Int.tdiv a1 64)) - 1))).f2) ((rd_T77 t125 (wrap64 ((wrap64 (Int.tdiv a1 64)) - 1))).f3)).bind fun t131 => (marks_Kind.j1 kj2 a0 a1 (shl .u64 1 (Int.tmod a1 64)) t131 ((rd_T77 t125 (wrap64 (Int.tdiv a1 64))).f0) ((rd_T77 t125 (wrap64 (Int.tdiv a1 64))).f1) ((rd_T77 t125 (wrap64 (Int.tdiv a1 64))).f2) ((rd_T77 t125 (wrap64 (Int.tdiv a1 64))).f3))) else (none)) else (none)) else (marks_Kind.j1 kj2 a0 a1 (shl .u64 1 (Int.tmod a1 64)) false ((rd_T77 t125 (wrap64 (Int.tdiv a1 64))).f0) ((rd_T77 t125 (wrap64 (Int.tdiv a1 64))).f1) ((rd_T77 t125 (wrap64 (Int.tdiv a1 64))).f2) ((rd_T77 t125 (wrap64 (Int.tdiv a1 64))).f3))) else (none)) else (none)) else (none)) = some r := H
        have A6 := Aside0.mk A60
        clear A60
        obtain ⟨ji7, hji7⟩ : ∃ j_ : Int, (wrap64 (Int.tdiv a1 64)) = j_ := ⟨_, rfl⟩
        replace H : (if 0 ≤ (ji7) then (if (ji7) < (t125.length : Int) then (if 0 ≤ (Int.tmod a1 64) then (if a1 ≥ 64 then (if 0 ≤ (wrap64 ((ji7) - 1)) then (if (wrap64 ((ji7) - 1)) < (t125.length : Int) then ((marks_rows_ends.f ((rd_T77 t125 (wrap64 ((ji7) - 1))).f0) ((rd_T77 t125 (wrap64 ((ji7) - 1))).f1) ((rd_T77 t125 (wrap64 ((ji7) - 1))).f2) ((rd_T77 t125 (wrap64 ((ji7) - 1))).f3)).bind fun t131 => (marks_Kind.j1 kj2 a0 a1 (shl .u64 1 (Int.tmod a1 64)) t131 ((rd_T77 t125 (ji7)).f0) ((rd_T77 t125 (ji7)).f1) ((rd_T77 t125 (ji7)).f2) ((rd_T77 t125 (ji7)).f3))) else (none)) else (none)) else (marks_Kind.j1 kj2 a0 a1 (shl .u64 1 (Int.tmod a1 64)) false ((rd_T77 t125 (ji7)).f0) ((rd_T77 t125 (ji7)).f1) ((rd_T77 t125 (ji7)).f2) ((rd_T77 t125 (ji7)).f3))) else (none)) else (none)) else (none)) = some r := by first | (rw [hji7] at H; exact H) | (simp only [hji7] at H ⊢; exact H)
        (try rw [hji7] at A6)
        have hji7w : (IntKind.i64.wrap (Int.tdiv a1 64)) = ji7 := (i64_w _).trans hji7
        by_cases c8 : 0 ≤ (ji7)
        · rw [if_pos c8] at H
          have c8b0 : decide (0 ≤ (ji7)) = true := decide_eq_true c8
          clear c8
          by_cases c9 : (ji7) < (t125.length : Int)
          · rw [if_pos c9] at H
            have c9b0 : decide ((ji7) < (t125.length : Int)) = true := decide_eq_true c9
            clear c9
            obtain ⟨ji10, hji10⟩ : ∃ j_ : Int, (Int.tmod a1 64) = j_ := ⟨_, rfl⟩
            replace H : (if 0 ≤ (ji10) then (if a1 ≥ 64 then (if 0 ≤ (wrap64 ((ji7) - 1)) then (if (wrap64 ((ji7) - 1)) < (t125.length : Int) then ((marks_rows_ends.f ((rd_T77 t125 (wrap64 ((ji7) - 1))).f0) ((rd_T77 t125 (wrap64 ((ji7) - 1))).f1) ((rd_T77 t125 (wrap64 ((ji7) - 1))).f2) ((rd_T77 t125 (wrap64 ((ji7) - 1))).f3)).bind fun t131 => (marks_Kind.j1 kj2 a0 a1 (shl .u64 1 (ji10)) t131 ((rd_T77 t125 (ji7)).f0) ((rd_T77 t125 (ji7)).f1) ((rd_T77 t125 (ji7)).f2) ((rd_T77 t125 (ji7)).f3))) else (none)) else (none)) else (marks_Kind.j1 kj2 a0 a1 (shl .u64 1 (ji10)) false ((rd_T77 t125 (ji7)).f0) ((rd_T77 t125 (ji7)).f1) ((rd_T77 t125 (ji7)).f2) ((rd_T77 t125 (ji7)).f3))) else (none)) = some r := by first | (rw [hji10] at H; exact H) | (simp only [hji10] at H ⊢; exact H)
            (try rw [hji10] at A6)
            by_cases c11 : 0 ≤ (ji10)
            · rw [if_pos c11] at H
              have c11b0 := eq_true c11
              have c11b1 : decide (0 ≤ (ji10)) = true := decide_eq_true c11
              clear c11
              obtain ⟨ji12, hji12⟩ : ∃ j_ : Int, (shl .u64 1 (ji10)) = j_ := ⟨_, rfl⟩
              replace H : (if a1 ≥ 64 then (if 0 ≤ (wrap64 ((ji7) - 1)) then (if (wrap64 ((ji7) - 1)) < (t125.length : Int) then ((marks_rows_ends.f ((rd_T77 t125 (wrap64 ((ji7) - 1))).f0) ((rd_T77 t125 (wrap64 ((ji7) - 1))).f1) ((rd_T77 t125 (wrap64 ((ji7) - 1))).f2) ((rd_T77 t125 (wrap64 ((ji7) - 1))).f3)).bind fun t131 => (marks_Kind.j1 kj2 a0 a1 ji12 t131 ((rd_T77 t125 (ji7)).f0) ((rd_T77 t125 (ji7)).f1) ((rd_T77 t125 (ji7)).f2) ((rd_T77 t125 (ji7)).f3))) else (none)) else (none)) else (marks_Kind.j1 kj2 a0 a1 ji12 false ((rd_T77 t125 (ji7)).f0) ((rd_T77 t125 (ji7)).f1) ((rd_T77 t125 (ji7)).f2) ((rd_T77 t125 (ji7)).f3))) = some r := by first | (rw [hji12] at H; exact H) | (simp only [hji12] at H ⊢; exact H)
              (try rw [hji12] at A6)
              have hji12_ : (IntKind.u64.wrap (1 * 2 ^ min (ji10).toNat 64)) = ji12 := hji12
              have hji12z : (ji10) ≤ 64 → (IntKind.u64.wrap (1 * 2 ^ (ji10).toNat)) = ji12 := shl_small hji12
              have hji12u : (IntKind.u64.wrap (2 ^ min (ji10).toNat 64)) = ji12 := by have h_ := hji12_; rw [Int.one_mul] at h_; exact h_
              have hji12v : (ji10) ≤ 64 → (IntKind.u64.wrap (2 ^ (ji10).toNat)) = ji12 := fun hle_ => by have h_ := hji12z hle_; rw [Int.one_mul] at h_; exact h_
              have HC13 := Aside0.mk H
              clear H
              try go_wp2_with (first | ((with_reducible refine gate_callee (f := 50) rfl ?_); refine goesL_ (some 18) rfl rfl Tryd.func50 (by kernel_rfl) rfl #[.string a0] rfl (by (try simp only [List.map_toArray, List.map_cons, List.map_nil]); first | done | rfl | (simp only [List.length_drop, List.length_take]; rfl)) ?_; (with_reducible refine (marks_look.calls a0 t125 _ A6.out).mono ?_); rintro e w14 ⟨v126, rfl, ho0, hb⟩; refine ⟨_, rfl, ?_⟩; have n0_ := Aside0.mk (Kd.R_lower ho0 (below_size (by repeat (first | (with_reducible first | exact HB.out | apply below_alloc | apply pw_below_drewN | apply below_drew1) | exact HB.out)))); have n1_ := Aside0.mk (below_step (by repeat (first | (with_reducible first | exact HB.out | apply below_alloc | apply pw_below_drewN | apply below_drew1) | exact HB.out)) hb); clear HB; have HO127 := n0_; have HB := n1_; clear n0_ n1_; (try clear hb); (try clear hb2); (try clear hk); (try clear hi); (try clear ho0)))
              have n0_ := Aside0.mk (Kd.R_drew HO127.out)
              have n1_ := Aside0.mk (below_drew1 HB.out)
              clear HO127
              clear HB
              have HO127 := n0_
              have HB := n1_
              clear n0_ n1_
              obtain ⟨Ao16, co16, eo16⟩ := Kd.R_slice HO127.out
              (first | subst eo16 | (injection eo16 with f1_ f2_ f3_; have f4_ := f1_.symm; have f5_ := f3_.symm; clear f1_ f2_ f3_; subst f4_; subst f5_))
              have p128 : 0 ≤ ((ji7) : Int) := of_decide_eq_true (by first | (with_reducible assumption) | assumption)
              have q128 : (ji7) < (t125.length : Int) := of_decide_eq_true (by first | (with_reducible assumption) | assumption)
              obtain ⟨ad128, e128, hx128_0, hx128_1, hx128_2, hx128_3⟩ := at_T77 (Kd.R_reads' HO127.out).2.2 (ji7) p128 q128
              cases e128
              replace p128 := eq_true p128
              replace q128 := eq_true q128
              refine start_ (n := 11) (S := fun w' => w'.cell? (ad128.add (((ji7)).toNat * 4)) = some (.int .u64 ((rd_T77 t125 (ji7)).f0)) ∧ w'.cell? ⟨(ad128.add (((ji7)).toNat * 4)).block, (ad128.add (((ji7)).toNat * 4)).off + 1, none⟩ = some (.int .u64 ((rd_T77 t125 (ji7)).f1)) ∧ w'.cell? ⟨(ad128.add (((ji7)).toNat * 4)).block, (ad128.add (((ji7)).toNat * 4)).off + 2, none⟩ = some (.int .u64 ((rd_T77 t125 (ji7)).f2)) ∧ w'.cell? ⟨(ad128.add (((ji7)).toNat * 4)).block, (ad128.add (((ji7)).toNat * 4)).off + 3, none⟩ = some (.int .u64 ((rd_T77 t125 (ji7)).f3))) (ds := []) #[false, false, false, false, false, false, false, false, false, false, false] (by kernel_rfl) rfl rfl ⟨hx128_0, hx128_1, hx128_2, hx128_3⟩ (fun hHeld => ?_); refine with_tabW marks_Kind.tab4 marks_Kind.bits4 (fun HT_ HW_ => ?_)
              generalize w14.drew = w15 at HO127 HB hx128_0 hx128_1 hx128_2 hx128_3 hHeld ⊢
              refine pure_ (i := 0) (N := some 19) (v := ?_) (a' := ?_) #[true, false, false, false, false, false, false, false, false, false, false] rfl rfl (any_of HT_.out (by kernel_rfl)) (fun _ _ _ h => h) (Or.inl ⟨by rfl, ?_⟩) ?_ ?_
              rotate_left
              · intro w'
                go_simp
                with_reducible rfl
              rotate_left
              · simp only [Act.put, List.setIfInBounds_toArray, List.set_cons_zero, List.set_cons_succ, i64_w, i32_w]
                rfl
              refine pure_ (i := 1) (N := some 20) (v := ?_) (a' := ?_) #[true, true, false, false, false, false, false, false, false, false, false] rfl rfl (any_of HT_.out (by kernel_rfl)) (fun _ _ _ h => h) (Or.inl ⟨by rfl, ?_⟩) ?_ ?_
              rotate_left
              · intro w'
                go_simp
                with_reducible rfl
              rotate_left
              · simp only [Act.put, List.setIfInBounds_toArray, List.set_cons_zero, List.set_cons_succ, i64_w, i32_w]
                rfl
              refine pure_ (i := 2) (N := some 21) (v := ?_) (a' := ?_) #[true, true, true, false, false, false, false, false, false, false, false] rfl rfl (any_of HT_.out (by kernel_rfl)) (fun _ _ _ h => h) (Or.inl ⟨by rfl, ?_⟩) ?_ ?_
              rotate_left
              · intro w'
                go_simp
                with_reducible rfl
              rotate_left
              · simp only [Act.put, List.setIfInBounds_toArray, List.set_cons_zero, List.set_cons_succ, i64_w, i32_w]
                rfl
              refine pure_ (i := 3) (N := some 22) (v := ?_) (a' := ?_) #[true, true, true, true, false, false, false, false, false, false, false] rfl rfl (any_of HT_.out (by kernel_rfl)) (fun _ _ _ h => h) (Or.inl ⟨by rfl, ?_⟩) ?_ ?_
              rotate_left
              · intro w'
                go_simp
                with_reducible rfl
              rotate_left
              · simp only [Act.put, List.setIfInBounds_toArray, List.set_cons_zero, List.set_cons_succ, i64_w, i32_w]
                rfl
              refine pure_ (i := 5) (N := some 24) (v := ?_) (a' := ?_) #[true, true, true, true, false, true, false, false, false, false, false] rfl rfl (any_of HT_.out (by kernel_rfl)) (fun _ _ _ h => h) (Or.inl ⟨by rfl, ?_⟩) ?_ ?_
              rotate_left
              · intro w'
                go_simp
                with_reducible rfl
              rotate_left
              · simp only [Act.put, List.setIfInBounds_toArray, List.set_cons_zero, List.set_cons_succ, i64_w, i32_w]
                rfl
              refine pure_ (i := 6) (N := some 25) (v := ?_) (a' := ?_) #[true, true, true, true, false, true, true, false, false, false, false] rfl rfl (any_of HT_.out (by kernel_rfl)) (fun _ _ _ h => h) (Or.inl ⟨by rfl, ?_⟩) ?_ ?_
              rotate_left
              · intro w'
                go_simp
                with_reducible rfl
              rotate_left
              · simp only [Act.put, List.setIfInBounds_toArray, List.set_cons_zero, List.set_cons_succ, i64_w, i32_w]
                rfl
              refine pure_ (i := 7) (N := some 26) (v := ?_) (a' := ?_) #[true, true, true, true, false, true, true, true, false, false, false] rfl rfl (any_of HT_.out (by kernel_rfl)) (fun _ _ _ h => h) (Or.inl ⟨by rfl, ?_⟩) ?_ ?_
              rotate_left
              · intro w'
                go_simp
                with_reducible rfl
              rotate_left
              · simp only [Act.put, List.setIfInBounds_toArray, List.set_cons_zero, List.set_cons_succ, i64_w, i32_w]
                rfl
              refine take_ (i := 4) (N := some 23) (v := ?_) (a' := ?_) #[true, true, true, true, true, true, true, true, false, false, false] rfl rfl (take_ofW HT_.out HW_.out (by kernel_rfl)) (fun _ _ _ h => h) (Or.inl ⟨by rfl, ?_⟩) hHeld ?_ ?_
              rotate_left
              · rintro w' ⟨s0, s1, s2, s3⟩
                go_simp
                with_reducible rfl
              rotate_left
              · simp only [Act.put, List.setIfInBounds_toArray, List.set_cons_zero, List.set_cons_succ, i64_w, i32_w]
                rfl
              refine one_ (i := 8) (N := some 6) #[true, true, true, true, true, true, true, true, true, false, false] rfl rfl (one_of HT_.out (by kernel_rfl)) (by decide) (fun K hK => ?_)
              refine box_step ?hg (N := 6) ?hd (cs := #[.int .u64 0, .int .u64 0, .int .u64 0, .int .u64 0]) (t := 77) ?hr ?_; (case hd => rfl); (case hg => rfl); (case hr => first | (go_simp; done) | (go_simp; rfl))
              intro gb129 hg w17 hbox hb
              have HS0_ := (hb.cell (World.block_lt_of_cell? _ _ (hHeld.1))).trans (hHeld.1)
              have HS1_ := (hb.cell (World.block_lt_of_cell? _ _ (hHeld.2.1))).trans (hHeld.2.1)
              have HS2_ := (hb.cell (World.block_lt_of_cell? _ _ (hHeld.2.2.1))).trans (hHeld.2.2.1)
              have HS3_ := (hb.cell (World.block_lt_of_cell? _ _ (hHeld.2.2.2))).trans (hHeld.2.2.2)
              have n0_ := Aside0.mk (Kd.R_below (Kd.R_elderB (by (with_reducible repeat (first | apply Kd.R_alloc | apply Kd.R_drewN | apply Kd.R_drew)); exact HO127.out) gb129 (Nat.le_of_eq hg.symm)) hb)
              have n1_ := Aside0.mk (below_step (by repeat (first | (with_reducible first | exact HB.out | apply below_alloc | apply pw_below_drewN | apply below_drew1) | exact HB.out)) hb)
              have n2_ := Aside0.mk (hbox)
              have n3_ := Aside0.mk ((by rw [hg]; exact (below_size (by repeat (first | (with_reducible first | exact HB.out | apply below_alloc | apply pw_below_drewN | apply below_drew1) | exact HB.out))) : w.heap.size ≤ gb129))
              have n4_ := Aside0.mk ((by rw [hg]; exact (below_size (by repeat (first | (with_reducible first | exact HB.out | apply below_alloc | apply pw_below_drewN | apply below_drew1) | exact HB.out))) : w.heap.size ≤ gb129))
              clear HO127
              clear HB
              have HO127 := n0_
              have HB := n1_
              have BK129 := n2_
              have GW129 := n3_
              have GE129 := n4_
              clear n0_ n1_ n2_ n3_ n4_
              clear hb hbox hg
              refine hK.out _ _ ⟨HS0_, HS1_, HS2_, HS3_⟩ (fun hHeld => ?_)
              clear hK K
              refine norm_ (a' := ?_) ?_ ?_
              rotate_left
              · show Act.put _ (some 6) _ = _
                simp only [Act.put, List.setIfInBounds_toArray, List.set_cons_zero, List.set_cons_succ, i64_w, i32_w]
                rfl
              refine one_ (i := 9) (N := none) #[true, true, true, true, true, true, true, true, true, true, false] rfl rfl (one_of HT_.out (by kernel_rfl)) (by decide) (fun K hK => ?_)
              have hs18 : w17.cell? ⟨gb129, 0, none⟩ = some (.int .u64 0) := (blk_cell BK129.out 0).trans rfl
              have hfs18 := blk_frozen BK129.out 0
              have hs19 : w17.cell? ⟨gb129, 1, none⟩ = some (.int .u64 0) := (blk_cell BK129.out 1).trans rfl
              have hfs19 := blk_frozen BK129.out 1
              have hs20 : w17.cell? ⟨gb129, 2, none⟩ = some (.int .u64 0) := (blk_cell BK129.out 2).trans rfl
              have hfs20 := blk_frozen BK129.out 2
              have hs21 : w17.cell? ⟨gb129, 3, none⟩ = some (.int .u64 0) := (blk_cell BK129.out 3).trans rfl
              have hfs21 := blk_frozen BK129.out 3
              refine skip_ (w1 := ?_) (by rfl) rfl ?_ ?_
              rotate_left
              · go_simp
                rfl
              refine hK.out _ _ ⟨((cell_far (p := ⟨gb129, _, none⟩) (by first | exact Kd.own_blk (Kd.R_away HO127.out (fun _ hk => hk.2)) | (rw [add_block]; exact Kd.own_blk (Kd.R_away HO127.out (fun _ hk => hk.2))) | (show (Addr.add _ _).block ≠ _; rw [add_block]; exact Kd.own_blk (Kd.R_away HO127.out (fun _ hk => hk.2))) | (dsimp only; exact Kd.own_blk (Kd.R_away HO127.out (fun _ hk => hk.2)))) _).trans (((cell_far (p := ⟨gb129, _, none⟩) (by first | exact Kd.own_blk (Kd.R_away HO127.out (fun _ hk => hk.2)) | (rw [add_block]; exact Kd.own_blk (Kd.R_away HO127.out (fun _ hk => hk.2))) | (show (Addr.add _ _).block ≠ _; rw [add_block]; exact Kd.own_blk (Kd.R_away HO127.out (fun _ hk => hk.2))) | (dsimp only; exact Kd.own_blk (Kd.R_away HO127.out (fun _ hk => hk.2)))) _).trans (((cell_far (p := ⟨gb129, _, none⟩) (by first | exact Kd.own_blk (Kd.R_away HO127.out (fun _ hk => hk.2)) | (rw [add_block]; exact Kd.own_blk (Kd.R_away HO127.out (fun _ hk => hk.2))) | (show (Addr.add _ _).block ≠ _; rw [add_block]; exact Kd.own_blk (Kd.R_away HO127.out (fun _ hk => hk.2))) | (dsimp only; exact Kd.own_blk (Kd.R_away HO127.out (fun _ hk => hk.2)))) _).trans (((cell_far (p := ⟨gb129, _, none⟩) (by first | exact Kd.own_blk (Kd.R_away HO127.out (fun _ hk => hk.2)) | (rw [add_block]; exact Kd.own_blk (Kd.R_away HO127.out (fun _ hk => hk.2))) | (show (Addr.add _ _).block ≠ _; rw [add_block]; exact Kd.own_blk (Kd.R_away HO127.out (fun _ hk => hk.2))) | (dsimp only; exact Kd.own_blk (Kd.R_away HO127.out (fun _ hk => hk.2)))) _).trans (hHeld.1)))))))), ((cell_far (p := ⟨gb129, _, none⟩) (by first | exact Kd.own_blk (Kd.R_away HO127.out (fun _ hk => hk.2)) | (rw [add_block]; exact Kd.own_blk (Kd.R_away HO127.out (fun _ hk => hk.2))) | (show (Addr.add _ _).block ≠ _; rw [add_block]; exact Kd.own_blk (Kd.R_away HO127.out (fun _ hk => hk.2))) | (dsimp only; exact Kd.own_blk (Kd.R_away HO127.out (fun _ hk => hk.2)))) _).trans (((cell_far (p := ⟨gb129, _, none⟩) (by first | exact Kd.own_blk (Kd.R_away HO127.out (fun _ hk => hk.2)) | (rw [add_block]; exact Kd.own_blk (Kd.R_away HO127.out (fun _ hk => hk.2))) | (show (Addr.add _ _).block ≠ _; rw [add_block]; exact Kd.own_blk (Kd.R_away HO127.out (fun _ hk => hk.2))) | (dsimp only; exact Kd.own_blk (Kd.R_away HO127.out (fun _ hk => hk.2)))) _).trans (((cell_far (p := ⟨gb129, _, none⟩) (by first | exact Kd.own_blk (Kd.R_away HO127.out (fun _ hk => hk.2)) | (rw [add_block]; exact Kd.own_blk (Kd.R_away HO127.out (fun _ hk => hk.2))) | (show (Addr.add _ _).block ≠ _; rw [add_block]; exact Kd.own_blk (Kd.R_away HO127.out (fun _ hk => hk.2))) | (dsimp only; exact Kd.own_blk (Kd.R_away HO127.out (fun _ hk => hk.2)))) _).trans (((cell_far (p := ⟨gb129, _, none⟩) (by first | exact Kd.own_blk (Kd.R_away HO127.out (fun _ hk => hk.2)) | (rw [add_block]; exact Kd.own_blk (Kd.R_away HO127.out (fun _ hk => hk.2))) | (show (Addr.add _ _).block ≠ _; rw [add_block]; exact Kd.own_blk (Kd.R_away HO127.out (fun _ hk => hk.2))) | (dsimp only; exact Kd.own_blk (Kd.R_away HO127.out (fun _ hk => hk.2)))) _).trans (hHeld.2.1)))))))), ((cell_far (p := ⟨gb129, _, none⟩) (by first | exact Kd.own_blk (Kd.R_away HO127.out (fun _ hk => hk.2)) | (rw [add_block]; exact Kd.own_blk (Kd.R_away HO127.out (fun _ hk => hk.2))) | (show (Addr.add _ _).block ≠ _; rw [add_block]; exact Kd.own_blk (Kd.R_away HO127.out (fun _ hk => hk.2))) | (dsimp only; exact Kd.own_blk (Kd.R_away HO127.out (fun _ hk => hk.2)))) _).trans (((cell_far (p := ⟨gb129, _, none⟩) (by first | exact Kd.own_blk (Kd.R_away HO127.out (fun _ hk => hk.2)) | (rw [add_block]; exact Kd.own_blk (Kd.R_away HO127.out (fun _ hk => hk.2))) | (show (Addr.add _ _).block ≠ _; rw [add_block]; exact Kd.own_blk (Kd.R_away HO127.out (fun _ hk => hk.2))) | (dsimp only; exact Kd.own_blk (Kd.R_away HO127.out (fun _ hk => hk.2)))) _).trans (((cell_far (p := ⟨gb129, _, none⟩) (by first | exact Kd.own_blk (Kd.R_away HO127.out (fun _ hk => hk.2)) | (rw [add_block]; exact Kd.own_blk (Kd.R_away HO127.out (fun _ hk => hk.2))) | (show (Addr.add _ _).block ≠ _; rw [add_block]; exact Kd.own_blk (Kd.R_away HO127.out (fun _ hk => hk.2))) | (dsimp only; exact Kd.own_blk (Kd.R_away HO127.out (fun _ hk => hk.2)))) _).trans (((cell_far (p := ⟨gb129, _, none⟩) (by first | exact Kd.own_blk (Kd.R_away HO127.out (fun _ hk => hk.2)) | (rw [add_block]; exact Kd.own_blk (Kd.R_away HO127.out (fun _ hk => hk.2))) | (show (Addr.add _ _).block ≠ _; rw [add_block]; exact Kd.own_blk (Kd.R_away HO127.out (fun _ hk => hk.2))) | (dsimp only; exact Kd.own_blk (Kd.R_away HO127.out (fun _ hk => hk.2)))) _).trans (hHeld.2.2.1)))))))), ((cell_far (p := ⟨gb129, _, none⟩) (by first | exact Kd.own_blk (Kd.R_away HO127.out (fun _ hk => hk.2)) | (rw [add_block]; exact Kd.own_blk (Kd.R_away HO127.out (fun _ hk => hk.2))) | (show (Addr.add _ _).block ≠ _; rw [add_block]; exact Kd.own_blk (Kd.R_away HO127.out (fun _ hk => hk.2))) | (dsimp only; exact Kd.own_blk (Kd.R_away HO127.out (fun _ hk => hk.2)))) _).trans (((cell_far (p := ⟨gb129, _, none⟩) (by first | exact Kd.own_blk (Kd.R_away HO127.out (fun _ hk => hk.2)) | (rw [add_block]; exact Kd.own_blk (Kd.R_away HO127.out (fun _ hk => hk.2))) | (show (Addr.add _ _).block ≠ _; rw [add_block]; exact Kd.own_blk (Kd.R_away HO127.out (fun _ hk => hk.2))) | (dsimp only; exact Kd.own_blk (Kd.R_away HO127.out (fun _ hk => hk.2)))) _).trans (((cell_far (p := ⟨gb129, _, none⟩) (by first | exact Kd.own_blk (Kd.R_away HO127.out (fun _ hk => hk.2)) | (rw [add_block]; exact Kd.own_blk (Kd.R_away HO127.out (fun _ hk => hk.2))) | (show (Addr.add _ _).block ≠ _; rw [add_block]; exact Kd.own_blk (Kd.R_away HO127.out (fun _ hk => hk.2))) | (dsimp only; exact Kd.own_blk (Kd.R_away HO127.out (fun _ hk => hk.2)))) _).trans (((cell_far (p := ⟨gb129, _, none⟩) (by first | exact Kd.own_blk (Kd.R_away HO127.out (fun _ hk => hk.2)) | (rw [add_block]; exact Kd.own_blk (Kd.R_away HO127.out (fun _ hk => hk.2))) | (show (Addr.add _ _).block ≠ _; rw [add_block]; exact Kd.own_blk (Kd.R_away HO127.out (fun _ hk => hk.2))) | (dsimp only; exact Kd.own_blk (Kd.R_away HO127.out (fun _ hk => hk.2)))) _).trans (hHeld.2.2.2))))))))⟩ (fun hHeld => ?_)
              clear hK K
              refine pure_ (i := 10) (N := some 7) (v := ?_) (a' := ?_) #[true, true, true, true, true, true, true, true, true, true, true] rfl rfl (any_of HT_.out (by kernel_rfl)) (fun _ _ _ h => h) (Or.inl ⟨by rfl, ?_⟩) ?_ ?_
              rotate_left
              · intro w'
                go_simp
                with_reducible rfl
              rotate_left
              · simp only [Act.put, List.setIfInBounds_toArray, List.set_cons_zero, List.set_cons_succ, i64_w, i32_w]
                rfl
              refine done_ (done_of HT_.out (by kernel_rfl)) ?_
              go_upto_region 5 with (fail)
              go_cut [8] (fun v8 wc => ∃ (kq : Nat) (x8_12 : Bool), v8 = .bool x8_12 ∧ Aside0 (marks_Kind.j1 kq a0 a1 ji12 x8_12 ((rd_T77 t125 (ji7)).f0) ((rd_T77 t125 (ji7)).f1) ((rd_T77 t125 (ji7)).f2) ((rd_T77 t125 (ji7)).f3) = some r) ∧ Aside0 (kq ≤ kj2) ∧ Aside0 (wc.heap[gb129]? = some (.cells #[.int .u64 ((rd_T77 t125 (ji7)).f0), .int .u64 ((rd_T77 t125 (ji7)).f1), .int .u64 ((rd_T77 t125 (ji7)).f2), .int .u64 ((rd_T77 t125 (ji7)).f3)] 77 (0, 0))) ∧ Aside0 (Below w.heap.size w wc))
              case first =>
                have H := HC13.out
                clear HC13
                by_cases c22 : a1 ≥ 64
                · rw [if_pos c22] at H
                  have c22b0 : decide (64 ≤ a1) = true := decide_eq_true c22
                  clear c22
                  (first | rw [c22b0] | (simp only [i64_w, i32_w]; rw [c22b0]) | skip)
                  obtain ⟨ji23, hji23⟩ : ∃ j_ : Int, (wrap64 ((ji7) - 1)) = j_ := ⟨_, rfl⟩
                  replace H : (if 0 ≤ (ji23) then (if (ji23) < (t125.length : Int) then ((marks_rows_ends.f ((rd_T77 t125 (ji23)).f0) ((rd_T77 t125 (ji23)).f1) ((rd_T77 t125 (ji23)).f2) ((rd_T77 t125 (ji23)).f3)).bind fun t131 => (marks_Kind.j1 kj2 a0 a1 ji12 t131 ((rd_T77 t125 (ji7)).f0) ((rd_T77 t125 (ji7)).f1) ((rd_T77 t125 (ji7)).f2) ((rd_T77 t125 (ji7)).f3))) else (none)) else (none)) = some r := by first | (rw [hji23] at H; exact H) | (simp only [hji23] at H ⊢; exact H)
                  have hji23w : (IntKind.i64.wrap ((ji7) - 1)) = ji23 := (i64_w _).trans hji23
                  by_cases c24 : 0 ≤ (ji23)
                  · rw [if_pos c24] at H
                    have c24b0 : decide (0 ≤ (ji23)) = true := decide_eq_true c24
                    clear c24
                    by_cases c25 : (ji23) < (t125.length : Int)
                    · rw [if_pos c25] at H
                      have c25b0 : decide ((ji23) < (t125.length : Int)) = true := decide_eq_true c25
                      clear c25
                      replace H := Option.bind_eq_some_iff.mp H
                      obtain ⟨t131, A260, H⟩ := H
                      replace H : (marks_Kind.j1 kj2 a0 a1 ji12 t131 ((rd_T77 t125 (ji7)).f0) ((rd_T77 t125 (ji7)).f1) ((rd_T77 t125 (ji7)).f2) ((rd_T77 t125 (ji7)).f3)) = some r := H
                      have A26 := Aside0.mk A260
                      clear A260
                      have H' := Aside0.mk H
                      clear H
                      have p130 : 0 ≤ ((ji23) : Int) := of_decide_eq_true (by first | (with_reducible assumption) | assumption)
                      have q130 : (ji23) < (t125.length : Int) := of_decide_eq_true (by first | (with_reducible assumption) | assumption)
                      obtain ⟨ad130, e130, hx130_0, hx130_1, hx130_2, hx130_3⟩ := at_T77 (Kd.R_reads' HO127.out).2.2 (ji23) p130 q130
                      obtain rfl : ad128 = ad130 := (by injection e130)
                      have hn130_0 : ad128.block ≠ gb129 := (by first | exact Kd.own_blk (Kd.R_ne HO127.out BK129.out (by decide)) | exact Kd.own_blk (Kd.R_away HO127.out (fun _ hk => hk.2)))
                      have hn130_1 : ad128.block ≠ gb129 := (by first | exact Kd.own_blk (Kd.R_ne HO127.out BK129.out (by decide)) | exact Kd.own_blk (Kd.R_away HO127.out (fun _ hk => hk.2)))
                      have hn130_2 : ad128.block ≠ gb129 := (by first | exact Kd.own_blk (Kd.R_ne HO127.out BK129.out (by decide)) | exact Kd.own_blk (Kd.R_away HO127.out (fun _ hk => hk.2)))
                      have hn130_3 : ad128.block ≠ gb129 := (by first | exact Kd.own_blk (Kd.R_ne HO127.out BK129.out (by decide)) | exact Kd.own_blk (Kd.R_away HO127.out (fun _ hk => hk.2)))
                      replace hx130_0 := (cell_far (p := ⟨gb129, 0, none⟩) (by first | (rw [add_block]; exact hn130_0) | (show (Addr.add _ _).block ≠ _; rw [add_block]; exact hn130_0) | exact hn130_0) (.int .u64 ((rd_T77 t125 (ji7)).f0))).trans hx130_0
                      replace hx130_1 := (cell_far (p := ⟨gb129, 0, none⟩) (by first | (rw [add_block]; exact hn130_0) | (show (Addr.add _ _).block ≠ _; rw [add_block]; exact hn130_0) | exact hn130_0) (.int .u64 ((rd_T77 t125 (ji7)).f0))).trans hx130_1
                      replace hx130_2 := (cell_far (p := ⟨gb129, 0, none⟩) (by first | (rw [add_block]; exact hn130_0) | (show (Addr.add _ _).block ≠ _; rw [add_block]; exact hn130_0) | exact hn130_0) (.int .u64 ((rd_T77 t125 (ji7)).f0))).trans hx130_2
                      replace hx130_3 := (cell_far (p := ⟨gb129, 0, none⟩) (by first | (rw [add_block]; exact hn130_0) | (show (Addr.add _ _).block ≠ _; rw [add_block]; exact hn130_0) | exact hn130_0) (.int .u64 ((rd_T77 t125 (ji7)).f0))).trans hx130_3
                      replace hx130_0 := (cell_far (p := ⟨gb129, 1, none⟩) (by first | (rw [add_block]; exact hn130_1) | (show (Addr.add _ _).block ≠ _; rw [add_block]; exact hn130_1) | exact hn130_1) (.int .u64 ((rd_T77 t125 (ji7)).f1))).trans hx130_0
                      replace hx130_1 := (cell_far (p := ⟨gb129, 1, none⟩) (by first | (rw [add_block]; exact hn130_1) | (show (Addr.add _ _).block ≠ _; rw [add_block]; exact hn130_1) | exact hn130_1) (.int .u64 ((rd_T77 t125 (ji7)).f1))).trans hx130_1
                      replace hx130_2 := (cell_far (p := ⟨gb129, 1, none⟩) (by first | (rw [add_block]; exact hn130_1) | (show (Addr.add _ _).block ≠ _; rw [add_block]; exact hn130_1) | exact hn130_1) (.int .u64 ((rd_T77 t125 (ji7)).f1))).trans hx130_2
                      replace hx130_3 := (cell_far (p := ⟨gb129, 1, none⟩) (by first | (rw [add_block]; exact hn130_1) | (show (Addr.add _ _).block ≠ _; rw [add_block]; exact hn130_1) | exact hn130_1) (.int .u64 ((rd_T77 t125 (ji7)).f1))).trans hx130_3
                      replace hx130_0 := (cell_far (p := ⟨gb129, 2, none⟩) (by first | (rw [add_block]; exact hn130_2) | (show (Addr.add _ _).block ≠ _; rw [add_block]; exact hn130_2) | exact hn130_2) (.int .u64 ((rd_T77 t125 (ji7)).f2))).trans hx130_0
                      replace hx130_1 := (cell_far (p := ⟨gb129, 2, none⟩) (by first | (rw [add_block]; exact hn130_2) | (show (Addr.add _ _).block ≠ _; rw [add_block]; exact hn130_2) | exact hn130_2) (.int .u64 ((rd_T77 t125 (ji7)).f2))).trans hx130_1
                      replace hx130_2 := (cell_far (p := ⟨gb129, 2, none⟩) (by first | (rw [add_block]; exact hn130_2) | (show (Addr.add _ _).block ≠ _; rw [add_block]; exact hn130_2) | exact hn130_2) (.int .u64 ((rd_T77 t125 (ji7)).f2))).trans hx130_2
                      replace hx130_3 := (cell_far (p := ⟨gb129, 2, none⟩) (by first | (rw [add_block]; exact hn130_2) | (show (Addr.add _ _).block ≠ _; rw [add_block]; exact hn130_2) | exact hn130_2) (.int .u64 ((rd_T77 t125 (ji7)).f2))).trans hx130_3
                      replace hx130_0 := (cell_far (p := ⟨gb129, 3, none⟩) (by first | (rw [add_block]; exact hn130_3) | (show (Addr.add _ _).block ≠ _; rw [add_block]; exact hn130_3) | exact hn130_3) (.int .u64 ((rd_T77 t125 (ji7)).f3))).trans hx130_0
                      replace hx130_1 := (cell_far (p := ⟨gb129, 3, none⟩) (by first | (rw [add_block]; exact hn130_3) | (show (Addr.add _ _).block ≠ _; rw [add_block]; exact hn130_3) | exact hn130_3) (.int .u64 ((rd_T77 t125 (ji7)).f3))).trans hx130_1
                      replace hx130_2 := (cell_far (p := ⟨gb129, 3, none⟩) (by first | (rw [add_block]; exact hn130_3) | (show (Addr.add _ _).block ≠ _; rw [add_block]; exact hn130_3) | exact hn130_3) (.int .u64 ((rd_T77 t125 (ji7)).f3))).trans hx130_2
                      replace hx130_3 := (cell_far (p := ⟨gb129, 3, none⟩) (by first | (rw [add_block]; exact hn130_3) | (show (Addr.add _ _).block ≠ _; rw [add_block]; exact hn130_3) | exact hn130_3) (.int .u64 ((rd_T77 t125 (ji7)).f3))).trans hx130_3
                      clear hn130_0
                      clear hn130_1
                      clear hn130_2
                      clear hn130_3
                      replace p130 := eq_true p130
                      replace q130 := eq_true q130
                      go_wp2_with (first | (go_at_call 59; (with_reducible refine (marks_rows_ends.calls ((rd_T77 t125 (ji23)).f0) ((rd_T77 t125 (ji23)).f1) ((rd_T77 t125 (ji23)).f2) ((rd_T77 t125 (ji23)).f3) t131 _ A26.out).mono ?_); rintro e w27 ⟨rfl, hb⟩; have n0_ := Aside0.mk (Kd.R_below (by (with_reducible repeat (first | apply Kd.R_alloc | apply Kd.R_drewN | apply Kd.R_drew)); exact (Kd.R_mono (Kd.R_far (p := ⟨gb129, 3, none⟩) (Kd.R_far (p := ⟨gb129, 2, none⟩) (Kd.R_far (p := ⟨gb129, 1, none⟩) (Kd.R_far (p := ⟨gb129, 0, none⟩) (Kd.R_mono HO127.out (fun k_ hk => (⟨hk, hk.2⟩ : _ ∧ k_ ≠ gb129))) (fun _ hk => hk.2) (.int .u64 ((rd_T77 t125 (ji7)).f0))) (fun _ hk => hk.2) (.int .u64 ((rd_T77 t125 (ji7)).f1))) (fun _ hk => hk.2) (.int .u64 ((rd_T77 t125 (ji7)).f2))) (fun _ hk => hk.2) (.int .u64 ((rd_T77 t125 (ji7)).f3))) (fun _ h_ => h_.1))) hb); have n1_ := Aside0.mk (blk_below (g := gb129) (o := .cells #[.int .u64 ((rd_T77 t125 (ji7)).f0), .int .u64 ((rd_T77 t125 (ji7)).f1), .int .u64 ((rd_T77 t125 (ji7)).f2), .int .u64 ((rd_T77 t125 (ji7)).f3)] 77 (0, 0)) (by (with_reducible repeat (first | refine blk_drewN ?_ _ | refine blk_drew ?_ | refine blk_alloc ?_ _)); refine blk_put (cs := #[.int .u64 ((rd_T77 t125 (ji7)).f0), .int .u64 ((rd_T77 t125 (ji7)).f1), .int .u64 ((rd_T77 t125 (ji7)).f2), .int .u64 0]) ?_ 3 _ rfl; (with_reducible repeat (first | refine blk_drewN ?_ _ | refine blk_drew ?_ | refine blk_alloc ?_ _)); refine blk_put (cs := #[.int .u64 ((rd_T77 t125 (ji7)).f0), .int .u64 ((rd_T77 t125 (ji7)).f1), .int .u64 0, .int .u64 0]) ?_ 2 _ rfl; (with_reducible repeat (first | refine blk_drewN ?_ _ | refine blk_drew ?_ | refine blk_alloc ?_ _)); refine blk_put (cs := #[.int .u64 ((rd_T77 t125 (ji7)).f0), .int .u64 0, .int .u64 0, .int .u64 0]) ?_ 1 _ rfl; (with_reducible repeat (first | refine blk_drewN ?_ _ | refine blk_drew ?_ | refine blk_alloc ?_ _)); refine blk_put (cs := #[.int .u64 0, .int .u64 0, .int .u64 0, .int .u64 0]) ?_ 0 _ rfl; (with_reducible repeat (first | refine blk_drewN ?_ _ | refine blk_drew ?_ | refine blk_alloc ?_ _)); exact BK129.out) hb); have n2_ := Aside0.mk (below_step (by repeat (first | (with_reducible first | exact HB.out | apply below_alloc | apply pw_below_drewN | apply below_drew1 | refine below_set ?_ GE129.out) | exact HB.out)) hb); clear HO127; clear BK129; clear HB; have HO127 := n0_; have BK129 := n1_; have HB := n2_; clear n0_ n1_ n2_; (try clear hb); (try clear hb2); (try clear hk); (try clear hi)))
                      go_meet
                      case rel => exact ⟨_, (t131), (by first | rfl | (simp; done) | (simp [*]; done)), H', ⟨by have := HJ2.out; first | omega | exact Nat.le_refl _⟩, ⟨by (with_reducible repeat (first | refine blk_drewN ?_ _ | refine blk_drew ?_ | refine blk_alloc ?_ _)); exact BK129.out⟩, ⟨by repeat (first | (with_reducible first | exact HB.out | apply below_alloc | apply pw_below_drewN | apply below_drew1 | refine below_set ?_ GE129.out) | exact HB.out)⟩⟩
                    · rw [if_neg c25] at H
                      exact absurd H (by simp)
                  · rw [if_neg c24] at H
                    exact absurd H (by simp)
                · rw [if_neg c22] at H
                  have c22b0 : decide (64 ≤ a1) = false := decide_eq_false c22
                  clear c22
                  (first | rw [c22b0] | (simp only [i64_w, i32_w]; rw [c22b0]) | skip)
                  have H' := Aside0.mk H
                  clear H
                  go_wp2
                  go_meet
                  case rel => exact ⟨_, (false), (by first | rfl | (simp; done) | (simp [*]; done)), H', ⟨by have := HJ2.out; first | omega | exact Nat.le_refl _⟩, ⟨by (with_reducible repeat (first | refine blk_drewN ?_ _ | refine blk_drew ?_ | refine blk_alloc ?_ _)); refine blk_put (cs := #[.int .u64 ((rd_T77 t125 (ji7)).f0), .int .u64 ((rd_T77 t125 (ji7)).f1), .int .u64 ((rd_T77 t125 (ji7)).f2), .int .u64 0]) ?_ 3 _ rfl; (with_reducible repeat (first | refine blk_drewN ?_ _ | refine blk_drew ?_ | refine blk_alloc ?_ _)); refine blk_put (cs := #[.int .u64 ((rd_T77 t125 (ji7)).f0), .int .u64 ((rd_T77 t125 (ji7)).f1), .int .u64 0, .int .u64 0]) ?_ 2 _ rfl; (with_reducible repeat (first | refine blk_drewN ?_ _ | refine blk_drew ?_ | refine blk_alloc ?_ _)); refine blk_put (cs := #[.int .u64 ((rd_T77 t125 (ji7)).f0), .int .u64 0, .int .u64 0, .int .u64 0]) ?_ 1 _ rfl; (with_reducible repeat (first | refine blk_drewN ?_ _ | refine blk_drew ?_ | refine blk_alloc ?_ _)); refine blk_put (cs := #[.int .u64 0, .int .u64 0, .int .u64 0, .int .u64 0]) ?_ 0 _ rfl; (with_reducible repeat (first | refine blk_drewN ?_ _ | refine blk_drew ?_ | refine blk_alloc ?_ _)); exact BK129.out⟩, ⟨by repeat (first | (with_reducible first | exact HB.out | apply below_alloc | apply pw_below_drewN | apply below_drew1 | refine below_set ?_ GE129.out) | exact HB.out)⟩⟩
              case rest =>
                clear HC13
                try clear c1
                try clear p1
                try clear q1
                try clear hx1
                try clear c2
                try clear p2
                try clear c4
                try clear c4b0
                try clear c5
                try clear p6
                try clear c8
                try clear c8b0
                try clear c9
                try clear c9b0
                try clear c11
                try clear c11b0
                try clear c11b1
                try clear p12
                try clear q12
                try clear hx12
                try clear p13
                try clear q13
                try clear hx13
                try clear c22
                try clear c22b0
                try clear c24
                try clear c24b0
                try clear c25
                try clear c25b0
                try clear hx128_0
                try clear hx128_1
                try clear hx128_2
                try clear hx128_3
                try clear hx130_0
                try clear hx130_1
                try clear hx130_2
                try clear hx130_3
                try clear p128
                try clear p130
                try clear p2
                try clear q128
                try clear q130
                obtain ⟨kq, x8_12, rfl, HA, HJ12, BK129, HB⟩ := hcut
                cases kq with
                | zero => exact absurd HA.out (by simp [marks_Kind.j1])
                | succ kj12 =>
                  have H := HA.out
                  clear HA
                  simp only [marks_Kind.j1] at H
                  by_cases c28 : (Go.bits .and .u64 (Go.bits .or .u64 ((rd_T77 t125 (ji7)).f0) ((rd_T77 t125 (ji7)).f2)) ji12) = 0
                  · rw [if_pos c28] at H
                    have c28b0 : ((Go.bits .and .u64 (Go.bits .or .u64 ((rd_T77 t125 (ji7)).f0) ((rd_T77 t125 (ji7)).f2)) ji12) == 0) = true := beq_iff_eq.mpr c28
                    have c28b1 : ((Go.bits .and .u64 (Go.bits .or .u64 ((rd_T77 t125 (ji7)).f0) ((rd_T77 t125 (ji7)).f2)) ji12) != 0) = false := bne_eq_false_iff_eq.mpr c28
                    clear c28
                    replace H := Option.bind_eq_some_iff.mp H
                    obtain ⟨t132, A290, H⟩ := H
                    replace H : (if (Go.bits .and .u64 t132 ji12) = 0 then (some 0) else (some 119)) = some r := H
                    have A29 := Aside0.mk A290
                    clear A290
                    by_cases c30 : (Go.bits .and .u64 t132 ji12) = 0
                    · rw [if_pos c30] at H
                      have c30b0 : ((Go.bits .and .u64 t132 ji12) == 0) = true := beq_iff_eq.mpr c30
                      have c30b1 : ((Go.bits .and .u64 t132 ji12) != 0) = false := bne_eq_false_iff_eq.mpr c30
                      clear c30
                      obtain rfl := Option.some.inj H
                      have hcz31_0 : wc.cell? ⟨gb129, 0, none⟩ = some (.int .u64 ((rd_T77 t125 (ji7)).f0)) := (blk_cell BK129.out 0).trans rfl
                      have hcz31_1 : wc.cell? ⟨gb129, 1, none⟩ = some (.int .u64 ((rd_T77 t125 (ji7)).f1)) := (blk_cell BK129.out 1).trans rfl
                      have hcz31_2 : wc.cell? ⟨gb129, 2, none⟩ = some (.int .u64 ((rd_T77 t125 (ji7)).f2)) := (blk_cell BK129.out 2).trans rfl
                      have hcz31_3 : wc.cell? ⟨gb129, 3, none⟩ = some (.int .u64 ((rd_T77 t125 (ji7)).f3)) := (blk_cell BK129.out 3).trans rfl
                      have hfz31_0 := blk_frozen BK129.out 0
                      have hfz31_1 := blk_frozen BK129.out 1
                      have hfz31_2 := blk_frozen BK129.out 2
                      have hfz31_3 := blk_frozen BK129.out 3
                      go_wp2_with (first | ((with_reducible refine gate_callee (f := 60) rfl ?_); refine goesL_ (some 53) rfl rfl Tryd.func60 (by kernel_rfl) rfl #[.agg #[.int .u64 ((rd_T77 t125 (ji7)).f0), .int .u64 ((rd_T77 t125 (ji7)).f1), .int .u64 ((rd_T77 t125 (ji7)).f2), .int .u64 ((rd_T77 t125 (ji7)).f3)], .bool x8_12] rfl (by (try simp only [List.map_toArray, List.map_cons, List.map_nil]); first | done | (simp only [hji7]; rfl) | rfl | (simp only [List.length_drop, List.length_take]; rfl)) ?_; (with_reducible refine (marks_rows_starts.calls ((rd_T77 t125 (ji7)).f0) ((rd_T77 t125 (ji7)).f1) ((rd_T77 t125 (ji7)).f2) ((rd_T77 t125 (ji7)).f3) x8_12 t132 _ A29.out).mono ?_); rintro e w32 ⟨rfl, hb⟩; refine ⟨_, rfl, ?_⟩; have n0_ := Aside0.mk (blk_below (g := gb129) (o := .cells #[.int .u64 ((rd_T77 t125 (ji7)).f0), .int .u64 ((rd_T77 t125 (ji7)).f1), .int .u64 ((rd_T77 t125 (ji7)).f2), .int .u64 ((rd_T77 t125 (ji7)).f3)] 77 (0, 0)) (by (with_reducible repeat (first | refine blk_drewN ?_ _ | refine blk_drew ?_ | refine blk_alloc ?_ _)); exact BK129.out) hb); have n1_ := Aside0.mk (below_step (by repeat (first | (with_reducible first | exact HB.out | apply below_alloc | apply pw_below_drewN | apply below_drew1 | refine below_set ?_ GE129.out) | exact HB.out)) hb); clear BK129; clear HB; have BK129 := n0_; have HB := n1_; clear n0_ n1_; (try clear hb); (try clear hb2); (try clear hk); (try clear hi)))
                      go_ret
                      exact ⟨by first | rfl | (simp [errW_none, errW_some] <;> rfl) | (simp only [← hji7, ← hji10, ← hji12]; first | rfl | (simp [errW_none, errW_some] <;> rfl)) | (simp [*, errW_none, errW_some] <;> rfl), by repeat (first | (with_reducible first | exact HB.out | apply below_alloc | apply pw_below_drewN | apply below_drew1 | refine below_set ?_ GE129.out) | exact HB.out)⟩
                    · rw [if_neg c30] at H
                      have c30b0 : ((Go.bits .and .u64 t132 ji12) == 0) = false := beq_eq_false_iff_ne.mpr c30
                      have c30b1 : ((Go.bits .and .u64 t132 ji12) != 0) = true := bne_iff_ne.mpr c30
                      obtain rfl := Option.some.inj H
                      have hcz33_0 : wc.cell? ⟨gb129, 0, none⟩ = some (.int .u64 ((rd_T77 t125 (ji7)).f0)) := (blk_cell BK129.out 0).trans rfl
                      have hcz33_1 : wc.cell? ⟨gb129, 1, none⟩ = some (.int .u64 ((rd_T77 t125 (ji7)).f1)) := (blk_cell BK129.out 1).trans rfl
                      have hcz33_2 : wc.cell? ⟨gb129, 2, none⟩ = some (.int .u64 ((rd_T77 t125 (ji7)).f2)) := (blk_cell BK129.out 2).trans rfl
                      have hcz33_3 : wc.cell? ⟨gb129, 3, none⟩ = some (.int .u64 ((rd_T77 t125 (ji7)).f3)) := (blk_cell BK129.out 3).trans rfl
                      have hfz33_0 := blk_frozen BK129.out 0
                      have hfz33_1 := blk_frozen BK129.out 1
                      have hfz33_2 := blk_frozen BK129.out 2
                      have hfz33_3 := blk_frozen BK129.out 3
                      go_wp2_with (first | ((with_reducible refine gate_callee (f := 60) rfl ?_); refine goesL_ (some 53) rfl rfl Tryd.func60 (by kernel_rfl) rfl #[.agg #[.int .u64 ((rd_T77 t125 (ji7)).f0), .int .u64 ((rd_T77 t125 (ji7)).f1), .int .u64 ((rd_T77 t125 (ji7)).f2), .int .u64 ((rd_T77 t125 (ji7)).f3)], .bool x8_12] rfl (by (try simp only [List.map_toArray, List.map_cons, List.map_nil]); first | done | (simp only [hji7]; rfl) | rfl | (simp only [List.length_drop, List.length_take]; rfl)) ?_; (with_reducible refine (marks_rows_starts.calls ((rd_T77 t125 (ji7)).f0) ((rd_T77 t125 (ji7)).f1) ((rd_T77 t125 (ji7)).f2) ((rd_T77 t125 (ji7)).f3) x8_12 t132 _ A29.out).mono ?_); rintro e w34 ⟨rfl, hb⟩; refine ⟨_, rfl, ?_⟩; have n0_ := Aside0.mk (blk_below (g := gb129) (o := .cells #[.int .u64 ((rd_T77 t125 (ji7)).f0), .int .u64 ((rd_T77 t125 (ji7)).f1), .int .u64 ((rd_T77 t125 (ji7)).f2), .int .u64 ((rd_T77 t125 (ji7)).f3)] 77 (0, 0)) (by (with_reducible repeat (first | refine blk_drewN ?_ _ | refine blk_drew ?_ | refine blk_alloc ?_ _)); exact BK129.out) hb); have n1_ := Aside0.mk (below_step (by repeat (first | (with_reducible first | exact HB.out | apply below_alloc | apply pw_below_drewN | apply below_drew1 | refine below_set ?_ GE129.out) | exact HB.out)) hb); clear BK129; clear HB; have BK129 := n0_; have HB := n1_; clear n0_ n1_; (try clear hb); (try clear hb2); (try clear hk); (try clear hi)))
                      go_ret
                      exact ⟨by first | rfl | (simp [errW_none, errW_some] <;> rfl) | (simp only [← hji7, ← hji10, ← hji12]; first | rfl | (simp [errW_none, errW_some] <;> rfl)) | (simp [*, errW_none, errW_some] <;> rfl), by repeat (first | (with_reducible first | exact HB.out | apply below_alloc | apply pw_below_drewN | apply below_drew1 | refine below_set ?_ GE129.out) | exact HB.out)⟩
                  · rw [if_neg c28] at H
                    have c28b0 : ((Go.bits .and .u64 (Go.bits .or .u64 ((rd_T77 t125 (ji7)).f0) ((rd_T77 t125 (ji7)).f2)) ji12) == 0) = false := beq_eq_false_iff_ne.mpr c28
                    have c28b1 : ((Go.bits .and .u64 (Go.bits .or .u64 ((rd_T77 t125 (ji7)).f0) ((rd_T77 t125 (ji7)).f2)) ji12) != 0) = true := bne_iff_ne.mpr c28
                    by_cases c35 : 0 ≤ a1
                    · rw [if_pos c35] at H
                      have c35b0 : decide (0 ≤ a1) = true := decide_eq_true c35
                      clear c35
                      by_cases c36 : a1 < (a0.size : Int)
                      · rw [if_pos c36] at H
                        have c36b0 : decide (a1 < (a0.size : Int)) = true := decide_eq_true c36
                        clear c36
                        obtain rfl := Option.some.inj H
                        have hcz38_0 : wc.cell? ⟨gb129, 0, none⟩ = some (.int .u64 ((rd_T77 t125 (ji7)).f0)) := (blk_cell BK129.out 0).trans rfl
                        have hcz38_1 : wc.cell? ⟨gb129, 1, none⟩ = some (.int .u64 ((rd_T77 t125 (ji7)).f1)) := (blk_cell BK129.out 1).trans rfl
                        have hcz38_2 : wc.cell? ⟨gb129, 2, none⟩ = some (.int .u64 ((rd_T77 t125 (ji7)).f2)) := (blk_cell BK129.out 2).trans rfl
                        have hcz38_3 : wc.cell? ⟨gb129, 3, none⟩ = some (.int .u64 ((rd_T77 t125 (ji7)).f3)) := (blk_cell BK129.out 3).trans rfl
                        have hfz38_0 := blk_frozen BK129.out 0
                        have hfz38_1 := blk_frozen BK129.out 1
                        have hfz38_2 := blk_frozen BK129.out 2
                        have hfz38_3 := blk_frozen BK129.out 3
                        have p37 : 0 ≤ (a1 : Int) := of_decide_eq_true (by first | (with_reducible assumption) | assumption)
                        have q37 : a1 < (a0.size : Int) := of_decide_eq_true (by first | (with_reducible assumption) | assumption)
                        have hx37 := bt_at a0 a1
                        replace p37 := eq_true p37
                        replace q37 := eq_true q37
                        go_wp2
                        go_ret
                        exact ⟨by first | rfl | (simp [errW_none, errW_some] <;> rfl) | (simp only [← hji7, ← hji10, ← hji12]; first | rfl | (simp [errW_none, errW_some] <;> rfl)) | (simp [*, errW_none, errW_some] <;> rfl), by repeat (first | (with_reducible first | exact HB.out | apply below_alloc | apply pw_below_drewN | apply below_drew1 | refine below_set ?_ GE129.out) | exact HB.out)⟩
                      · rw [if_neg c36] at H
                        exact absurd H (by simp)
                    · rw [if_neg c35] at H
                      exact absurd H (by simp)
            · rw [if_neg c11] at H
              exact absurd H (by simp)
          · rw [if_neg c9] at H
            exact absurd H (by simp)
        · rw [if_neg c8] at H
          exact absurd H (by simp)

section
open Go.Proofs.YtgddljealeklkaaDoorQ Go.Proofs.YtgddljealeklkaaDoorM
/-- The four variables that Close hands in. -/
structure ClI (s : ByteArray) (a want found : Int) (ga gw gs gf : Nat) (W : World) : Prop where mk ::
  ba : Blk W ga #[.int .i64 a] 3
  bw : Blk W gw #[.int .i64 want] 3
  bs : Blk W gs #[.string s] 9
  bf : Blk W gf #[.int .i64 found] 3
  wf : gw ≠ gf
  aw : ga ≠ gw
  af : ga ≠ gf
theorem ClI.below {s : ByteArray} {a want found : Int} {ga gw gs gf : Nat} {W W' : World} (h : ClI s a want found ga gw gs gf W) (hb : Below W.heap.size W W') : ClI s a want found ga gw gs gf W' :=
  ⟨h.ba.below hb, h.bw.below hb, h.bs.below hb, h.bf.below hb, h.wf, h.aw, h.af⟩
theorem turned_set {X : List Nat} (W : World) {g : Nat} (hg : g ∈ X) (v : Value) : Turned X W (W.setCell ⟨g, 0, none⟩ v) :=
  ⟨rfl, rfl, rfl, by simp, fun k hk hn => Below.heap_setCell W ⟨g, 0, none⟩ v k (fun e => hn (by rw [show k = g from e]; exact hg))⟩
theorem beqT {a b : Int} (h : a = b) : (a == b) = true := by rw [beq_iff_eq]; exact h
theorem beqF {a b : Int} (h : a ≠ b) : (a == b) = false := by rw [beq_eq_false_iff_ne]; exact h
def CloseTold (s : ByteArray) (p d : Nat) (a want : Int) (ga gw gs gf : Nat) (w : World) (e : Ending) (w' : World) : Prop :=
      ∃ b : Bool, e = .returned (.bool b) ∧ Turned [gw, gf] w w' ∧ (b = true → ¬ (a < (p : Int) ∧ (d : Int) = want ∧ closesB (bt s (p : Int)) = true ∧ (p : Int) ≠ a) ∧ ClI s a (if (p : Int) = a then (d : Int) + 1 else want) (-1) ga gw gs gf w') ∧
        (b = false → (a < (p : Int) ∧ (d : Int) = want ∧ closesB (bt s (p : Int)) = true ∧ (p : Int) ≠ a) ∧ ClI s a want (p : Int) ga gw gs gf w')
set_option maxHeartbeats 4000000 in
theorem levels_Close_1.calls (s : ByteArray) (p : Nat) (hp : p < s.size) (hs : s.size ≤ 1048576) (d : Nat) (hd : d ≤ 1048576) (a want : Int) (ga gw gs gf : Nat) (w : World) (I : ClI s a want (-1) ga gw gs gf w) :
    Calls Tryd.prog 75 #[.int .i64 (p : Int), .int .i64 (d : Int), .pointer (some ⟨ga, 0, none⟩), .pointer (some ⟨gw, 0, none⟩), .pointer (some ⟨gs, 0, none⟩), .pointer (some ⟨gf, 0, none⟩)] w (CloseTold s p d a want ga gw gs gf w) := by
  have ca : w.cell? ⟨ga, 0, none⟩ = some (.int .i64 a) := I.ba.cell (i := 0) rfl
  have cw : w.cell? ⟨gw, 0, none⟩ = some (.int .i64 want) := I.bw.cell (i := 0) rfl
  have cs : w.cell? ⟨gs, 0, none⟩ = some (.string s) := I.bs.cell (i := 0) rfl
  have cf : w.cell? ⟨gf, 0, none⟩ = some (.int .i64 (-1)) := I.bf.cell (i := 0) rfl
  have fw := I.bw.frozen 0
  have ff := I.bf.frozen 0
  have HI := Aside0.mk I
  have HSZ := Aside0.mk hs
  have hp0 : (0 : Int) ≤ (p : Int) := by omega
  have hp1 : (p : Int) < (s.size : Int) := by omega
  have hpB : (p : Int) ≤ 17179869184 := by omega
  have hdB : (d : Int) ≤ 17179869184 := by omega
  have hd0 : (0 : Int) ≤ (d : Int) := by omega
  have hq1 : wrap64 ((d : Int) + 1) = (d : Int) + 1 := wrap_succ hdB hd0
  obtain ⟨c, hc⟩ : ∃ c, c = bt s (p : Int) := ⟨_, rfl⟩
  have hbyte : ∀ h : p < s.size, ((s[p]'h).toNat : Int) = c := fun h => by
    rw [hc]
    unfold bt
    rw [Int.toNat_natCast, dif_pos h]
  have HC := Aside0.mk hc
  clear hc I hs hd hdB hd0
  by_cases h1 : (p : Int) = a
  · have t1 : ((p : Int) == a) = true := beqT h1
    have e1 : ∀ v : Value, (w.setCell ⟨gw, 0, none⟩ v).cell? ⟨gf, 0, none⟩ = some (.int .i64 (-1)) := fun v => (HI.out.bf.far (Ne.symm HI.out.wf) 0 v).cell rfl
    have H1 := Aside0.mk h1
    clear h1
    go_enter Tryd.func75, Tryd.ntmps75
    go_wp2
    go_ret
    refine ⟨true, rfl, turned_set w (by simp) _, fun _ => ⟨fun h => h.2.2.2 H1.out, ?_⟩, fun h => by cases h⟩
    rw [if_pos H1.out]
    have J := HI.out
    exact ⟨J.ba.far J.aw 0 _, J.bw.set 0 _, J.bs.far (J.bs.ne J.bw (by decide)) 0 _, J.bf.far (Ne.symm J.wf) 0 _, J.wf, J.aw, J.af⟩
  · have t1 : ((p : Int) == a) = false := beqF h1
    have H1 := Aside0.mk h1
    clear h1
    by_cases h2 : a < (p : Int)
    · by_cases h3 : (d : Int) = want
      · have t3 : ((d : Int) == want) = true := beqT h3
        have H2 := Aside0.mk (And.intro h2 h3)
        have e1 : ∀ v : Value, (w.setCell ⟨gf, 0, none⟩ v).cell? ⟨gf, 0, none⟩ = some v := fun v => (HI.out.bf.set 0 v).cell rfl
        have t2 : decide (a < (p : Int)) = true := decide_eq_true h2
        have t6 : decide ((p : Int) < 0) = false := decide_eq_false (by omega)
        clear h2 h3
        by_cases h4 : c = 125
        · subst h4
          go_enter Tryd.func75, Tryd.ntmps75
          go_wp2
          go_ret
          refine ⟨false, rfl, turned_set w (by simp) _, fun h => (by cases h), fun _ => ⟨⟨H2.out.1, H2.out.2, by rw [← HC.out]; decide, H1.out⟩, ?_⟩⟩
          have J := HI.out
          exact ⟨J.ba.far J.af 0 _, J.bw.far J.wf 0 _, J.bs.far (J.bs.ne J.bf (by decide)) 0 _, J.bf.set 0 _, J.wf, J.aw, J.af⟩
        · have t4 : (c == 125) = false := beqF h4
          clear h4
          by_cases h5 : c = 93
          · subst h5
            go_enter Tryd.func75, Tryd.ntmps75
            go_wp2
            go_ret
            refine ⟨false, rfl, turned_set w (by simp) _, fun h => (by cases h), fun _ => ⟨⟨H2.out.1, H2.out.2, by rw [← HC.out]; decide, H1.out⟩, ?_⟩⟩
            have J := HI.out
            exact ⟨J.ba.far J.af 0 _, J.bw.far J.wf 0 _, J.bs.far (J.bs.ne J.bf (by decide)) 0 _, J.bf.set 0 _, J.wf, J.aw, J.af⟩
          · have t5 : (c == 93) = false := beqF h5
            clear h5
            go_enter Tryd.func75, Tryd.ntmps75
            go_wp2
            go_ret
            refine ⟨true, rfl, Turned.of_below (Below.refl _ _), fun _ => ⟨fun h => ?_, ?_⟩, fun h => by cases h⟩
            · have h6 := h.2.2.1
              rw [← HC.out] at h6
              unfold closesB at h6
              rw [t4, t5] at h6
              cases h6
            · rw [if_neg H1.out]
              exact HI.out
      · have t3 : ((d : Int) == want) = false := beqF h3
        have H3 := Aside0.mk h3
        have t2 : decide (a < (p : Int)) = true := decide_eq_true h2
        clear h2 h3
        go_enter Tryd.func75, Tryd.ntmps75
        go_wp2
        go_ret
        refine ⟨true, rfl, Turned.of_below (Below.refl _ _), fun _ => ⟨fun h => H3.out h.2.1, ?_⟩, fun h => by cases h⟩
        rw [if_neg H1.out]
        exact HI.out
    · have t2 : decide (a < (p : Int)) = false := decide_eq_false h2
      have H2 := Aside0.mk h2
      clear h2
      go_enter Tryd.func75, Tryd.ntmps75
      go_wp2
      go_ret
      refine ⟨true, rfl, Turned.of_below (Below.refl _ _), fun _ => ⟨fun h => by have h7 := H2.out; have h8 := h.1; omega, ?_⟩, fun h => by cases h⟩
      rw [if_neg H1.out]
      exact HI.out
end


section
open Go.Proofs.YtgddljealeklkaaDoorQ Go.Proofs.YtgddljealeklkaaDoorM
def levels_Close.g (a0 : ByteArray) (a1 t : Int) : Option Int := if t = 123 ∨ t = 91 then (if a0.size ≤ 1048576 then some (closeR a0 a1 (placesL a0) (-1)) else none) else some (-1)
def levels_Close.f (k : Nat) (a0 : ByteArray) (a1 : Int) : Option Int := (marks_Kind.f k a0 a1).bind fun t => levels_Close.g a0 a1 t
theorem levels_Close.mono : ∀ a0 a1 k, LeO (levels_Close.f k a0 a1) (levels_Close.f (k + 1) a0 a1) := by
  intro a0 a1 k
  exact LeO.bind (marks_Kind.mono _ _ _) (fun _ => LeO.refl _)
set_option maxHeartbeats 4000000 in
theorem levels_Close.calls (k : Nat) (a0 : ByteArray) (a1 r : Int) (w : World) (hT : TabOk w) (h : levels_Close.f k a0 a1 = some r) :
    Calls Tryd.prog 39 #[.string a0, .int .i64 a1] w fun e w' => e = .returned (.int .i64 r) ∧ Below w.heap.size w w' := by
  unfold levels_Close.f at h
  obtain ⟨t, ht, h⟩ := Option.bind_eq_some_iff.1 h
  have HB := BelowH.refl w
  have HT := Aside0.mk hT
  have HK := Aside0.mk ht
  clear hT ht
  by_cases hk : t = 123 ∨ t = 91
  · unfold levels_Close.g at h
    rw [if_pos hk] at h
    by_cases hs : a0.size ≤ 1048576
    case neg => rw [if_neg hs] at h; cases h
    rw [if_pos hs] at h
    injection h with hr
    have HR := Aside0.mk hr
    have HS := Aside0.mk hs
    have WK : Aside0 (∀ (ga gw gs gf : Nat) (W : World), TabOk W → w.heap.size ≤ gw → w.heap.size ≤ gf → BelowH w W → ClI a0 a1 (-1) (-1) ga gw gs gf W →
        Calls Tryd.prog 64 #[.string a0, .func (.func 75) #[] #[.pointer (some ⟨ga, 0, none⟩), .pointer (some ⟨gw, 0, none⟩), .pointer (some ⟨gs, 0, none⟩), .pointer (some ⟨gf, 0, none⟩)]] W fun e w' => (∃ d : Int, e = .returned (.int .i64 d)) ∧ Blk w' gf #[.int .i64 r] 3 ∧ BelowH w w') := ⟨fun ga gw gs gf W hTW hgw hgf hBW I => by
      have := levels_walk.walk a0 HS.out W hTW 75 #[.pointer (some ⟨ga, 0, none⟩), .pointer (some ⟨gw, 0, none⟩), .pointer (some ⟨gs, 0, none⟩), .pointer (some ⟨gf, 0, none⟩)] [gw, gf]
        (fun i W' => ∃ want, ClI a0 a1 want (-1) ga gw gs gf W' ∧ closeR a0 a1 ((placesL a0).drop i) want = r)
        (fun i p W' => ∃ want, ClI a0 a1 want (p : Int) ga gw gs gf W' ∧ (p : Int) = r)
        (enters_of Tryd.func75 (by kernel_rfl) rfl) (fun k hk => by
          simp only [List.mem_cons, List.not_mem_nil, or_false] at hk
          rcases hk with rfl | rfl
          · exact I.bw.lt
          · exact I.bf.lt) (fun W1 W2 ⟨want, h1, h2⟩ hb => ⟨want, h1.below hb, h2⟩)
        (fun i p W1 hp hB ⟨want, h1, h2⟩ => by
          obtain ⟨hps, hbg, _⟩ := place_at hp
          have hdl := dep_le a0 p
          have hlt := (List.getElem?_eq_some_iff.1 hp).1
          have hdrop : (placesL a0).drop i = p :: (placesL a0).drop (i + 1) := by
            rw [List.drop_eq_getElem_cons hlt]
            congr 1
            exact (List.getElem?_eq_some_iff.1 hp).2
          rw [hdrop, closeR] at h2
          refine (levels_Close_1.calls a0 p hps HS.out (dep a0 p) (by have := HS.out; omega) a1 want ga gw gs gf W1 h1).mono ?_
          rintro e W2 ⟨b, he, hturn, hbt, hbf⟩
          refine ⟨b, he, hturn, fun hb => ⟨_, (hbt hb).2, ?_⟩, fun hb => ⟨want, (hbf hb).2, ?_⟩⟩
          · have hn := (hbt hb).1
            by_cases c : (p : Int) = a1
            · rw [if_pos c] at h2 ⊢
              exact h2
            · rw [if_neg c] at h2 ⊢
              rw [if_neg (fun hc => hn ⟨hc.1, hc.2.1, hc.2.2, c⟩)] at h2
              exact h2
          · have hy := (hbf hb).1
            rw [if_neg hy.2.2.2, if_pos ⟨hy.1, hy.2.1, hy.2.2.1⟩] at h2
            exact h2)
        ⟨-1, I, HR.out⟩
      refine this.mono fun e w' ⟨d, he, ht, hh⟩ => ⟨⟨_, he⟩, ?_, ⟨ht.below (fun k hk => by
        simp only [List.mem_cons, List.not_mem_nil, or_false] at hk
        rcases hk with rfl | rfl
        · exact hgw
        · exact hgf) hBW.le hBW.out⟩⟩
      rcases hh with ⟨_, want, h1, h2⟩ | ⟨i, p, _, _, want, h1, h2⟩
      · rw [List.drop_length, closeR] at h2
        rw [← h2]
        exact h1.bf
      · rw [← h2]
        exact h1.bf⟩
    clear hr hs HR h
    rcases hk with rfl | rfl
    all_goals
      go_enter Tryd.func39, Tryd.ntmps39
      go_wp2_with (first
        | ((with_reducible refine gate_dst (N := 2) rfl ?_); refine ev_alloc HB rfl (#[.string a0]) 9 ?hr ?_; (case hr => first | (go_simp; done) | (go_simp; rfl)); intro g2 w2 G_g2 GE_g2 B_g2 HBn K_g2; clear HB; have HB := HBn; clear HBn)
        | (((with_reducible refine gate_dst (N := 3) rfl ?_); refine ev_alloc HB rfl (#[.int .i64 a1]) 3 ?hr ?_; (case hr => first | (go_simp; done) | (go_simp; rfl)); intro g3 w3 G_g3 GE_g3 B_g3 HBn K_g3; clear HB; have HB := HBn; clear HBn); have c2 : w3.cell? ⟨g2, 0, none⟩ = some (.string a0) := (B_g2.below K_g3.out).cell (i := 0) rfl; have c3 : w3.cell? ⟨g3, 0, none⟩ = some (.int .i64 a1) := B_g3.cell (i := 0) rfl)
        | (go_at_call 22; refine (marks_Kind.calls k a0 a1 _ _ HK.out).mono ?_; rintro e w4 ⟨rfl, hb4⟩; have HBn := HB.step hb4; clear HB; have HB := HBn; clear HBn; have D2 := (B_g2.below K_g3.out).below hb4; have D3 := B_g3.below hb4; clear hb4 c2 c3)
        | ((with_reducible refine gate_dst (N := 6) rfl ?_); refine ev_alloc HB rfl (#[.int .i64 0]) 3 ?hr ?_; (case hr => first | (go_simp; done) | (go_simp; rfl)); intro g6 w6 G_g6 GE_g6 B_g6 HBn K_g6; clear HB; have HB := HBn; clear HBn)
        | ((with_reducible refine gate_dst (N := 7) rfl ?_); refine ev_alloc HB rfl (#[.int .i64 0]) 3 ?hr ?_; (case hr => first | (go_simp; done) | (go_simp; rfl)); intro g7 w7 G_g7 GE_g7 B_g7 HBn K_g7; clear HB; have HB := HBn; clear HBn)
        | ((with_reducible refine gate_ (Op.store 3 (.tmp 6) (.const (.int .i64 (-1)))) rfl ?_); refine ev_store1 (i := 0) HB (B_g6.below K_g7.out) GE_g6 rfl 3 _ _ rfl rfl (.int .i64 (-1)) rfl (by simp) (by kernel_rfl) rfl ?_; intro w8 B8 HBn K_w8; clear HB; have HB := HBn; clear HBn)
        | ((with_reducible refine gate_ (Op.store 3 (.tmp 7) (.const (.int .i64 (-1)))) rfl ?_); refine ev_store1 (i := 0) HB (B_g7.other K_w8 (by have h1 := B_g6.lt; have h2 := G_g7.out; omega)) GE_g7 rfl 3 _ _ rfl rfl (.int .i64 (-1)) rfl (by simp) (by kernel_rfl) rfl ?_; intro w9 B9 HBn K_w9; clear HB; have HB := HBn; clear HBn;
            have n67 : g6 ≠ g7 := (by have h1 := B_g6.lt; have h2 := G_g7.out; omega); have n26 : g2 ≠ g6 := (by have h1 := D2.lt; have h2 := G_g6.out; omega); have n36 : g3 ≠ g6 := (by have h1 := D3.lt; have h2 := G_g6.out; omega);
            have n27 : g2 ≠ g7 := (by have h1 := (D2.below K_g6.out).lt; have h2 := G_g7.out; omega); have n37 : g3 ≠ g7 := (by have h1 := (D3.below K_g6.out).lt; have h2 := G_g7.out; omega);
            have D29 := (((D2.below K_g6.out).below K_g7.out).other K_w8 n26).other K_w9 n27; have D39 := (((D3.below K_g6.out).below K_g7.out).other K_w8 n36).other K_w9 n37; have D69 := B8.other K_w9 n67;
            have I9 : Aside0 (ClI a0 a1 (-1) (-1) g3 g6 g2 g7 w9) := ⟨⟨D39, D69, D29, by simpa using B9, n67, n36, n37⟩⟩; have c2 : w9.cell? ⟨g2, 0, none⟩ = some (.string a0) := D29.cell (i := 0) rfl; clear n67 n26 n36 n27 n37)
        | (go_at_call 64; refine (WK.out g3 g6 g2 g7 w9 (HT.out.stepH HB) GE_g6.out GE_g7.out HB I9.out).mono ?_; rintro e w10 ⟨⟨d, rfl⟩, B10, HB10⟩; have c7 : w10.cell? ⟨g7, 0, none⟩ = some (.int .i64 r) := B10.cell (i := 0) rfl))
      go_ret
      exact ⟨rfl, HB10.out⟩
  · unfold levels_Close.g at h
    rw [if_neg hk] at h
    injection h with h
    subst h
    have t1 : (t != 123) = true := by rw [bne_iff_ne]; exact fun c => hk (.inl c)
    have t2 : (t != 91) = true := by rw [bne_iff_ne]; exact fun c => hk (.inr c)
    clear hk
    go_enter Tryd.func39, Tryd.ntmps39
    go_wp2_with (first
      | ((with_reducible refine gate_dst (N := 2) rfl ?_); refine ev_alloc HB rfl (#[.string a0]) 9 ?hr ?_; (case hr => first | (go_simp; done) | (go_simp; rfl)); intro g2 w2 G_g2 GE_g2 B_g2 HBn K_g2; clear HB; have HB := HBn; clear HBn)
      | (((with_reducible refine gate_dst (N := 3) rfl ?_); refine ev_alloc HB rfl (#[.int .i64 a1]) 3 ?hr ?_; (case hr => first | (go_simp; done) | (go_simp; rfl)); intro g3 w3 G_g3 GE_g3 B_g3 HBn K_g3; clear HB; have HB := HBn; clear HBn); have c2 : w3.cell? ⟨g2, 0, none⟩ = some (.string a0) := (B_g2.below K_g3.out).cell (i := 0) rfl; have c3 : w3.cell? ⟨g3, 0, none⟩ = some (.int .i64 a1) := B_g3.cell (i := 0) rfl)
      | (go_at_call 22; refine (marks_Kind.calls k a0 a1 _ _ HK.out).mono ?_; rintro e w4 ⟨rfl, hb4⟩; have HBn := HB.step hb4; clear HB; have HB := HBn; clear HBn; clear hb4 c2 c3))
    go_ret
    exact ⟨rfl, HB.out⟩
end


def quarrylaw10_awake.j0 : Nat → Bool → List (S34) → List (S34) → Option (Bool)
  | 0, _, _, _ => none
  | k + 1, x32, x141000, x141001 => if x32 = true then (some false) else ((levels_Colons.f x141000 x141001 1 0 99).bind fun t144 => ((quarryref00_SameInts.f k t144 (([4, 15] : List Int))).bind fun t150 => (if t150 = true then ((levels_Commas.f x141000 x141001 2 0 99).bind fun t151 => ((quarryref00_SameInts.f k t151 (([7] : List Int))).bind fun t157 => (some t157))) else (some false))))
def quarrylaw10_awake.f (k : Nat)  : Option (Bool) := (levels_Build.f (⟨#[123, 34, 97, 34, 58, 91, 49, 44, 50, 93, 44, 34, 98, 58, 34, 58, 51, 125]⟩ : ByteArray) 2).bind fun bt133 => (if bt133.2.2 = 0 then (if (bt133.1.length : Int) = 2 then (if (bt133.2.1.length : Int) = 2 then ((levels_Depth.f (⟨#[123, 34, 97, 34, 58, 91, 49, 44, 50, 93, 44, 34, 98, 58, 34, 58, 51, 125]⟩ : ByteArray) 6).bind fun t141 => (if t141 = 2 then ((levels_Close.f k (⟨#[123, 34, 97, 34, 58, 91, 49, 44, 50, 93, 44, 34, 98, 58, 34, 58, 51, 125]⟩ : ByteArray) 5).bind fun t142 => (if t142 = 9 then ((levels_Close.f k (⟨#[123, 34, 97, 34, 58, 91, 49, 44, 50, 93, 44, 34, 98, 58, 34, 58, 51, 125]⟩ : ByteArray) 0).bind fun t143 => (quarrylaw10_awake.j0 k (t143 != 17) bt133.1 bt133.2.1)) else (quarrylaw10_awake.j0 k true bt133.1 bt133.2.1))) else (quarrylaw10_awake.j0 k true bt133.1 bt133.2.1))) else (quarrylaw10_awake.j0 k true bt133.1 bt133.2.1)) else (quarrylaw10_awake.j0 k true bt133.1 bt133.2.1)) else (quarrylaw10_awake.j0 k true bt133.1 bt133.2.1))
theorem quarrylaw10_awake.mono_l : ∀ k, (∀ y0 y1 y2, LeO (quarrylaw10_awake.j0 k y0 y1 y2) (quarrylaw10_awake.j0 (k + 1) y0 y1 y2))
  | 0 => fun _ _ _ r h => by simp [quarrylaw10_awake.j0] at h
  | k + 1 => by
    have ih0 := quarrylaw10_awake.mono_l k
    · intro y0 y1 y2
      unfold quarrylaw10_awake.j0
      repeat' first
      | (with_reducible exact ih0 _ _ _)
      | (with_reducible exact levels_Close.mono _ _ _)
      | (with_reducible exact quarryref00_SameInts.mono _ _ _)
      | (with_reducible exact LeO.refl _)
      | (with_reducible exact LeO.none _)
      | (with_reducible refine LeO.ite ?_ ?_)
      | (with_reducible refine LeO.bind ?_ (fun _ => ?_))
      | exact ih0 _ _ _
      | exact levels_Close.mono _ _ _
      | exact quarryref00_SameInts.mono _ _ _
      | exact LeO.none _
      | refine LeO.ite ?_ ?_
      | refine LeO.bind ?_ (fun _ => ?_)
theorem quarrylaw10_awake.mono : ∀ k, LeO (quarrylaw10_awake.f k ) (quarrylaw10_awake.f (k + 1) ) := by
  intro  k
  have ih0 := quarrylaw10_awake.mono_l k
  unfold quarrylaw10_awake.f
  repeat' first
      | (with_reducible exact ih0 _ _ _)
      | (with_reducible exact levels_Close.mono _ _ _)
      | (with_reducible exact quarryref00_SameInts.mono _ _ _)
      | (with_reducible exact LeO.refl _)
      | (with_reducible exact LeO.none _)
      | (with_reducible refine LeO.ite ?_ ?_)
      | (with_reducible refine LeO.bind ?_ (fun _ => ?_))
      | exact ih0 _ _ _
      | exact levels_Close.mono _ _ _
      | exact quarryref00_SameInts.mono _ _ _
      | exact LeO.none _
      | refine LeO.ite ?_ ?_
      | refine LeO.bind ?_ (fun _ => ?_)
set_option maxHeartbeats 8000000 in
set_option maxRecDepth 100000 in
theorem quarrylaw10_awake.calls (k : Nat)  (r : Bool) (w : World) (hT : TabOk w) (h : quarrylaw10_awake.f k  = some r) :
    Calls Tryd.prog 29 #[] w fun e w' => e = .returned (.bool r) ∧ Below w.heap.size w w' := by
  have TK_ := Aside0.mk hT
  clear hT
  have hu48 := Tryd.underlying48
  have hu26 := Tryd.underlying26
  have HB := Aside0.mk (Below.refl w.heap.size w)
  have H : ((levels_Build.f (⟨#[123, 34, 97, 34, 58, 91, 49, 44, 50, 93, 44, 34, 98, 58, 34, 58, 51, 125]⟩ : ByteArray) 2).bind fun bt133 => (if bt133.2.2 = 0 then (if (bt133.1.length : Int) = 2 then (if (bt133.2.1.length : Int) = 2 then ((levels_Depth.f (⟨#[123, 34, 97, 34, 58, 91, 49, 44, 50, 93, 44, 34, 98, 58, 34, 58, 51, 125]⟩ : ByteArray) 6).bind fun t141 => (if t141 = 2 then ((levels_Close.f k (⟨#[123, 34, 97, 34, 58, 91, 49, 44, 50, 93, 44, 34, 98, 58, 34, 58, 51, 125]⟩ : ByteArray) 5).bind fun t142 => (if t142 = 9 then ((levels_Close.f k (⟨#[123, 34, 97, 34, 58, 91, 49, 44, 50, 93, 44, 34, 98, 58, 34, 58, 51, 125]⟩ : ByteArray) 0).bind fun t143 => (quarrylaw10_awake.j0 k (t143 != 17) bt133.1 bt133.2.1)) else (quarrylaw10_awake.j0 k true bt133.1 bt133.2.1))) else (quarrylaw10_awake.j0 k true bt133.1 bt133.2.1))) else (quarrylaw10_awake.j0 k true bt133.1 bt133.2.1)) else (quarrylaw10_awake.j0 k true bt133.1 bt133.2.1)) else (quarrylaw10_awake.j0 k true bt133.1 bt133.2.1))) = some r := h
  clear h
  replace H := Option.bind_eq_some_iff.mp H
  obtain ⟨⟨t133, t136, t139⟩, A10, H⟩ := H
  replace H : (if t139 = 0 then (if (t133.length : Int) = 2 then (if (t136.length : Int) = 2 then ((levels_Depth.f (⟨#[123, 34, 97, 34, 58, 91, 49, 44, 50, 93, 44, 34, 98, 58, 34, 58, 51, 125]⟩ : ByteArray) 6).bind fun t141 => (if t141 = 2 then ((levels_Close.f k (⟨#[123, 34, 97, 34, 58, 91, 49, 44, 50, 93, 44, 34, 98, 58, 34, 58, 51, 125]⟩ : ByteArray) 5).bind fun t142 => (if t142 = 9 then ((levels_Close.f k (⟨#[123, 34, 97, 34, 58, 91, 49, 44, 50, 93, 44, 34, 98, 58, 34, 58, 51, 125]⟩ : ByteArray) 0).bind fun t143 => (quarrylaw10_awake.j0 k (t143 != 17) t133 t136)) else (quarrylaw10_awake.j0 k true t133 t136))) else (quarrylaw10_awake.j0 k true t133 t136))) else (quarrylaw10_awake.j0 k true t133 t136)) else (quarrylaw10_awake.j0 k true t133 t136)) else (quarrylaw10_awake.j0 k true t133 t136)) = some r := H
  have A1 := Aside0.mk A10
  clear A10
  have HC2 := Aside0.mk H
  clear H
  go_enter Tryd.func29, Tryd.ntmps29
  go_upto_region 2 with (first | ((with_reducible refine gate_callee (f := 28) rfl ?_); refine goesL_ (some 4) rfl rfl Tryd.func28 (by kernel_rfl) rfl #[.string (⟨#[123, 34, 97, 34, 58, 91, 49, 44, 50, 93, 44, 34, 98, 58, 34, 58, 51, 125]⟩ : ByteArray), .int .i64 2] rfl (by (try simp only [List.map_toArray, List.map_cons, List.map_nil]); first | done | rfl | (simp only [List.length_drop, List.length_take]; rfl)) ?_; (with_reducible refine (levels_Build.calls (⟨#[123, 34, 97, 34, 58, 91, 49, 44, 50, 93, 44, 34, 98, 58, 34, 58, 51, 125]⟩ : ByteArray) 2 t133 t136 t139 _ ?tabk A1.out).mono ?_); (case tabk => exact TK_.out.step (by repeat (first | (with_reducible first | exact HB.out | apply below_alloc | apply pw_below_drewN | apply below_drew1) | exact HB.out))); rintro e w3 ⟨v134, v137, rfl, ho0, ho1, hb⟩; refine ⟨_, rfl, ?_⟩; have n0_ := Aside0.mk (Kd.S_lower ho0 (below_size (by repeat (first | (with_reducible first | exact HB.out | apply below_alloc | apply pw_below_drewN | apply below_drew1) | exact HB.out)))); have n1_ := Aside0.mk (Kd.S_lower ho1 (below_size (by repeat (first | (with_reducible first | exact HB.out | apply below_alloc | apply pw_below_drewN | apply below_drew1) | exact HB.out)))); have n2_ := Aside0.mk (below_step (by repeat (first | (with_reducible first | exact HB.out | apply below_alloc | apply pw_below_drewN | apply below_drew1) | exact HB.out)) hb); clear HB; have HO135 := n0_; have HO138 := n1_; have HB := n2_; clear n0_ n1_ n2_; (try clear hb); (try clear hb2); (try clear hk); (try clear hi); (try clear ho0); (try clear ho1)) | ((with_reducible refine gate_dst (N := 1) rfl ?_); (try (refine gate_guard (by rfl) ?_; dsimp only)); refine box_event ?hg (N := 1) ?hd (cs := #[.slice none 0 0, .slice none 0 0]) (t := 48) ?hr ?_; (case hd => rfl); (case hg => rfl); (case hr => first | (go_simp; done) | (go_simp; rfl)); intro gb140 hg w4 hbox hb; have n0_ := Aside0.mk (Kd.S_below (by (with_reducible repeat (first | apply Kd.S_alloc | apply Kd.S_drewN | apply Kd.S_drew)); exact HO135.out) hb); have n1_ := Aside0.mk (Kd.S_below (by (with_reducible repeat (first | apply Kd.S_alloc | apply Kd.S_drewN | apply Kd.S_drew)); exact HO138.out) hb); have n2_ := Aside0.mk (below_step (by repeat (first | (with_reducible first | exact HB.out | apply below_alloc | apply pw_below_drewN | apply below_drew1) | exact HB.out)) hb); have n3_ := Aside0.mk (hbox); have n4_ := Aside0.mk ((by rw [hg]; exact (below_size (by repeat (first | (with_reducible first | exact HB.out | apply below_alloc | apply pw_below_drewN | apply below_drew1) | exact HB.out))) : w.heap.size ≤ gb140)); have n5_ := Aside0.mk ((by rw [hg]; exact (below_size (by repeat (first | (with_reducible first | exact HB.out | apply below_alloc | apply pw_below_drewN | apply below_drew1) | exact HB.out))) : w.heap.size ≤ gb140)); clear HO135; clear HO138; clear HB; have HO135 := n0_; have HO138 := n1_; have HB := n2_; have BK140 := n3_; have GW140 := n4_; have GE140 := n5_; clear n0_ n1_ n2_ n3_ n4_ n5_; clear hb hbox hg; obtain ⟨Ao5, co5, eo5⟩ := Kd.S_slice HO135.out; subst eo5; have hcz6_0 : w4.cell? ⟨gb140, 0, none⟩ = some (.slice none 0 0) := (blk_cell BK140.out 0).trans rfl; have hcz6_1 : w4.cell? ⟨gb140, 1, none⟩ = some (.slice none 0 0) := (blk_cell BK140.out 1).trans rfl; have hfz6_0 := blk_frozen BK140.out 0; have hfz6_1 := blk_frozen BK140.out 1; obtain ⟨Ao7, co7, eo7⟩ := Kd.S_slice HO138.out; subst eo7))
  (try simp only [Act.put, List.setIfInBounds_toArray, List.set_cons_zero, List.set_cons_succ])
  go_cut [32] (fun v32 wc => ∃ (kq : Nat) (x32_1 : Bool), v32 = .bool x32_1 ∧ Aside0 (quarrylaw10_awake.j0 kq x32_1 t133 t136 = some r) ∧ Aside0 (kq ≤ k) ∧ Aside0 (Kd.S k34 34 wc w.heap.size (fun k_ => some k_ ≠ ((.slice Ao7 t136.length co7) : Value).ownBlock) (.slice Ao5 t133.length co5) t133) ∧ Aside0 (Kd.S k34 34 wc w.heap.size (fun k_ => some k_ ≠ ((.slice Ao5 t133.length co5) : Value).ownBlock) (.slice Ao7 t136.length co7) t136) ∧ Aside0 (wc.heap[gb140]? = some (.cells #[(.slice Ao5 t133.length co5), (.slice Ao7 t136.length co7)] 48 (0, 0))) ∧ Aside0 (Below w.heap.size w wc))
  case first =>
    have H := HC2.out
    clear HC2
    by_cases c8 : t139 = 0
    · rw [if_pos c8] at H
      have c8b0 : (t139 == 0) = true := beq_iff_eq.mpr c8
      have c8b1 : (t139 != 0) = false := bne_eq_false_iff_eq.mpr c8
      clear c8
      (first | rw [c8b0] | (simp only [i64_w, i32_w]; rw [c8b0]) | skip)
      by_cases c9 : (t133.length : Int) = 2
      · rw [if_pos c9] at H
        have c9b0 : ((t133.length : Int) == 2) = true := beq_iff_eq.mpr c9
        have c9b1 : ((t133.length : Int) != 2) = false := bne_eq_false_iff_eq.mpr c9
        clear c9
        by_cases c10 : (t136.length : Int) = 2
        · rw [if_pos c10] at H
          have c10b0 : ((t136.length : Int) == 2) = true := beq_iff_eq.mpr c10
          have c10b1 : ((t136.length : Int) != 2) = false := bne_eq_false_iff_eq.mpr c10
          clear c10
          replace H := Option.bind_eq_some_iff.mp H
          obtain ⟨t141, A110, H⟩ := H
          replace H : (if t141 = 2 then ((levels_Close.f k (⟨#[123, 34, 97, 34, 58, 91, 49, 44, 50, 93, 44, 34, 98, 58, 34, 58, 51, 125]⟩ : ByteArray) 5).bind fun t142 => (if t142 = 9 then ((levels_Close.f k (⟨#[123, 34, 97, 34, 58, 91, 49, 44, 50, 93, 44, 34, 98, 58, 34, 58, 51, 125]⟩ : ByteArray) 0).bind fun t143 => (quarrylaw10_awake.j0 k (t143 != 17) t133 t136)) else (quarrylaw10_awake.j0 k true t133 t136))) else (quarrylaw10_awake.j0 k true t133 t136)) = some r := H
          have A11 := Aside0.mk A110
          clear A110
          by_cases c12 : t141 = 2
          · rw [if_pos c12] at H
            have c12b0 : (t141 == 2) = true := beq_iff_eq.mpr c12
            have c12b1 : (t141 != 2) = false := bne_eq_false_iff_eq.mpr c12
            clear c12
            replace H := Option.bind_eq_some_iff.mp H
            obtain ⟨t142, A130, H⟩ := H
            replace H : (if t142 = 9 then ((levels_Close.f k (⟨#[123, 34, 97, 34, 58, 91, 49, 44, 50, 93, 44, 34, 98, 58, 34, 58, 51, 125]⟩ : ByteArray) 0).bind fun t143 => (quarrylaw10_awake.j0 k (t143 != 17) t133 t136)) else (quarrylaw10_awake.j0 k true t133 t136)) = some r := H
            have A13 := Aside0.mk A130
            clear A130
            by_cases c14 : t142 = 9
            · rw [if_pos c14] at H
              have c14b0 : (t142 == 9) = true := beq_iff_eq.mpr c14
              have c14b1 : (t142 != 9) = false := bne_eq_false_iff_eq.mpr c14
              clear c14
              replace H := Option.bind_eq_some_iff.mp H
              obtain ⟨t143, A150, H⟩ := H
              replace H : (quarrylaw10_awake.j0 k (t143 != 17) t133 t136) = some r := H
              have A15 := Aside0.mk A150
              clear A150
              have H' := Aside0.mk H
              clear H
              have hcz16_0 : w4.cell? ⟨gb140, 0, none⟩ = some (.slice none 0 0) := (blk_cell BK140.out 0).trans rfl
              have hcz16_1 : w4.cell? ⟨gb140, 1, none⟩ = some (.slice none 0 0) := (blk_cell BK140.out 1).trans rfl
              have hfz16_0 := blk_frozen BK140.out 0
              have hfz16_1 := blk_frozen BK140.out 1
              have tk0_ : True := trivial
              have tk1_ : True := trivial
              go_wp2_with (first | (go_at_call 37; (with_reducible refine (levels_Depth.calls (⟨#[123, 34, 97, 34, 58, 91, 49, 44, 50, 93, 44, 34, 98, 58, 34, 58, 51, 125]⟩ : ByteArray) 6 t141 _ ?tabk A11.out).mono ?_); (case tabk => exact TK_.out.step (by repeat (first | (with_reducible first | exact HB.out | apply below_alloc | apply pw_below_drewN | apply below_drew1 | refine below_set ?_ GE140.out) | exact HB.out))); rintro e w17 ⟨rfl, hb⟩; have n0_ := Aside0.mk (Kd.S_below (by (with_reducible repeat (first | apply Kd.S_alloc | apply Kd.S_drewN | apply Kd.S_drew)); exact (Kd.S_mono (Kd.S_far (p := ⟨gb140, 1, none⟩) (Kd.S_far (p := ⟨gb140, 0, none⟩) (Kd.S_types HO135.out BK140.out (by decide)) (fun _ hk => hk.2) (.slice Ao5 t133.length co5)) (fun _ hk => hk.2) (.slice Ao7 t136.length co7)) (fun _ h_ => h_.1))) hb); have n1_ := Aside0.mk (Kd.S_below (by (with_reducible repeat (first | apply Kd.S_alloc | apply Kd.S_drewN | apply Kd.S_drew)); exact (Kd.S_mono (Kd.S_far (p := ⟨gb140, 1, none⟩) (Kd.S_far (p := ⟨gb140, 0, none⟩) (Kd.S_types HO138.out BK140.out (by decide)) (fun _ hk => hk.2) (.slice Ao5 t133.length co5)) (fun _ hk => hk.2) (.slice Ao7 t136.length co7)) (fun _ h_ => h_.1))) hb); have n2_ := Aside0.mk (blk_below (g := gb140) (o := .cells #[.slice Ao5 t133.length co5, .slice Ao7 t136.length co7] 48 (0, 0)) (by (with_reducible repeat (first | refine blk_drewN ?_ _ | refine blk_drew ?_ | refine blk_alloc ?_ _)); refine blk_put (cs := #[.slice Ao5 t133.length co5, .slice none 0 0]) ?_ 1 _ rfl; (with_reducible repeat (first | refine blk_drewN ?_ _ | refine blk_drew ?_ | refine blk_alloc ?_ _)); refine blk_put (cs := #[.slice none 0 0, .slice none 0 0]) ?_ 0 _ rfl; (with_reducible repeat (first | refine blk_drewN ?_ _ | refine blk_drew ?_ | refine blk_alloc ?_ _)); exact BK140.out) hb); have n3_ := Aside0.mk (below_step (by repeat (first | (with_reducible first | exact HB.out | apply below_alloc | apply pw_below_drewN | apply below_drew1 | refine below_set ?_ GE140.out) | exact HB.out)) hb); clear HO135; clear HO138; clear BK140; clear HB; have HO135 := n0_; have HO138 := n1_; have BK140 := n2_; have HB := n3_; clear n0_ n1_ n2_ n3_; (try clear hb); (try clear hb2); (try clear hk); (try clear hi)) | (go_at_call 39; replace tk0_ := tk0_; (with_reducible refine (levels_Close.calls k (⟨#[123, 34, 97, 34, 58, 91, 49, 44, 50, 93, 44, 34, 98, 58, 34, 58, 51, 125]⟩ : ByteArray) 5 t142 _ ?tabk A13.out).mono ?_); (case tabk => exact TK_.out.step (by repeat (first | (with_reducible first | exact HB.out | apply below_alloc | apply pw_below_drewN | apply below_drew1 | refine below_set ?_ GE140.out) | exact HB.out))); rintro e w18 ⟨rfl, hb⟩; have n0_ := Aside0.mk (Kd.S_below (by (with_reducible repeat (first | apply Kd.S_alloc | apply Kd.S_drewN | apply Kd.S_drew)); exact HO135.out) hb); have n1_ := Aside0.mk (Kd.S_below (by (with_reducible repeat (first | apply Kd.S_alloc | apply Kd.S_drewN | apply Kd.S_drew)); exact HO138.out) hb); have n2_ := Aside0.mk (blk_below (g := gb140) (o := .cells #[.slice Ao5 t133.length co5, .slice Ao7 t136.length co7] 48 (0, 0)) (by (with_reducible repeat (first | refine blk_drewN ?_ _ | refine blk_drew ?_ | refine blk_alloc ?_ _)); exact BK140.out) hb); have n3_ := Aside0.mk (below_step (by repeat (first | (with_reducible first | exact HB.out | apply below_alloc | apply pw_below_drewN | apply below_drew1 | refine below_set ?_ GE140.out) | exact HB.out)) hb); clear HO135; clear HO138; clear BK140; clear HB; have HO135 := n0_; have HO138 := n1_; have BK140 := n2_; have HB := n3_; clear n0_ n1_ n2_ n3_; (try clear hb); (try clear hb2); (try clear hk); (try clear hi); clear tk0_) | (go_at_call 39; replace tk1_ := tk1_; (with_reducible refine (levels_Close.calls k (⟨#[123, 34, 97, 34, 58, 91, 49, 44, 50, 93, 44, 34, 98, 58, 34, 58, 51, 125]⟩ : ByteArray) 0 t143 _ ?tabk A15.out).mono ?_); (case tabk => exact TK_.out.step (by repeat (first | (with_reducible first | exact HB.out | apply below_alloc | apply pw_below_drewN | apply below_drew1 | refine below_set ?_ GE140.out) | exact HB.out))); rintro e w19 ⟨rfl, hb⟩; have n0_ := Aside0.mk (Kd.S_below (by (with_reducible repeat (first | apply Kd.S_alloc | apply Kd.S_drewN | apply Kd.S_drew)); exact HO135.out) hb); have n1_ := Aside0.mk (Kd.S_below (by (with_reducible repeat (first | apply Kd.S_alloc | apply Kd.S_drewN | apply Kd.S_drew)); exact HO138.out) hb); have n2_ := Aside0.mk (blk_below (g := gb140) (o := .cells #[.slice Ao5 t133.length co5, .slice Ao7 t136.length co7] 48 (0, 0)) (by (with_reducible repeat (first | refine blk_drewN ?_ _ | refine blk_drew ?_ | refine blk_alloc ?_ _)); exact BK140.out) hb); have n3_ := Aside0.mk (below_step (by repeat (first | (with_reducible first | exact HB.out | apply below_alloc | apply pw_below_drewN | apply below_drew1 | refine below_set ?_ GE140.out) | exact HB.out)) hb); clear HO135; clear HO138; clear BK140; clear HB; have HO135 := n0_; have HO138 := n1_; have BK140 := n2_; have HB := n3_; clear n0_ n1_ n2_ n3_; (try clear hb); (try clear hb2); (try clear hk); (try clear hi); clear tk1_))
              go_meet
              case rel => exact ⟨_, ((t143 != 17)), (by first | rfl | (simp; done) | (simp [*]; done)), H', ⟨by first | omega | exact Nat.le_refl _⟩, ⟨by (with_reducible repeat (first | apply Kd.S_alloc | apply Kd.S_drewN | apply Kd.S_drew)); exact HO135.out⟩, ⟨by (with_reducible repeat (first | apply Kd.S_alloc | apply Kd.S_drewN | apply Kd.S_drew)); exact HO138.out⟩, ⟨by (with_reducible repeat (first | refine blk_drewN ?_ _ | refine blk_drew ?_ | refine blk_alloc ?_ _)); exact BK140.out⟩, ⟨by repeat (first | (with_reducible first | exact HB.out | apply below_alloc | apply pw_below_drewN | apply below_drew1 | refine below_set ?_ GE140.out) | exact HB.out)⟩⟩
            · rw [if_neg c14] at H
              have c14b0 : (t142 == 9) = false := beq_eq_false_iff_ne.mpr c14
              have c14b1 : (t142 != 9) = true := bne_iff_ne.mpr c14
              have H' := Aside0.mk H
              clear H
              have hcz20_0 : w4.cell? ⟨gb140, 0, none⟩ = some (.slice none 0 0) := (blk_cell BK140.out 0).trans rfl
              have hcz20_1 : w4.cell? ⟨gb140, 1, none⟩ = some (.slice none 0 0) := (blk_cell BK140.out 1).trans rfl
              have hfz20_0 := blk_frozen BK140.out 0
              have hfz20_1 := blk_frozen BK140.out 1
              go_wp2_with (first | (go_at_call 37; (with_reducible refine (levels_Depth.calls (⟨#[123, 34, 97, 34, 58, 91, 49, 44, 50, 93, 44, 34, 98, 58, 34, 58, 51, 125]⟩ : ByteArray) 6 t141 _ ?tabk A11.out).mono ?_); (case tabk => exact TK_.out.step (by repeat (first | (with_reducible first | exact HB.out | apply below_alloc | apply pw_below_drewN | apply below_drew1 | refine below_set ?_ GE140.out) | exact HB.out))); rintro e w21 ⟨rfl, hb⟩; have n0_ := Aside0.mk (Kd.S_below (by (with_reducible repeat (first | apply Kd.S_alloc | apply Kd.S_drewN | apply Kd.S_drew)); exact (Kd.S_mono (Kd.S_far (p := ⟨gb140, 1, none⟩) (Kd.S_far (p := ⟨gb140, 0, none⟩) (Kd.S_types HO135.out BK140.out (by decide)) (fun _ hk => hk.2) (.slice Ao5 t133.length co5)) (fun _ hk => hk.2) (.slice Ao7 t136.length co7)) (fun _ h_ => h_.1))) hb); have n1_ := Aside0.mk (Kd.S_below (by (with_reducible repeat (first | apply Kd.S_alloc | apply Kd.S_drewN | apply Kd.S_drew)); exact (Kd.S_mono (Kd.S_far (p := ⟨gb140, 1, none⟩) (Kd.S_far (p := ⟨gb140, 0, none⟩) (Kd.S_types HO138.out BK140.out (by decide)) (fun _ hk => hk.2) (.slice Ao5 t133.length co5)) (fun _ hk => hk.2) (.slice Ao7 t136.length co7)) (fun _ h_ => h_.1))) hb); have n2_ := Aside0.mk (blk_below (g := gb140) (o := .cells #[.slice Ao5 t133.length co5, .slice Ao7 t136.length co7] 48 (0, 0)) (by (with_reducible repeat (first | refine blk_drewN ?_ _ | refine blk_drew ?_ | refine blk_alloc ?_ _)); refine blk_put (cs := #[.slice Ao5 t133.length co5, .slice none 0 0]) ?_ 1 _ rfl; (with_reducible repeat (first | refine blk_drewN ?_ _ | refine blk_drew ?_ | refine blk_alloc ?_ _)); refine blk_put (cs := #[.slice none 0 0, .slice none 0 0]) ?_ 0 _ rfl; (with_reducible repeat (first | refine blk_drewN ?_ _ | refine blk_drew ?_ | refine blk_alloc ?_ _)); exact BK140.out) hb); have n3_ := Aside0.mk (below_step (by repeat (first | (with_reducible first | exact HB.out | apply below_alloc | apply pw_below_drewN | apply below_drew1 | refine below_set ?_ GE140.out) | exact HB.out)) hb); clear HO135; clear HO138; clear BK140; clear HB; have HO135 := n0_; have HO138 := n1_; have BK140 := n2_; have HB := n3_; clear n0_ n1_ n2_ n3_; (try clear hb); (try clear hb2); (try clear hk); (try clear hi)) | (go_at_call 39; (with_reducible refine (levels_Close.calls k (⟨#[123, 34, 97, 34, 58, 91, 49, 44, 50, 93, 44, 34, 98, 58, 34, 58, 51, 125]⟩ : ByteArray) 5 t142 _ ?tabk A13.out).mono ?_); (case tabk => exact TK_.out.step (by repeat (first | (with_reducible first | exact HB.out | apply below_alloc | apply pw_below_drewN | apply below_drew1 | refine below_set ?_ GE140.out) | exact HB.out))); rintro e w22 ⟨rfl, hb⟩; have n0_ := Aside0.mk (Kd.S_below (by (with_reducible repeat (first | apply Kd.S_alloc | apply Kd.S_drewN | apply Kd.S_drew)); exact HO135.out) hb); have n1_ := Aside0.mk (Kd.S_below (by (with_reducible repeat (first | apply Kd.S_alloc | apply Kd.S_drewN | apply Kd.S_drew)); exact HO138.out) hb); have n2_ := Aside0.mk (blk_below (g := gb140) (o := .cells #[.slice Ao5 t133.length co5, .slice Ao7 t136.length co7] 48 (0, 0)) (by (with_reducible repeat (first | refine blk_drewN ?_ _ | refine blk_drew ?_ | refine blk_alloc ?_ _)); exact BK140.out) hb); have n3_ := Aside0.mk (below_step (by repeat (first | (with_reducible first | exact HB.out | apply below_alloc | apply pw_below_drewN | apply below_drew1 | refine below_set ?_ GE140.out) | exact HB.out)) hb); clear HO135; clear HO138; clear BK140; clear HB; have HO135 := n0_; have HO138 := n1_; have BK140 := n2_; have HB := n3_; clear n0_ n1_ n2_ n3_; (try clear hb); (try clear hb2); (try clear hk); (try clear hi)))
              go_meet
              case rel => exact ⟨_, (true), (by first | rfl | (simp; done) | (simp [*]; done)), H', ⟨by first | omega | exact Nat.le_refl _⟩, ⟨by (with_reducible repeat (first | apply Kd.S_alloc | apply Kd.S_drewN | apply Kd.S_drew)); exact HO135.out⟩, ⟨by (with_reducible repeat (first | apply Kd.S_alloc | apply Kd.S_drewN | apply Kd.S_drew)); exact HO138.out⟩, ⟨by (with_reducible repeat (first | refine blk_drewN ?_ _ | refine blk_drew ?_ | refine blk_alloc ?_ _)); exact BK140.out⟩, ⟨by repeat (first | (with_reducible first | exact HB.out | apply below_alloc | apply pw_below_drewN | apply below_drew1 | refine below_set ?_ GE140.out) | exact HB.out)⟩⟩
          · rw [if_neg c12] at H
            have c12b0 : (t141 == 2) = false := beq_eq_false_iff_ne.mpr c12
            have c12b1 : (t141 != 2) = true := bne_iff_ne.mpr c12
            have H' := Aside0.mk H
            clear H
            have hcz23_0 : w4.cell? ⟨gb140, 0, none⟩ = some (.slice none 0 0) := (blk_cell BK140.out 0).trans rfl
            have hcz23_1 : w4.cell? ⟨gb140, 1, none⟩ = some (.slice none 0 0) := (blk_cell BK140.out 1).trans rfl
            have hfz23_0 := blk_frozen BK140.out 0
            have hfz23_1 := blk_frozen BK140.out 1
            go_wp2_with (first | (go_at_call 37; (with_reducible refine (levels_Depth.calls (⟨#[123, 34, 97, 34, 58, 91, 49, 44, 50, 93, 44, 34, 98, 58, 34, 58, 51, 125]⟩ : ByteArray) 6 t141 _ ?tabk A11.out).mono ?_); (case tabk => exact TK_.out.step (by repeat (first | (with_reducible first | exact HB.out | apply below_alloc | apply pw_below_drewN | apply below_drew1 | refine below_set ?_ GE140.out) | exact HB.out))); rintro e w24 ⟨rfl, hb⟩; have n0_ := Aside0.mk (Kd.S_below (by (with_reducible repeat (first | apply Kd.S_alloc | apply Kd.S_drewN | apply Kd.S_drew)); exact (Kd.S_mono (Kd.S_far (p := ⟨gb140, 1, none⟩) (Kd.S_far (p := ⟨gb140, 0, none⟩) (Kd.S_types HO135.out BK140.out (by decide)) (fun _ hk => hk.2) (.slice Ao5 t133.length co5)) (fun _ hk => hk.2) (.slice Ao7 t136.length co7)) (fun _ h_ => h_.1))) hb); have n1_ := Aside0.mk (Kd.S_below (by (with_reducible repeat (first | apply Kd.S_alloc | apply Kd.S_drewN | apply Kd.S_drew)); exact (Kd.S_mono (Kd.S_far (p := ⟨gb140, 1, none⟩) (Kd.S_far (p := ⟨gb140, 0, none⟩) (Kd.S_types HO138.out BK140.out (by decide)) (fun _ hk => hk.2) (.slice Ao5 t133.length co5)) (fun _ hk => hk.2) (.slice Ao7 t136.length co7)) (fun _ h_ => h_.1))) hb); have n2_ := Aside0.mk (blk_below (g := gb140) (o := .cells #[.slice Ao5 t133.length co5, .slice Ao7 t136.length co7] 48 (0, 0)) (by (with_reducible repeat (first | refine blk_drewN ?_ _ | refine blk_drew ?_ | refine blk_alloc ?_ _)); refine blk_put (cs := #[.slice Ao5 t133.length co5, .slice none 0 0]) ?_ 1 _ rfl; (with_reducible repeat (first | refine blk_drewN ?_ _ | refine blk_drew ?_ | refine blk_alloc ?_ _)); refine blk_put (cs := #[.slice none 0 0, .slice none 0 0]) ?_ 0 _ rfl; (with_reducible repeat (first | refine blk_drewN ?_ _ | refine blk_drew ?_ | refine blk_alloc ?_ _)); exact BK140.out) hb); have n3_ := Aside0.mk (below_step (by repeat (first | (with_reducible first | exact HB.out | apply below_alloc | apply pw_below_drewN | apply below_drew1 | refine below_set ?_ GE140.out) | exact HB.out)) hb); clear HO135; clear HO138; clear BK140; clear HB; have HO135 := n0_; have HO138 := n1_; have BK140 := n2_; have HB := n3_; clear n0_ n1_ n2_ n3_; (try clear hb); (try clear hb2); (try clear hk); (try clear hi)))
            go_meet
            case rel => exact ⟨_, (true), (by first | rfl | (simp; done) | (simp [*]; done)), H', ⟨by first | omega | exact Nat.le_refl _⟩, ⟨by (with_reducible repeat (first | apply Kd.S_alloc | apply Kd.S_drewN | apply Kd.S_drew)); exact HO135.out⟩, ⟨by (with_reducible repeat (first | apply Kd.S_alloc | apply Kd.S_drewN | apply Kd.S_drew)); exact HO138.out⟩, ⟨by (with_reducible repeat (first | refine blk_drewN ?_ _ | refine blk_drew ?_ | refine blk_alloc ?_ _)); exact BK140.out⟩, ⟨by repeat (first | (with_reducible first | exact HB.out | apply below_alloc | apply pw_below_drewN | apply below_drew1 | refine below_set ?_ GE140.out) | exact HB.out)⟩⟩
        · rw [if_neg c10] at H
          have c10b0 : ((t136.length : Int) == 2) = false := beq_eq_false_iff_ne.mpr c10
          have c10b1 : ((t136.length : Int) != 2) = true := bne_iff_ne.mpr c10
          have H' := Aside0.mk H
          clear H
          have hcz25_0 : w4.cell? ⟨gb140, 0, none⟩ = some (.slice none 0 0) := (blk_cell BK140.out 0).trans rfl
          have hcz25_1 : w4.cell? ⟨gb140, 1, none⟩ = some (.slice none 0 0) := (blk_cell BK140.out 1).trans rfl
          have hfz25_0 := blk_frozen BK140.out 0
          have hfz25_1 := blk_frozen BK140.out 1
          go_wp2
          go_meet
          case rel => exact ⟨_, (true), (by first | rfl | (simp; done) | (simp [*]; done)), H', ⟨by first | omega | exact Nat.le_refl _⟩, ⟨by (with_reducible repeat (first | apply Kd.S_alloc | apply Kd.S_drewN | apply Kd.S_drew)); exact Kd.S_mono (Kd.S_far (p := ⟨gb140, 1, none⟩) (Kd.S_far (p := ⟨gb140, 0, none⟩) (Kd.S_types HO135.out BK140.out (by decide)) (fun _ hk => hk.2) (.slice Ao5 t133.length co5)) (fun _ hk => hk.2) (.slice Ao7 t136.length co7)) (fun _ hk => hk.1)⟩, ⟨by (with_reducible repeat (first | apply Kd.S_alloc | apply Kd.S_drewN | apply Kd.S_drew)); exact Kd.S_mono (Kd.S_far (p := ⟨gb140, 1, none⟩) (Kd.S_far (p := ⟨gb140, 0, none⟩) (Kd.S_types HO138.out BK140.out (by decide)) (fun _ hk => hk.2) (.slice Ao5 t133.length co5)) (fun _ hk => hk.2) (.slice Ao7 t136.length co7)) (fun _ hk => hk.1)⟩, ⟨by (with_reducible repeat (first | refine blk_drewN ?_ _ | refine blk_drew ?_ | refine blk_alloc ?_ _)); refine blk_put (cs := #[.slice Ao5 t133.length co5, .slice none 0 0]) ?_ 1 _ rfl; (with_reducible repeat (first | refine blk_drewN ?_ _ | refine blk_drew ?_ | refine blk_alloc ?_ _)); refine blk_put (cs := #[.slice none 0 0, .slice none 0 0]) ?_ 0 _ rfl; (with_reducible repeat (first | refine blk_drewN ?_ _ | refine blk_drew ?_ | refine blk_alloc ?_ _)); exact BK140.out⟩, ⟨by repeat (first | (with_reducible first | exact HB.out | apply below_alloc | apply pw_below_drewN | apply below_drew1 | refine below_set ?_ GE140.out) | exact HB.out)⟩⟩
      · rw [if_neg c9] at H
        have c9b0 : ((t133.length : Int) == 2) = false := beq_eq_false_iff_ne.mpr c9
        have c9b1 : ((t133.length : Int) != 2) = true := bne_iff_ne.mpr c9
        have H' := Aside0.mk H
        clear H
        have hcz26_0 : w4.cell? ⟨gb140, 0, none⟩ = some (.slice none 0 0) := (blk_cell BK140.out 0).trans rfl
        have hcz26_1 : w4.cell? ⟨gb140, 1, none⟩ = some (.slice none 0 0) := (blk_cell BK140.out 1).trans rfl
        have hfz26_0 := blk_frozen BK140.out 0
        have hfz26_1 := blk_frozen BK140.out 1
        go_wp2
        go_meet
        case rel => exact ⟨_, (true), (by first | rfl | (simp; done) | (simp [*]; done)), H', ⟨by first | omega | exact Nat.le_refl _⟩, ⟨by (with_reducible repeat (first | apply Kd.S_alloc | apply Kd.S_drewN | apply Kd.S_drew)); exact Kd.S_mono (Kd.S_far (p := ⟨gb140, 1, none⟩) (Kd.S_far (p := ⟨gb140, 0, none⟩) (Kd.S_types HO135.out BK140.out (by decide)) (fun _ hk => hk.2) (.slice Ao5 t133.length co5)) (fun _ hk => hk.2) (.slice Ao7 t136.length co7)) (fun _ hk => hk.1)⟩, ⟨by (with_reducible repeat (first | apply Kd.S_alloc | apply Kd.S_drewN | apply Kd.S_drew)); exact Kd.S_mono (Kd.S_far (p := ⟨gb140, 1, none⟩) (Kd.S_far (p := ⟨gb140, 0, none⟩) (Kd.S_types HO138.out BK140.out (by decide)) (fun _ hk => hk.2) (.slice Ao5 t133.length co5)) (fun _ hk => hk.2) (.slice Ao7 t136.length co7)) (fun _ hk => hk.1)⟩, ⟨by (with_reducible repeat (first | refine blk_drewN ?_ _ | refine blk_drew ?_ | refine blk_alloc ?_ _)); refine blk_put (cs := #[.slice Ao5 t133.length co5, .slice none 0 0]) ?_ 1 _ rfl; (with_reducible repeat (first | refine blk_drewN ?_ _ | refine blk_drew ?_ | refine blk_alloc ?_ _)); refine blk_put (cs := #[.slice none 0 0, .slice none 0 0]) ?_ 0 _ rfl; (with_reducible repeat (first | refine blk_drewN ?_ _ | refine blk_drew ?_ | refine blk_alloc ?_ _)); exact BK140.out⟩, ⟨by repeat (first | (with_reducible first | exact HB.out | apply below_alloc | apply pw_below_drewN | apply below_drew1 | refine below_set ?_ GE140.out) | exact HB.out)⟩⟩
    · rw [if_neg c8] at H
      have c8b0 : (t139 == 0) = false := beq_eq_false_iff_ne.mpr c8
      have c8b1 : (t139 != 0) = true := bne_iff_ne.mpr c8
      (first | rw [c8b0] | (simp only [i64_w, i32_w]; rw [c8b0]) | skip)
      have H' := Aside0.mk H
      clear H
      go_wp2
      go_meet
      case rel => exact ⟨_, (true), (by first | rfl | (simp; done) | (simp [*]; done)), H', ⟨by first | omega | exact Nat.le_refl _⟩, ⟨by (with_reducible repeat (first | apply Kd.S_alloc | apply Kd.S_drewN | apply Kd.S_drew)); exact Kd.S_mono (Kd.S_far (p := ⟨gb140, 1, none⟩) (Kd.S_far (p := ⟨gb140, 0, none⟩) (Kd.S_types HO135.out BK140.out (by decide)) (fun _ hk => hk.2) (.slice Ao5 t133.length co5)) (fun _ hk => hk.2) (.slice Ao7 t136.length co7)) (fun _ hk => hk.1)⟩, ⟨by (with_reducible repeat (first | apply Kd.S_alloc | apply Kd.S_drewN | apply Kd.S_drew)); exact Kd.S_mono (Kd.S_far (p := ⟨gb140, 1, none⟩) (Kd.S_far (p := ⟨gb140, 0, none⟩) (Kd.S_types HO138.out BK140.out (by decide)) (fun _ hk => hk.2) (.slice Ao5 t133.length co5)) (fun _ hk => hk.2) (.slice Ao7 t136.length co7)) (fun _ hk => hk.1)⟩, ⟨by (with_reducible repeat (first | refine blk_drewN ?_ _ | refine blk_drew ?_ | refine blk_alloc ?_ _)); refine blk_put (cs := #[.slice Ao5 t133.length co5, .slice none 0 0]) ?_ 1 _ rfl; (with_reducible repeat (first | refine blk_drewN ?_ _ | refine blk_drew ?_ | refine blk_alloc ?_ _)); refine blk_put (cs := #[.slice none 0 0, .slice none 0 0]) ?_ 0 _ rfl; (with_reducible repeat (first | refine blk_drewN ?_ _ | refine blk_drew ?_ | refine blk_alloc ?_ _)); exact BK140.out⟩, ⟨by repeat (first | (with_reducible first | exact HB.out | apply below_alloc | apply pw_below_drewN | apply below_drew1 | refine below_set ?_ GE140.out) | exact HB.out)⟩⟩
  case rest =>
    clear HC2
    try clear c1
    try clear c2
    try clear p2
    try clear c8
    try clear c8b0
    try clear c8b1
    try clear c9
    try clear c9b0
    try clear c9b1
    try clear c10
    try clear c10b0
    try clear c10b1
    try clear c12
    try clear c12b0
    try clear c12b1
    try clear c14
    try clear c14b0
    try clear c14b1
    try clear hcz16_0
    try clear hcz16_1
    try clear hcz20_0
    try clear hcz20_1
    try clear hcz23_0
    try clear hcz23_1
    try clear hcz25_0
    try clear hcz25_1
    try clear hcz26_0
    try clear hcz26_1
    try clear hcz6_0
    try clear hcz6_1
    try clear hfz16_0
    try clear hfz16_1
    try clear hfz20_0
    try clear hfz20_1
    try clear hfz23_0
    try clear hfz23_1
    try clear hfz25_0
    try clear hfz25_1
    try clear hfz26_0
    try clear hfz26_1
    try clear hfz6_0
    try clear hfz6_1
    obtain ⟨kq, x32_1, rfl, HA, HJ1, HO_141000, HO_141001, BK140, HB⟩ := hcut
    cases kq with
    | zero => exact absurd HA.out (by simp [quarrylaw10_awake.j0])
    | succ kj1 =>
      have H := HA.out
      clear HA
      simp only [quarrylaw10_awake.j0] at H
      by_cases c27 : x32_1 = true
      · subst c27
        have H1 : (some false) = some r := by rw [if_pos rfl] at H; exact H
        clear H
        have H := H1
        clear H1
        obtain rfl := Option.some.inj H
        go_wp2
        go_ret
        exact ⟨by first | rfl | (simp [errW_none, errW_some] <;> rfl) | (simp [*, errW_none, errW_some] <;> rfl), by repeat (first | (with_reducible first | exact HB.out | apply below_alloc | apply pw_below_drewN | apply below_drew1 | refine below_set ?_ GE140.out) | exact HB.out)⟩
      · replace c27 := Bool.eq_false_iff.mpr c27
        subst c27
        have H1 : ((levels_Colons.f t133 t136 1 0 99).bind fun t144 => ((quarryref00_SameInts.f kj1 t144 (([4, 15] : List Int))).bind fun t150 => (if t150 = true then ((levels_Commas.f t133 t136 2 0 99).bind fun t151 => ((quarryref00_SameInts.f kj1 t151 (([7] : List Int))).bind fun t157 => (some t157))) else (some false)))) = some r := by rw [if_neg (show ¬ (false = true) by decide)] at H; exact H
        clear H
        have H := H1
        clear H1
        replace H := Option.bind_eq_some_iff.mp H
        obtain ⟨t144, A280, H⟩ := H
        replace H : ((quarryref00_SameInts.f kj1 t144 (([4, 15] : List Int))).bind fun t150 => (if t150 = true then ((levels_Commas.f t133 t136 2 0 99).bind fun t151 => ((quarryref00_SameInts.f kj1 t151 (([7] : List Int))).bind fun t157 => (some t157))) else (some false))) = some r := H
        have A28 := Aside0.mk A280
        clear A280
        obtain ⟨y147, hy147⟩ : ∃ y_ : List Int, y_ = (([4, 15] : List Int)) := ⟨_, rfl⟩
        replace H : ((quarryref00_SameInts.f kj1 t144 y147).bind fun t150 => (if t150 = true then ((levels_Commas.f t133 t136 2 0 99).bind fun t151 => ((quarryref00_SameInts.f kj1 t151 (([7] : List Int))).bind fun t157 => (some t157))) else (some false))) = some r := by first | (rw [hy147]; with_reducible exact H) | (have H2_ := (Option.bind_some _ _).symm.trans H; rw [hy147]; with_reducible exact H2_) | (have H2_ := (Option.bind_some _ _).symm.trans H; with_reducible exact H2_) | with_reducible exact H | (rw [hy147]; exact H) | exact H
        have Ny147 := Aside0.mk hy147
        clear hy147
        replace H := Option.bind_eq_some_iff.mp H
        obtain ⟨t150, A290, H⟩ := H
        replace H : (if t150 = true then ((levels_Commas.f t133 t136 2 0 99).bind fun t151 => ((quarryref00_SameInts.f kj1 t151 (([7] : List Int))).bind fun t157 => (some t157))) else (some false)) = some r := H
        have A29 := Aside0.mk A290
        clear A290
        by_cases c30 : t150 = true
        · subst c30
          have H1 : ((levels_Commas.f t133 t136 2 0 99).bind fun t151 => ((quarryref00_SameInts.f kj1 t151 (([7] : List Int))).bind fun t157 => (some t157))) = some r := by rw [if_pos rfl] at H; exact H
          clear H
          have H := H1
          clear H1
          replace H := Option.bind_eq_some_iff.mp H
          obtain ⟨t151, A310, H⟩ := H
          replace H : ((quarryref00_SameInts.f kj1 t151 (([7] : List Int))).bind fun t157 => (some t157)) = some r := H
          have A31 := Aside0.mk A310
          clear A310
          obtain ⟨y154, hy154⟩ : ∃ y_ : List Int, y_ = (([7] : List Int)) := ⟨_, rfl⟩
          replace H : ((quarryref00_SameInts.f kj1 t151 y154).bind fun t157 => (some t157)) = some r := by first | (rw [hy154]; with_reducible exact H) | (have H2_ := (Option.bind_some _ _).symm.trans H; rw [hy154]; with_reducible exact H2_) | (have H2_ := (Option.bind_some _ _).symm.trans H; with_reducible exact H2_) | with_reducible exact H | (rw [hy154]; exact H) | exact H
          have Ny154 := Aside0.mk hy154
          clear hy154
          replace H := Option.bind_eq_some_iff.mp H
          obtain ⟨t157, A320, H⟩ := H
          replace H : (some t157) = some r := H
          have A32 := Aside0.mk A320
          clear A320
          obtain rfl := Option.some.inj H
          have hcz33_0 : wc.cell? ⟨gb140, 0, none⟩ = some (.slice Ao5 t133.length co5) := (blk_cell BK140.out 0).trans rfl
          have hcz33_1 : wc.cell? ⟨gb140, 1, none⟩ = some (.slice Ao7 t136.length co7) := (blk_cell BK140.out 1).trans rfl
          have hfz33_0 := blk_frozen BK140.out 0
          have hfz33_1 := blk_frozen BK140.out 1
          go_wp2_with (first | ((with_reducible refine gate_callee (f := 33) rfl ?_); refine goesL_ (some 35) rfl rfl Tryd.func33 (by kernel_rfl) rfl #[.agg #[.slice Ao5 t133.length co5, .slice Ao7 t136.length co7], .int .i64 1, .agg #[.int .i64 0, .int .i64 99]] rfl (by (try simp only [List.map_toArray, List.map_cons, List.map_nil]); first | done | rfl | (simp only [List.length_drop, List.length_take]; rfl)) ?_; (with_reducible refine (levels_Colons.calls _ _ t133 _ _ t136 1 0 99 t144 _ ?tabk ?side1 ?side2 ?side3 ?side4 A28.out).mono ?_); (case tabk => exact TK_.out.step (by repeat (first | (with_reducible first | exact HB.out | apply below_alloc | apply pw_below_drewN | apply below_drew1 | refine below_set ?_ GE140.out) | exact HB.out))); (case side1 => repeat (first | exact (Kd.S_reads' HO_141000.out).2.2 | (with_reducible refine Kd.C_alloc ?_ _) | (with_reducible refine Kd.C_drewN ?_ _) | (with_reducible refine Kd.C_drew ?_))); (case side2 => exact (Kd.S_reads' HO_141000.out).2.1); (case side3 => repeat (first | exact (Kd.S_reads' HO_141001.out).2.2 | (with_reducible refine Kd.C_alloc ?_ _) | (with_reducible refine Kd.C_drewN ?_ _) | (with_reducible refine Kd.C_drew ?_))); (case side4 => exact (Kd.S_reads' HO_141001.out).2.1); rintro e w34 ⟨v145, rfl, ho0, hb⟩; refine ⟨_, rfl, ?_⟩; have n0_ := Aside0.mk (Kd.S_below (by (with_reducible repeat (first | apply Kd.S_alloc | apply Kd.S_drewN | apply Kd.S_drew)); exact HO_141000.out) hb); have n1_ := Aside0.mk (Kd.S_below (by (with_reducible repeat (first | apply Kd.S_alloc | apply Kd.S_drewN | apply Kd.S_drew)); exact HO_141001.out) hb); have n2_ := Aside0.mk (Kd.R_lower ho0 (below_size (by repeat (first | (with_reducible first | exact HB.out | apply below_alloc | apply pw_below_drewN | apply below_drew1 | refine below_set ?_ GE140.out) | exact HB.out)))); have n3_ := Aside0.mk (blk_below (g := gb140) (o := .cells #[.slice Ao5 t133.length co5, .slice Ao7 t136.length co7] 48 (0, 0)) (by (with_reducible repeat (first | refine blk_drewN ?_ _ | refine blk_drew ?_ | refine blk_alloc ?_ _)); exact BK140.out) hb); have n4_ := Aside0.mk (below_step (by repeat (first | (with_reducible first | exact HB.out | apply below_alloc | apply pw_below_drewN | apply below_drew1 | refine below_set ?_ GE140.out) | exact HB.out)) hb); clear HO_141000; clear HO_141001; clear BK140; clear HB; have HO_141000 := n0_; have HO_141001 := n1_; have HO146 := n2_; have BK140 := n3_; have HB := n4_; clear n0_ n1_ n2_ n3_ n4_; (try clear hb); (try clear hb2); (try clear hk); (try clear hi); (try clear ho0)) | ((with_reducible refine gate_dst (N := 36) rfl ?_); (try (refine gate_guard (by rfl) ?_; dsimp only)); refine Kd.R_lit (Kd.int .i64) _ 3 ?hg (N := 36) ?hd (xs := ([4, 15] : List Int)) (inner := [.int .i64 4, .int .i64 15]) (ok := fun _ => True) (okp := fun _ => True) ?hr ?hp (fun _ hk => hk) trivial (Below.refl _ _) (Nat.le_refl _) (by simp) ?_; (case hd => rfl); (case hg => rfl); (case hr => first | (go_simp; done) | (go_simp; rfl)); (case hp => exact (Reps.one (show Kd.M (Kd.int .i64) _ _ _ 4 [.int .i64 4] from rfl) (Reps.one (show Kd.M (Kd.int .i64) _ _ _ 15 [.int .i64 15] from rfl) (Reps.none _ _)))); intro v148 w35 ho36 hb hg_ hnew_; clear hg_ hnew_; (first | rw [← Ny147.out] at ho36 | (simp only [Int.reduceToNat] at ho36; rw [← Ny147.out] at ho36)); have n0_ := Aside0.mk (Kd.S_below (by (with_reducible repeat (first | apply Kd.S_alloc | apply Kd.S_drewN | apply Kd.S_drew)); exact HO_141000.out) hb); have n1_ := Aside0.mk (Kd.S_below (by (with_reducible repeat (first | apply Kd.S_alloc | apply Kd.S_drewN | apply Kd.S_drew)); exact HO_141001.out) hb); have n2_ := Aside0.mk (Kd.R_elder' (by (with_reducible repeat (first | apply Kd.R_alloc | apply Kd.R_drewN | apply Kd.R_drew)); exact HO146.out) (Kd.R_base ho36) hb); have n3_ := Aside0.mk (Kd.R_lower (Kd.R_new' ho36 (Kd.R_lt (by (with_reducible repeat (first | apply Kd.R_alloc | apply Kd.R_drewN | apply Kd.R_drew)); exact HO146.out))) (below_size (by repeat (first | (with_reducible first | exact HB.out | apply below_alloc | apply pw_below_drewN | apply below_drew1 | refine below_set ?_ GE140.out) | exact HB.out)))); have n4_ := Aside0.mk (blk_below (g := gb140) (o := .cells #[.slice Ao5 t133.length co5, .slice Ao7 t136.length co7] 48 (0, 0)) (by (with_reducible repeat (first | refine blk_drewN ?_ _ | refine blk_drew ?_ | refine blk_alloc ?_ _)); exact BK140.out) hb); have n5_ := Aside0.mk (below_step (by repeat (first | (with_reducible first | exact HB.out | apply below_alloc | apply pw_below_drewN | apply below_drew1 | refine below_set ?_ GE140.out) | exact HB.out)) hb); clear HO_141000; clear HO_141001; clear HO146; clear BK140; clear HB; have HO_141000 := n0_; have HO_141001 := n1_; have HO146 := n2_; have HO149 := n3_; have BK140 := n4_; have HB := n5_; clear n0_ n1_ n2_ n3_ n4_ n5_; clear hb ho36; obtain ⟨Ao37, co37, eo37⟩ := Kd.R_slice HO146.out; subst eo37; obtain ⟨Ao38, co38, eo38⟩ := Kd.R_slice HO149.out; subst eo38) | ((with_reducible refine gate_callee (f := 25) rfl ?_); refine goesL_ (some 37) rfl rfl Tryd.func25 (by kernel_rfl) rfl #[.slice Ao37 t144.length co37, .slice Ao38 y147.length co38] rfl (by (try simp only [List.map_toArray, List.map_cons, List.map_nil]); first | done | rfl | (simp only [List.length_drop, List.length_take]; rfl)) ?_; (with_reducible refine (quarryref00_SameInts.calls kj1 _ _ t144 _ _ y147 true _ ?side1 ?side2 ?side3 ?side4 A29.out).mono ?_); (case side1 => repeat (first | exact (Kd.R_reads' HO146.out).2.2 | (with_reducible refine Kd.C_alloc ?_ _) | (with_reducible refine Kd.C_drewN ?_ _) | (with_reducible refine Kd.C_drew ?_))); (case side2 => exact (Kd.R_reads' HO146.out).2.1); (case side3 => repeat (first | exact (Kd.R_reads' HO149.out).2.2 | (with_reducible refine Kd.C_alloc ?_ _) | (with_reducible refine Kd.C_drewN ?_ _) | (with_reducible refine Kd.C_drew ?_))); (case side4 => exact (Kd.R_reads' HO149.out).2.1); rintro e w' ⟨rfl, ⟨nd, rfl⟩⟩; refine ⟨_, rfl, ?_⟩; have hcz39_0 : w35.cell? ⟨gb140, 0, none⟩ = some (.slice Ao5 t133.length co5) := (blk_cell BK140.out 0).trans rfl; have hcz39_1 : w35.cell? ⟨gb140, 1, none⟩ = some (.slice Ao7 t136.length co7) := (blk_cell BK140.out 1).trans rfl; have hfz39_0 := blk_frozen BK140.out 0; have hfz39_1 := blk_frozen BK140.out 1) | (go_at_call 34; (with_reducible refine (levels_Commas.calls _ _ t133 _ _ t136 2 0 99 t151 _ ?tabk ?side1 ?side2 ?side3 ?side4 A31.out).mono ?_); (case tabk => exact TK_.out.step (by repeat (first | (with_reducible first | exact HB.out | apply below_alloc | apply pw_below_drewN | apply below_drew1 | refine below_set ?_ GE140.out) | exact HB.out))); (case side1 => repeat (first | exact (Kd.S_reads' HO_141000.out).2.2 | (with_reducible refine Kd.C_alloc ?_ _) | (with_reducible refine Kd.C_drewN ?_ _) | (with_reducible refine Kd.C_drew ?_))); (case side2 => exact (Kd.S_reads' HO_141000.out).2.1); (case side3 => repeat (first | exact (Kd.S_reads' HO_141001.out).2.2 | (with_reducible refine Kd.C_alloc ?_ _) | (with_reducible refine Kd.C_drewN ?_ _) | (with_reducible refine Kd.C_drew ?_))); (case side4 => exact (Kd.S_reads' HO_141001.out).2.1); rintro e w40 ⟨v152, rfl, ho0, hb⟩; have n0_ := Aside0.mk (Kd.S_below (by (with_reducible repeat (first | apply Kd.S_alloc | apply Kd.S_drewN | apply Kd.S_drew)); exact HO_141000.out) hb); have n1_ := Aside0.mk (Kd.S_below (by (with_reducible repeat (first | apply Kd.S_alloc | apply Kd.S_drewN | apply Kd.S_drew)); exact HO_141001.out) hb); have n2_ := Aside0.mk (Kd.R_elder' (by (with_reducible repeat (first | apply Kd.R_alloc | apply Kd.R_drewN | apply Kd.R_drew)); exact HO146.out) (Kd.R_base ho0) hb); have n3_ := Aside0.mk (Kd.R_elder' (by (with_reducible repeat (first | apply Kd.R_alloc | apply Kd.R_drewN | apply Kd.R_drew)); exact HO149.out) (Kd.R_base ho0) hb); have n4_ := Aside0.mk (Kd.R_lower (Kd.R_new' (Kd.R_new' ho0 (Kd.R_lt (by (with_reducible repeat (first | apply Kd.R_alloc | apply Kd.R_drewN | apply Kd.R_drew)); exact HO146.out))) (Kd.R_lt (by (with_reducible repeat (first | apply Kd.R_alloc | apply Kd.R_drewN | apply Kd.R_drew)); exact HO149.out))) (below_size (by repeat (first | (with_reducible first | exact HB.out | apply below_alloc | apply pw_below_drewN | apply below_drew1 | refine below_set ?_ GE140.out) | exact HB.out)))); have n5_ := Aside0.mk (blk_below (g := gb140) (o := .cells #[.slice Ao5 t133.length co5, .slice Ao7 t136.length co7] 48 (0, 0)) (by (with_reducible repeat (first | refine blk_drewN ?_ _ | refine blk_drew ?_ | refine blk_alloc ?_ _)); exact BK140.out) hb); have n6_ := Aside0.mk (below_step (by repeat (first | (with_reducible first | exact HB.out | apply below_alloc | apply pw_below_drewN | apply below_drew1 | refine below_set ?_ GE140.out) | exact HB.out)) hb); clear HO_141000; clear HO_141001; clear HO146; clear HO149; clear BK140; clear HB; have HO_141000 := n0_; have HO_141001 := n1_; have HO146 := n2_; have HO149 := n3_; have HO153 := n4_; have BK140 := n5_; have HB := n6_; clear n0_ n1_ n2_ n3_ n4_ n5_ n6_; (try clear hb); (try clear hb2); (try clear hk); (try clear hi); (try clear ho0)) | ((with_reducible refine gate_dst (N := 42) rfl ?_); (try (refine gate_guard (by rfl) ?_; dsimp only)); refine Kd.R_lit (Kd.int .i64) _ 3 ?hg (N := 42) ?hd (xs := ([7] : List Int)) (inner := [.int .i64 7]) (ok := fun _ => True) (okp := fun _ => True) ?hr ?hp (fun _ hk => hk) trivial (Below.refl _ _) (Nat.le_refl _) (by simp) ?_; (case hd => rfl); (case hg => rfl); (case hr => first | (go_simp; done) | (go_simp; rfl)); (case hp => exact (Reps.one (show Kd.M (Kd.int .i64) _ _ _ 7 [.int .i64 7] from rfl) (Reps.none _ _))); intro v155 w41 ho42 hb hg_ hnew_; clear hg_ hnew_; (first | rw [← Ny154.out] at ho42 | (simp only [Int.reduceToNat] at ho42; rw [← Ny154.out] at ho42)); have n0_ := Aside0.mk (Kd.S_below (by (with_reducible repeat (first | apply Kd.S_alloc | apply Kd.S_drewN | apply Kd.S_drew)); exact HO_141000.out) hb); have n1_ := Aside0.mk (Kd.S_below (by (with_reducible repeat (first | apply Kd.S_alloc | apply Kd.S_drewN | apply Kd.S_drew)); exact HO_141001.out) hb); have n2_ := Aside0.mk (Kd.R_elder' (by (with_reducible repeat (first | apply Kd.R_alloc | apply Kd.R_drewN | apply Kd.R_drew)); exact HO146.out) (Kd.R_base ho42) hb); have n3_ := Aside0.mk (Kd.R_elder' (by (with_reducible repeat (first | apply Kd.R_alloc | apply Kd.R_drewN | apply Kd.R_drew)); exact HO149.out) (Kd.R_base ho42) hb); have n4_ := Aside0.mk (Kd.R_elder' (by (with_reducible repeat (first | apply Kd.R_alloc | apply Kd.R_drewN | apply Kd.R_drew)); exact HO153.out) (Kd.R_base ho42) hb); have n5_ := Aside0.mk (Kd.R_lower (Kd.R_new' (Kd.R_new' (Kd.R_new' ho42 (Kd.R_lt (by (with_reducible repeat (first | apply Kd.R_alloc | apply Kd.R_drewN | apply Kd.R_drew)); exact HO146.out))) (Kd.R_lt (by (with_reducible repeat (first | apply Kd.R_alloc | apply Kd.R_drewN | apply Kd.R_drew)); exact HO149.out))) (Kd.R_lt (by (with_reducible repeat (first | apply Kd.R_alloc | apply Kd.R_drewN | apply Kd.R_drew)); exact HO153.out))) (below_size (by repeat (first | (with_reducible first | exact HB.out | apply below_alloc | apply pw_below_drewN | apply below_drew1 | refine below_set ?_ GE140.out) | exact HB.out)))); have n6_ := Aside0.mk (blk_below (g := gb140) (o := .cells #[.slice Ao5 t133.length co5, .slice Ao7 t136.length co7] 48 (0, 0)) (by (with_reducible repeat (first | refine blk_drewN ?_ _ | refine blk_drew ?_ | refine blk_alloc ?_ _)); exact BK140.out) hb); have n7_ := Aside0.mk (below_step (by repeat (first | (with_reducible first | exact HB.out | apply below_alloc | apply pw_below_drewN | apply below_drew1 | refine below_set ?_ GE140.out) | exact HB.out)) hb); clear HO_141000; clear HO_141001; clear HO146; clear HO149; clear HO153; clear BK140; clear HB; have HO_141000 := n0_; have HO_141001 := n1_; have HO146 := n2_; have HO149 := n3_; have HO153 := n4_; have HO156 := n5_; have BK140 := n6_; have HB := n7_; clear n0_ n1_ n2_ n3_ n4_ n5_ n6_ n7_; clear hb ho42; obtain ⟨Ao43, co43, eo43⟩ := Kd.R_slice HO153.out; subst eo43; obtain ⟨Ao44, co44, eo44⟩ := Kd.R_slice HO156.out; subst eo44) | (go_at_call 25; (with_reducible refine (quarryref00_SameInts.calls kj1 _ _ t151 _ _ y154 t157 _ ?side1 ?side2 ?side3 ?side4 A32.out).mono ?_); (case side1 => repeat (first | exact (Kd.R_reads' HO153.out).2.2 | (with_reducible refine Kd.C_alloc ?_ _) | (with_reducible refine Kd.C_drewN ?_ _) | (with_reducible refine Kd.C_drew ?_))); (case side2 => exact (Kd.R_reads' HO153.out).2.1); (case side3 => repeat (first | exact (Kd.R_reads' HO156.out).2.2 | (with_reducible refine Kd.C_alloc ?_ _) | (with_reducible refine Kd.C_drewN ?_ _) | (with_reducible refine Kd.C_drew ?_))); (case side4 => exact (Kd.R_reads' HO156.out).2.1); rintro e w' ⟨rfl, ⟨nd, rfl⟩⟩))
          go_ret
          exact ⟨by first | rfl | (simp [errW_none, errW_some] <;> rfl) | (simp [*, errW_none, errW_some] <;> rfl), by repeat (first | (with_reducible first | exact HB.out | apply below_alloc | apply pw_below_drewN | apply below_drew1 | refine below_set ?_ GE140.out) | exact HB.out)⟩
        · replace c30 := Bool.eq_false_iff.mpr c30
          subst c30
          have H1 : (some false) = some r := by rw [if_neg (show ¬ (false = true) by decide)] at H; exact H
          clear H
          have H := H1
          clear H1
          obtain rfl := Option.some.inj H
          have hcz45_0 : wc.cell? ⟨gb140, 0, none⟩ = some (.slice Ao5 t133.length co5) := (blk_cell BK140.out 0).trans rfl
          have hcz45_1 : wc.cell? ⟨gb140, 1, none⟩ = some (.slice Ao7 t136.length co7) := (blk_cell BK140.out 1).trans rfl
          have hfz45_0 := blk_frozen BK140.out 0
          have hfz45_1 := blk_frozen BK140.out 1
          go_wp2_with (first | ((with_reducible refine gate_callee (f := 33) rfl ?_); refine goesL_ (some 35) rfl rfl Tryd.func33 (by kernel_rfl) rfl #[.agg #[.slice Ao5 t133.length co5, .slice Ao7 t136.length co7], .int .i64 1, .agg #[.int .i64 0, .int .i64 99]] rfl (by (try simp only [List.map_toArray, List.map_cons, List.map_nil]); first | done | rfl | (simp only [List.length_drop, List.length_take]; rfl)) ?_; (with_reducible refine (levels_Colons.calls _ _ t133 _ _ t136 1 0 99 t144 _ ?tabk ?side1 ?side2 ?side3 ?side4 A28.out).mono ?_); (case tabk => exact TK_.out.step (by repeat (first | (with_reducible first | exact HB.out | apply below_alloc | apply pw_below_drewN | apply below_drew1 | refine below_set ?_ GE140.out) | exact HB.out))); (case side1 => repeat (first | exact (Kd.S_reads' HO_141000.out).2.2 | (with_reducible refine Kd.C_alloc ?_ _) | (with_reducible refine Kd.C_drewN ?_ _) | (with_reducible refine Kd.C_drew ?_))); (case side2 => exact (Kd.S_reads' HO_141000.out).2.1); (case side3 => repeat (first | exact (Kd.S_reads' HO_141001.out).2.2 | (with_reducible refine Kd.C_alloc ?_ _) | (with_reducible refine Kd.C_drewN ?_ _) | (with_reducible refine Kd.C_drew ?_))); (case side4 => exact (Kd.S_reads' HO_141001.out).2.1); rintro e w46 ⟨v145, rfl, ho0, hb⟩; refine ⟨_, rfl, ?_⟩; have n0_ := Aside0.mk (Kd.S_below (by (with_reducible repeat (first | apply Kd.S_alloc | apply Kd.S_drewN | apply Kd.S_drew)); exact HO_141000.out) hb); have n1_ := Aside0.mk (Kd.S_below (by (with_reducible repeat (first | apply Kd.S_alloc | apply Kd.S_drewN | apply Kd.S_drew)); exact HO_141001.out) hb); have n2_ := Aside0.mk (Kd.R_lower ho0 (below_size (by repeat (first | (with_reducible first | exact HB.out | apply below_alloc | apply pw_below_drewN | apply below_drew1 | refine below_set ?_ GE140.out) | exact HB.out)))); have n3_ := Aside0.mk (blk_below (g := gb140) (o := .cells #[.slice Ao5 t133.length co5, .slice Ao7 t136.length co7] 48 (0, 0)) (by (with_reducible repeat (first | refine blk_drewN ?_ _ | refine blk_drew ?_ | refine blk_alloc ?_ _)); exact BK140.out) hb); have n4_ := Aside0.mk (below_step (by repeat (first | (with_reducible first | exact HB.out | apply below_alloc | apply pw_below_drewN | apply below_drew1 | refine below_set ?_ GE140.out) | exact HB.out)) hb); clear HO_141000; clear HO_141001; clear BK140; clear HB; have HO_141000 := n0_; have HO_141001 := n1_; have HO146 := n2_; have BK140 := n3_; have HB := n4_; clear n0_ n1_ n2_ n3_ n4_; (try clear hb); (try clear hb2); (try clear hk); (try clear hi); (try clear ho0)) | ((with_reducible refine gate_dst (N := 36) rfl ?_); (try (refine gate_guard (by rfl) ?_; dsimp only)); refine Kd.R_lit (Kd.int .i64) _ 3 ?hg (N := 36) ?hd (xs := ([4, 15] : List Int)) (inner := [.int .i64 4, .int .i64 15]) (ok := fun _ => True) (okp := fun _ => True) ?hr ?hp (fun _ hk => hk) trivial (Below.refl _ _) (Nat.le_refl _) (by simp) ?_; (case hd => rfl); (case hg => rfl); (case hr => first | (go_simp; done) | (go_simp; rfl)); (case hp => exact (Reps.one (show Kd.M (Kd.int .i64) _ _ _ 4 [.int .i64 4] from rfl) (Reps.one (show Kd.M (Kd.int .i64) _ _ _ 15 [.int .i64 15] from rfl) (Reps.none _ _)))); intro v148 w47 ho48 hb hg_ hnew_; clear hg_ hnew_; (first | rw [← Ny147.out] at ho48 | (simp only [Int.reduceToNat] at ho48; rw [← Ny147.out] at ho48)); have n0_ := Aside0.mk (Kd.S_below (by (with_reducible repeat (first | apply Kd.S_alloc | apply Kd.S_drewN | apply Kd.S_drew)); exact HO_141000.out) hb); have n1_ := Aside0.mk (Kd.S_below (by (with_reducible repeat (first | apply Kd.S_alloc | apply Kd.S_drewN | apply Kd.S_drew)); exact HO_141001.out) hb); have n2_ := Aside0.mk (Kd.R_elder' (by (with_reducible repeat (first | apply Kd.R_alloc | apply Kd.R_drewN | apply Kd.R_drew)); exact HO146.out) (Kd.R_base ho48) hb); have n3_ := Aside0.mk (Kd.R_lower (Kd.R_new' ho48 (Kd.R_lt (by (with_reducible repeat (first | apply Kd.R_alloc | apply Kd.R_drewN | apply Kd.R_drew)); exact HO146.out))) (below_size (by repeat (first | (with_reducible first | exact HB.out | apply below_alloc | apply pw_below_drewN | apply below_drew1 | refine below_set ?_ GE140.out) | exact HB.out)))); have n4_ := Aside0.mk (blk_below (g := gb140) (o := .cells #[.slice Ao5 t133.length co5, .slice Ao7 t136.length co7] 48 (0, 0)) (by (with_reducible repeat (first | refine blk_drewN ?_ _ | refine blk_drew ?_ | refine blk_alloc ?_ _)); exact BK140.out) hb); have n5_ := Aside0.mk (below_step (by repeat (first | (with_reducible first | exact HB.out | apply below_alloc | apply pw_below_drewN | apply below_drew1 | refine below_set ?_ GE140.out) | exact HB.out)) hb); clear HO_141000; clear HO_141001; clear HO146; clear BK140; clear HB; have HO_141000 := n0_; have HO_141001 := n1_; have HO146 := n2_; have HO149 := n3_; have BK140 := n4_; have HB := n5_; clear n0_ n1_ n2_ n3_ n4_ n5_; clear hb ho48; obtain ⟨Ao49, co49, eo49⟩ := Kd.R_slice HO146.out; subst eo49; obtain ⟨Ao50, co50, eo50⟩ := Kd.R_slice HO149.out; subst eo50) | ((with_reducible refine gate_callee (f := 25) rfl ?_); refine goesL_ (some 37) rfl rfl Tryd.func25 (by kernel_rfl) rfl #[.slice Ao49 t144.length co49, .slice Ao50 y147.length co50] rfl (by (try simp only [List.map_toArray, List.map_cons, List.map_nil]); first | done | rfl | (simp only [List.length_drop, List.length_take]; rfl)) ?_; (with_reducible refine (quarryref00_SameInts.calls kj1 _ _ t144 _ _ y147 false _ ?side1 ?side2 ?side3 ?side4 A29.out).mono ?_); (case side1 => repeat (first | exact (Kd.R_reads' HO146.out).2.2 | (with_reducible refine Kd.C_alloc ?_ _) | (with_reducible refine Kd.C_drewN ?_ _) | (with_reducible refine Kd.C_drew ?_))); (case side2 => exact (Kd.R_reads' HO146.out).2.1); (case side3 => repeat (first | exact (Kd.R_reads' HO149.out).2.2 | (with_reducible refine Kd.C_alloc ?_ _) | (with_reducible refine Kd.C_drewN ?_ _) | (with_reducible refine Kd.C_drew ?_))); (case side4 => exact (Kd.R_reads' HO149.out).2.1); rintro e w' ⟨rfl, ⟨nd, rfl⟩⟩; refine ⟨_, rfl, ?_⟩))
          go_ret
          exact ⟨by first | rfl | (simp [errW_none, errW_some] <;> rfl) | (simp [*, errW_none, errW_some] <;> rfl), by repeat (first | (with_reducible first | exact HB.out | apply below_alloc | apply pw_below_drewN | apply below_drew1 | refine below_set ?_ GE140.out) | exact HB.out)⟩

end Go.Proofs.YtgddljealeklkaaDoor.PL
end
-- PLx12
section
namespace Go.Proofs.YtgddljealeklkaaDoor.PL
attribute [local go_sem] Go.Proofs.YtgddljealeklkaaDoorM.fieldBits0 Go.Proofs.YtgddljealeklkaaDoorM.fieldBits1
open Go.Proofs.YtgddljealeklkaaDoorM (TabOk)
open Go.RowKit Go.Proofs.YtgddljealeklkaaDoorW.PrintWords Go.Proofs.YtgddljealeklkaaDoorW.PrintLast Go.Proofs.YtgddljealeklkaaDoorW.PrintMore
attribute [local go_sem] max2_int min2_int max_two min_two max_three min_three max_four min_four   -- for this text's walks alone
set_option linter.unusedVariables false
set_option linter.unusedSimpArgs false

mutual
def quarrylaw10_LevelsSteps.j0 : Nat → ByteArray → Int → Int → Bool → Option (Bool)
  | 0, _, _, _, _ => none
  | k + 1, x0, x1, x5, x26 => if x26 = true then (some (x5 == (-1))) else (if x5 < (-1) then (quarrylaw10_LevelsSteps.j1 k x0 x1 x5 true) else (if x5 ≥ 0 then (if x5 ≤ x1 then (quarrylaw10_LevelsSteps.j1 k x0 x1 x5 true) else (quarrylaw10_LevelsSteps.j1 k x0 x1 x5 (decide (x5 ≥ (x0.size : Int))))) else (quarrylaw10_LevelsSteps.j1 k x0 x1 x5 false)))
def quarrylaw10_LevelsSteps.j1 : Nat → ByteArray → Int → Int → Bool → Option (Bool)
  | 0, _, _, _, _ => none
  | k + 1, x0, x1, x5, x45 => if x45 = true then (some false) else ((levels_Depth.f x0 x1).bind fun t354 => (quarrylaw10_LevelsSteps.l0 k x0 x1 x5 t354 t354 x1))
def quarrylaw10_LevelsSteps.l0 : Nat → ByteArray → Int → Int → Int → Int → Int → Option (Bool)
  | 0, _, _, _, _, _, _ => none
  | k + 1, x0, x1, x5, x7, x8, x9 => if x9 < (x0.size : Int) then ((marks_Kind.f k x0 x9).bind fun t355 => ((levels_Depth.f x0 (wrap64 (x9 + 1))).bind fun t356 => (if t355 = 123 then (quarrylaw10_LevelsSteps.j3 k x0 x1 x5 x7 x8 x9 t355 t356 x8 true) else (quarrylaw10_LevelsSteps.j3 k x0 x1 x5 x7 x8 x9 t355 t356 x8 (t355 == 91))))) else (some (x5 == (-1)))
def quarrylaw10_LevelsSteps.j3 : Nat → ByteArray → Int → Int → Int → Int → Int → Int → Int → Int → Bool → Option (Bool)
  | 0, _, _, _, _, _, _, _, _, _, _ => none
  | k + 1, x0, x1, x5, x7, x8, x9, x10, x11, x12, x70 => if x70 = true then (quarrylaw10_LevelsSteps.j4 k x0 x1 x5 x7 x8 x9 x10 x11 (wrap64 (x8 + 1))) else (quarrylaw10_LevelsSteps.j4 k x0 x1 x5 x7 x8 x9 x10 x11 x12)
def quarrylaw10_LevelsSteps.j4 : Nat → ByteArray → Int → Int → Int → Int → Int → Int → Int → Int → Option (Bool)
  | 0, _, _, _, _, _, _, _, _, _ => none
  | k + 1, x0, x1, x5, x7, x8, x9, x10, x11, x12 => if x10 = 125 then (quarrylaw10_LevelsSteps.j5 k x0 x1 x5 x7 x8 x9 x10 x11 x12 true) else (quarrylaw10_LevelsSteps.j5 k x0 x1 x5 x7 x8 x9 x10 x11 x12 (x10 == 93))
def quarrylaw10_LevelsSteps.j5 : Nat → ByteArray → Int → Int → Int → Int → Int → Int → Int → Int → Bool → Option (Bool)
  | 0, _, _, _, _, _, _, _, _, _, _ => none
  | k + 1, x0, x1, x5, x7, x8, x9, x10, x11, x12, x78 => if x78 = true then (quarrylaw10_LevelsSteps.j6 k x0 x1 x5 x7 x9 x10 x11 (wrap64 (x8 - 1))) else (quarrylaw10_LevelsSteps.j6 k x0 x1 x5 x7 x9 x10 x11 x12)
def quarrylaw10_LevelsSteps.j6 : Nat → ByteArray → Int → Int → Int → Int → Int → Int → Int → Option (Bool)
  | 0, _, _, _, _, _, _, _, _ => none
  | k + 1, x0, x1, x5, x7, x9, x10, x11, x12 => if x11 = x12 then (if x9 = x5 then (if x11 = x7 then (if x10 = 125 then (some true) else (some (x10 == 93))) else (some false)) else (if x11 = x7 then (some false) else (if x9 > (wrap64 (x1 + 200)) then (some true) else (quarrylaw10_LevelsSteps.l0 k x0 x1 x5 x7 x11 (wrap64 (x9 + 1)))))) else (some false)
end
def quarrylaw10_LevelsSteps.f (k : Nat) (a0 : ByteArray) (a1 : Int) : Option (Bool) := (quarrylaw10_awake.f k).bind fun t351 => (if t351 = true then ((levels_Close.f k a0 a1).bind fun t352 => ((marks_Kind.f k a0 a1).bind fun t353 => (if t353 = 123 then (quarrylaw10_LevelsSteps.j0 k a0 a1 t352 false) else (quarrylaw10_LevelsSteps.j0 k a0 a1 t352 (t353 != 91))))) else (some false))
theorem quarrylaw10_LevelsSteps.mono_l : ∀ k, (∀ y0 y1 y2 y3, LeO (quarrylaw10_LevelsSteps.j0 k y0 y1 y2 y3) (quarrylaw10_LevelsSteps.j0 (k + 1) y0 y1 y2 y3)) ∧ (∀ y0 y1 y2 y3, LeO (quarrylaw10_LevelsSteps.j1 k y0 y1 y2 y3) (quarrylaw10_LevelsSteps.j1 (k + 1) y0 y1 y2 y3)) ∧ (∀ y0 y1 y2 y3 y4 y5, LeO (quarrylaw10_LevelsSteps.l0 k y0 y1 y2 y3 y4 y5) (quarrylaw10_LevelsSteps.l0 (k + 1) y0 y1 y2 y3 y4 y5)) ∧ (∀ y0 y1 y2 y3 y4 y5 y6 y7 y8 y9, LeO (quarrylaw10_LevelsSteps.j3 k y0 y1 y2 y3 y4 y5 y6 y7 y8 y9) (quarrylaw10_LevelsSteps.j3 (k + 1) y0 y1 y2 y3 y4 y5 y6 y7 y8 y9)) ∧ (∀ y0 y1 y2 y3 y4 y5 y6 y7 y8, LeO (quarrylaw10_LevelsSteps.j4 k y0 y1 y2 y3 y4 y5 y6 y7 y8) (quarrylaw10_LevelsSteps.j4 (k + 1) y0 y1 y2 y3 y4 y5 y6 y7 y8)) ∧ (∀ y0 y1 y2 y3 y4 y5 y6 y7 y8 y9, LeO (quarrylaw10_LevelsSteps.j5 k y0 y1 y2 y3 y4 y5 y6 y7 y8 y9) (quarrylaw10_LevelsSteps.j5 (k + 1) y0 y1 y2 y3 y4 y5 y6 y7 y8 y9)) ∧ (∀ y0 y1 y2 y3 y4 y5 y6 y7, LeO (quarrylaw10_LevelsSteps.j6 k y0 y1 y2 y3 y4 y5 y6 y7) (quarrylaw10_LevelsSteps.j6 (k + 1) y0 y1 y2 y3 y4 y5 y6 y7))
  | 0 => ⟨fun _ _ _ _ r h => by simp [quarrylaw10_LevelsSteps.j0] at h, fun _ _ _ _ r h => by simp [quarrylaw10_LevelsSteps.j1] at h, fun _ _ _ _ _ _ r h => by simp [quarrylaw10_LevelsSteps.l0] at h, fun _ _ _ _ _ _ _ _ _ _ r h => by simp [quarrylaw10_LevelsSteps.j3] at h, fun _ _ _ _ _ _ _ _ _ r h => by simp [quarrylaw10_LevelsSteps.j4] at h, fun _ _ _ _ _ _ _ _ _ _ r h => by simp [quarrylaw10_LevelsSteps.j5] at h, fun _ _ _ _ _ _ _ _ r h => by simp [quarrylaw10_LevelsSteps.j6] at h⟩
  | k + 1 => by
    obtain ⟨ih0, ih1, ih2, ih3, ih4, ih5, ih6⟩ := quarrylaw10_LevelsSteps.mono_l k
    refine ⟨?_, ?_, ?_, ?_, ?_, ?_, ?_⟩
    · intro y0 y1 y2 y3
      unfold quarrylaw10_LevelsSteps.j0
      repeat' first
      | (with_reducible exact ih0 _ _ _ _)
      | (with_reducible exact ih1 _ _ _ _)
      | (with_reducible exact ih2 _ _ _ _ _ _)
      | (with_reducible exact ih3 _ _ _ _ _ _ _ _ _ _)
      | (with_reducible exact ih4 _ _ _ _ _ _ _ _ _)
      | (with_reducible exact ih5 _ _ _ _ _ _ _ _ _ _)
      | (with_reducible exact ih6 _ _ _ _ _ _ _ _)
      | (with_reducible exact levels_Close.mono _ _ _)
      | (with_reducible exact marks_Kind.mono _ _ _)
      | (with_reducible exact quarrylaw10_awake.mono _)
      | (with_reducible exact LeO.refl _)
      | (with_reducible exact LeO.none _)
      | (with_reducible refine LeO.ite ?_ ?_)
      | (with_reducible refine LeO.bind ?_ (fun _ => ?_))
      | exact ih0 _ _ _ _
      | exact ih1 _ _ _ _
      | exact ih2 _ _ _ _ _ _
      | exact ih3 _ _ _ _ _ _ _ _ _ _
      | exact ih4 _ _ _ _ _ _ _ _ _
      | exact ih5 _ _ _ _ _ _ _ _ _ _
      | exact ih6 _ _ _ _ _ _ _ _
      | exact levels_Close.mono _ _ _
      | exact marks_Kind.mono _ _ _
      | exact quarrylaw10_awake.mono _
      | exact LeO.none _
      | refine LeO.ite ?_ ?_
      | refine LeO.bind ?_ (fun _ => ?_)
    · intro y0 y1 y2 y3
      unfold quarrylaw10_LevelsSteps.j1
      repeat' first
      | (with_reducible exact ih0 _ _ _ _)
      | (with_reducible exact ih1 _ _ _ _)
      | (with_reducible exact ih2 _ _ _ _ _ _)
      | (with_reducible exact ih3 _ _ _ _ _ _ _ _ _ _)
      | (with_reducible exact ih4 _ _ _ _ _ _ _ _ _)
      | (with_reducible exact ih5 _ _ _ _ _ _ _ _ _ _)
      | (with_reducible exact ih6 _ _ _ _ _ _ _ _)
      | (with_reducible exact levels_Close.mono _ _ _)
      | (with_reducible exact marks_Kind.mono _ _ _)
      | (with_reducible exact quarrylaw10_awake.mono _)
      | (with_reducible exact LeO.refl _)
      | (with_reducible exact LeO.none _)
      | (with_reducible refine LeO.ite ?_ ?_)
      | (with_reducible refine LeO.bind ?_ (fun _ => ?_))
      | exact ih0 _ _ _ _
      | exact ih1 _ _ _ _
      | exact ih2 _ _ _ _ _ _
      | exact ih3 _ _ _ _ _ _ _ _ _ _
      | exact ih4 _ _ _ _ _ _ _ _ _
      | exact ih5 _ _ _ _ _ _ _ _ _ _
      | exact ih6 _ _ _ _ _ _ _ _
      | exact levels_Close.mono _ _ _
      | exact marks_Kind.mono _ _ _
      | exact quarrylaw10_awake.mono _
      | exact LeO.none _
      | refine LeO.ite ?_ ?_
      | refine LeO.bind ?_ (fun _ => ?_)
    · intro y0 y1 y2 y3 y4 y5
      unfold quarrylaw10_LevelsSteps.l0
      repeat' first
      | (with_reducible exact ih0 _ _ _ _)
      | (with_reducible exact ih1 _ _ _ _)
      | (with_reducible exact ih2 _ _ _ _ _ _)
      | (with_reducible exact ih3 _ _ _ _ _ _ _ _ _ _)
      | (with_reducible exact ih4 _ _ _ _ _ _ _ _ _)
      | (with_reducible exact ih5 _ _ _ _ _ _ _ _ _ _)
      | (with_reducible exact ih6 _ _ _ _ _ _ _ _)
      | (with_reducible exact levels_Close.mono _ _ _)
      | (with_reducible exact marks_Kind.mono _ _ _)
      | (with_reducible exact quarrylaw10_awake.mono _)
      | (with_reducible exact LeO.refl _)
      | (with_reducible exact LeO.none _)
      | (with_reducible refine LeO.ite ?_ ?_)
      | (with_reducible refine LeO.bind ?_ (fun _ => ?_))
      | exact ih0 _ _ _ _
      | exact ih1 _ _ _ _
      | exact ih2 _ _ _ _ _ _
      | exact ih3 _ _ _ _ _ _ _ _ _ _
      | exact ih4 _ _ _ _ _ _ _ _ _
      | exact ih5 _ _ _ _ _ _ _ _ _ _
      | exact ih6 _ _ _ _ _ _ _ _
      | exact levels_Close.mono _ _ _
      | exact marks_Kind.mono _ _ _
      | exact quarrylaw10_awake.mono _
      | exact LeO.none _
      | refine LeO.ite ?_ ?_
      | refine LeO.bind ?_ (fun _ => ?_)
    · intro y0 y1 y2 y3 y4 y5 y6 y7 y8 y9
      unfold quarrylaw10_LevelsSteps.j3
      repeat' first
      | (with_reducible exact ih0 _ _ _ _)
      | (with_reducible exact ih1 _ _ _ _)
      | (with_reducible exact ih2 _ _ _ _ _ _)
      | (with_reducible exact ih3 _ _ _ _ _ _ _ _ _ _)
      | (with_reducible exact ih4 _ _ _ _ _ _ _ _ _)
      | (with_reducible exact ih5 _ _ _ _ _ _ _ _ _ _)
      | (with_reducible exact ih6 _ _ _ _ _ _ _ _)
      | (with_reducible exact levels_Close.mono _ _ _)
      | (with_reducible exact marks_Kind.mono _ _ _)
      | (with_reducible exact quarrylaw10_awake.mono _)
      | (with_reducible exact LeO.refl _)
      | (with_reducible exact LeO.none _)
      | (with_reducible refine LeO.ite ?_ ?_)
      | (with_reducible refine LeO.bind ?_ (fun _ => ?_))
      | exact ih0 _ _ _ _
      | exact ih1 _ _ _ _
      | exact ih2 _ _ _ _ _ _
      | exact ih3 _ _ _ _ _ _ _ _ _ _
      | exact ih4 _ _ _ _ _ _ _ _ _
      | exact ih5 _ _ _ _ _ _ _ _ _ _
      | exact ih6 _ _ _ _ _ _ _ _
      | exact levels_Close.mono _ _ _
      | exact marks_Kind.mono _ _ _
      | exact quarrylaw10_awake.mono _
      | exact LeO.none _
      | refine LeO.ite ?_ ?_
      | refine LeO.bind ?_ (fun _ => ?_)
    · intro y0 y1 y2 y3 y4 y5 y6 y7 y8
      unfold quarrylaw10_LevelsSteps.j4
      repeat' first
      | (with_reducible exact ih0 _ _ _ _)
      | (with_reducible exact ih1 _ _ _ _)
      | (with_reducible exact ih2 _ _ _ _ _ _)
      | (with_reducible exact ih3 _ _ _ _ _ _ _ _ _ _)
      | (with_reducible exact ih4 _ _ _ _ _ _ _ _ _)
      | (with_reducible exact ih5 _ _ _ _ _ _ _ _ _ _)
      | (with_reducible exact ih6 _ _ _ _ _ _ _ _)
      | (with_reducible exact levels_Close.mono _ _ _)
      | (with_reducible exact marks_Kind.mono _ _ _)
      | (with_reducible exact quarrylaw10_awake.mono _)
      | (with_reducible exact LeO.refl _)
      | (with_reducible exact LeO.none _)
      | (with_reducible refine LeO.ite ?_ ?_)
      | (with_reducible refine LeO.bind ?_ (fun _ => ?_))
      | exact ih0 _ _ _ _
      | exact ih1 _ _ _ _
      | exact ih2 _ _ _ _ _ _
      | exact ih3 _ _ _ _ _ _ _ _ _ _
      | exact ih4 _ _ _ _ _ _ _ _ _
      | exact ih5 _ _ _ _ _ _ _ _ _ _
      | exact ih6 _ _ _ _ _ _ _ _
      | exact levels_Close.mono _ _ _
      | exact marks_Kind.mono _ _ _
      | exact quarrylaw10_awake.mono _
      | exact LeO.none _
      | refine LeO.ite ?_ ?_
      | refine LeO.bind ?_ (fun _ => ?_)
    · intro y0 y1 y2 y3 y4 y5 y6 y7 y8 y9
      unfold quarrylaw10_LevelsSteps.j5
      repeat' first
      | (with_reducible exact ih0 _ _ _ _)
      | (with_reducible exact ih1 _ _ _ _)
      | (with_reducible exact ih2 _ _ _ _ _ _)
      | (with_reducible exact ih3 _ _ _ _ _ _ _ _ _ _)
      | (with_reducible exact ih4 _ _ _ _ _ _ _ _ _)
      | (with_reducible exact ih5 _ _ _ _ _ _ _ _ _ _)
      | (with_reducible exact ih6 _ _ _ _ _ _ _ _)
      | (with_reducible exact levels_Close.mono _ _ _)
      | (with_reducible exact marks_Kind.mono _ _ _)
      | (with_reducible exact quarrylaw10_awake.mono _)
      | (with_reducible exact LeO.refl _)
      | (with_reducible exact LeO.none _)
      | (with_reducible refine LeO.ite ?_ ?_)
      | (with_reducible refine LeO.bind ?_ (fun _ => ?_))
      | exact ih0 _ _ _ _
      | exact ih1 _ _ _ _
      | exact ih2 _ _ _ _ _ _
      | exact ih3 _ _ _ _ _ _ _ _ _ _
      | exact ih4 _ _ _ _ _ _ _ _ _
      | exact ih5 _ _ _ _ _ _ _ _ _ _
      | exact ih6 _ _ _ _ _ _ _ _
      | exact levels_Close.mono _ _ _
      | exact marks_Kind.mono _ _ _
      | exact quarrylaw10_awake.mono _
      | exact LeO.none _
      | refine LeO.ite ?_ ?_
      | refine LeO.bind ?_ (fun _ => ?_)
    · intro y0 y1 y2 y3 y4 y5 y6 y7
      unfold quarrylaw10_LevelsSteps.j6
      repeat' first
      | (with_reducible exact ih0 _ _ _ _)
      | (with_reducible exact ih1 _ _ _ _)
      | (with_reducible exact ih2 _ _ _ _ _ _)
      | (with_reducible exact ih3 _ _ _ _ _ _ _ _ _ _)
      | (with_reducible exact ih4 _ _ _ _ _ _ _ _ _)
      | (with_reducible exact ih5 _ _ _ _ _ _ _ _ _ _)
      | (with_reducible exact ih6 _ _ _ _ _ _ _ _)
      | (with_reducible exact levels_Close.mono _ _ _)
      | (with_reducible exact marks_Kind.mono _ _ _)
      | (with_reducible exact quarrylaw10_awake.mono _)
      | (with_reducible exact LeO.refl _)
      | (with_reducible exact LeO.none _)
      | (with_reducible refine LeO.ite ?_ ?_)
      | (with_reducible refine LeO.bind ?_ (fun _ => ?_))
      | exact ih0 _ _ _ _
      | exact ih1 _ _ _ _
      | exact ih2 _ _ _ _ _ _
      | exact ih3 _ _ _ _ _ _ _ _ _ _
      | exact ih4 _ _ _ _ _ _ _ _ _
      | exact ih5 _ _ _ _ _ _ _ _ _ _
      | exact ih6 _ _ _ _ _ _ _ _
      | exact levels_Close.mono _ _ _
      | exact marks_Kind.mono _ _ _
      | exact quarrylaw10_awake.mono _
      | exact LeO.none _
      | refine LeO.ite ?_ ?_
      | refine LeO.bind ?_ (fun _ => ?_)
theorem quarrylaw10_LevelsSteps.mono : ∀ a0 a1 k, LeO (quarrylaw10_LevelsSteps.f k a0 a1) (quarrylaw10_LevelsSteps.f (k + 1) a0 a1) := by
  intro a0 a1 k
  obtain ⟨ih0, ih1, ih2, ih3, ih4, ih5, ih6⟩ := quarrylaw10_LevelsSteps.mono_l k
  unfold quarrylaw10_LevelsSteps.f
  repeat' first
      | (with_reducible exact ih0 _ _ _ _)
      | (with_reducible exact ih1 _ _ _ _)
      | (with_reducible exact ih2 _ _ _ _ _ _)
      | (with_reducible exact ih3 _ _ _ _ _ _ _ _ _ _)
      | (with_reducible exact ih4 _ _ _ _ _ _ _ _ _)
      | (with_reducible exact ih5 _ _ _ _ _ _ _ _ _ _)
      | (with_reducible exact ih6 _ _ _ _ _ _ _ _)
      | (with_reducible exact levels_Close.mono _ _ _)
      | (with_reducible exact marks_Kind.mono _ _ _)
      | (with_reducible exact quarrylaw10_awake.mono _)
      | (with_reducible exact LeO.refl _)
      | (with_reducible exact LeO.none _)
      | (with_reducible refine LeO.ite ?_ ?_)
      | (with_reducible refine LeO.bind ?_ (fun _ => ?_))
      | exact ih0 _ _ _ _
      | exact ih1 _ _ _ _
      | exact ih2 _ _ _ _ _ _
      | exact ih3 _ _ _ _ _ _ _ _ _ _
      | exact ih4 _ _ _ _ _ _ _ _ _
      | exact ih5 _ _ _ _ _ _ _ _ _ _
      | exact ih6 _ _ _ _ _ _ _ _
      | exact levels_Close.mono _ _ _
      | exact marks_Kind.mono _ _ _
      | exact quarrylaw10_awake.mono _
      | exact LeO.none _
      | refine LeO.ite ?_ ?_
      | refine LeO.bind ?_ (fun _ => ?_)
set_option maxHeartbeats 8000000 in
set_option maxRecDepth 100000 in
theorem quarrylaw10_LevelsSteps.calls (k : Nat) (a0 : ByteArray) (a1 : Int) (r : Bool) (w : World) (hT : TabOk w) (h : quarrylaw10_LevelsSteps.f k a0 a1 = some r) :
    Calls Tryd.prog 9 #[.string a0, .int .i64 a1] w fun e w' => e = .returned (.bool r) ∧ Below w.heap.size w w' := by
  have TK_ := Aside0.mk hT
  clear hT
  have HB := Aside0.mk (Below.refl w.heap.size w)
  have H : ((quarrylaw10_awake.f k).bind fun t351 => (if t351 = true then ((levels_Close.f k a0 a1).bind fun t352 => ((marks_Kind.f k a0 a1).bind fun t353 => (if t353 = 123 then (quarrylaw10_LevelsSteps.j0 k a0 a1 t352 false) else (quarrylaw10_LevelsSteps.j0 k a0 a1 t352 (t353 != 91))))) else (some false))) = some r := h
  clear h
  replace H := Option.bind_eq_some_iff.mp H
  obtain ⟨t351, A30, H⟩ := H
  replace H : (if t351 = true then ((levels_Close.f k a0 a1).bind fun t352 => ((marks_Kind.f k a0 a1).bind fun t353 => (if t353 = 123 then (quarrylaw10_LevelsSteps.j0 k a0 a1 t352 false) else (quarrylaw10_LevelsSteps.j0 k a0 a1 t352 (t353 != 91))))) else (some false)) = some r := H
  have A3 := Aside0.mk A30
  clear A30
  by_cases c4 : t351 = true
  · subst c4
    have H1 : ((levels_Close.f k a0 a1).bind fun t352 => ((marks_Kind.f k a0 a1).bind fun t353 => (if t353 = 123 then (quarrylaw10_LevelsSteps.j0 k a0 a1 t352 false) else (quarrylaw10_LevelsSteps.j0 k a0 a1 t352 (t353 != 91))))) = some r := by rw [if_pos rfl] at H; exact H
    clear H
    have H := H1
    clear H1
    replace H := Option.bind_eq_some_iff.mp H
    obtain ⟨t352, A50, H⟩ := H
    replace H : ((marks_Kind.f k a0 a1).bind fun t353 => (if t353 = 123 then (quarrylaw10_LevelsSteps.j0 k a0 a1 t352 false) else (quarrylaw10_LevelsSteps.j0 k a0 a1 t352 (t353 != 91)))) = some r := H
    have A5 := Aside0.mk A50
    clear A50
    replace H := Option.bind_eq_some_iff.mp H
    obtain ⟨t353, A60, H⟩ := H
    replace H : (if t353 = 123 then (quarrylaw10_LevelsSteps.j0 k a0 a1 t352 false) else (quarrylaw10_LevelsSteps.j0 k a0 a1 t352 (t353 != 91))) = some r := H
    have A6 := Aside0.mk A60
    clear A60
    have HC7 := Aside0.mk H
    clear H
    go_enter Tryd.func9, Tryd.ntmps9
    go_upto_region 5 with (first | ((with_reducible refine gate_callee (f := 29) rfl ?_); refine goesL_ (some 13) rfl rfl Tryd.func29 (by kernel_rfl) rfl #[] rfl (by (try simp only [List.map_toArray, List.map_cons, List.map_nil]); first | done | rfl | (simp only [List.length_drop, List.length_take]; rfl)) ?_; (with_reducible refine (quarrylaw10_awake.calls k  true _ ?tabk A3.out).mono ?_); (case tabk => exact TK_.out.step (by repeat (first | (with_reducible first | exact HB.out | apply below_alloc | apply pw_below_drewN | apply below_drew1) | exact HB.out))); rintro e w8 ⟨rfl, hb⟩; refine ⟨_, rfl, ?_⟩; have n0_ := Aside0.mk (below_step (by repeat (first | (with_reducible first | exact HB.out | apply below_alloc | apply pw_below_drewN | apply below_drew1) | exact HB.out)) hb); clear HB; have HB := n0_; clear n0_; (try clear hb); (try clear hb2); (try clear hk); (try clear hi)) | ((with_reducible refine gate_callee (f := 39) rfl ?_); refine goesL_ (some 17) rfl rfl Tryd.func39 (by kernel_rfl) rfl #[.string a0, .int .i64 a1] rfl (by (try simp only [List.map_toArray, List.map_cons, List.map_nil]); first | done | rfl | (simp only [List.length_drop, List.length_take]; rfl)) ?_; (with_reducible refine (levels_Close.calls k a0 a1 t352 _ ?tabk A5.out).mono ?_); (case tabk => exact TK_.out.step (by repeat (first | (with_reducible first | exact HB.out | apply below_alloc | apply pw_below_drewN | apply below_drew1) | exact HB.out))); rintro e w9 ⟨rfl, hb⟩; refine ⟨_, rfl, ?_⟩; have n0_ := Aside0.mk (below_step (by repeat (first | (with_reducible first | exact HB.out | apply below_alloc | apply pw_below_drewN | apply below_drew1) | exact HB.out)) hb); clear HB; have HB := n0_; clear n0_; (try clear hb); (try clear hb2); (try clear hk); (try clear hi)) | ((with_reducible refine gate_callee (f := 22) rfl ?_); refine goesL_ (some 20) rfl rfl Tryd.func22 (by kernel_rfl) rfl #[.string a0, .int .i64 a1] rfl (by (try simp only [List.map_toArray, List.map_cons, List.map_nil]); first | done | rfl | (simp only [List.length_drop, List.length_take]; rfl)) ?_; (with_reducible refine (marks_Kind.calls k a0 a1 t353 _ A6.out).mono ?_); rintro e w10 ⟨rfl, hb⟩; refine ⟨_, rfl, ?_⟩; have n0_ := Aside0.mk (below_step (by repeat (first | (with_reducible first | exact HB.out | apply below_alloc | apply pw_below_drewN | apply below_drew1) | exact HB.out)) hb); clear HB; have HB := n0_; clear n0_; (try clear hb); (try clear hb2); (try clear hk); (try clear hi)))
    (try simp only [Act.put, List.setIfInBounds_toArray, List.set_cons_zero, List.set_cons_succ])
    go_cut [26] (fun v26 wc => ∃ (kq : Nat) (x26_6 : Bool), v26 = .bool x26_6 ∧ Aside0 (quarrylaw10_LevelsSteps.j0 kq a0 a1 t352 x26_6 = some r) ∧ Aside0 (kq ≤ k) ∧ Aside0 (Below w.heap.size w wc))
    case first =>
      have H := HC7.out
      clear HC7
      by_cases c11 : t353 = 123
      · rw [if_pos c11] at H
        have c11b0 : (t353 == 123) = true := beq_iff_eq.mpr c11
        have c11b1 : (t353 != 123) = false := bne_eq_false_iff_eq.mpr c11
        clear c11
        (first | rw [c11b0] | (simp only [i64_w, i32_w]; rw [c11b0]) | skip)
        have H' := Aside0.mk H
        clear H
        go_wp2
        go_meet
        case rel => exact ⟨_, (false), (by first | rfl | (simp; done) | (simp [*]; done)), H', ⟨by first | omega | exact Nat.le_refl _⟩, ⟨by repeat (first | (with_reducible first | exact HB.out | apply below_alloc | apply pw_below_drewN | apply below_drew1) | exact HB.out)⟩⟩
      · rw [if_neg c11] at H
        have c11b0 : (t353 == 123) = false := beq_eq_false_iff_ne.mpr c11
        have c11b1 : (t353 != 123) = true := bne_iff_ne.mpr c11
        (first | rw [c11b0] | (simp only [i64_w, i32_w]; rw [c11b0]) | skip)
        have H' := Aside0.mk H
        clear H
        go_wp2
        go_meet
        case rel => exact ⟨_, ((t353 != 91)), (by first | rfl | (simp; done) | (simp [*]; done)), H', ⟨by first | omega | exact Nat.le_refl _⟩, ⟨by repeat (first | (with_reducible first | exact HB.out | apply below_alloc | apply pw_below_drewN | apply below_drew1) | exact HB.out)⟩⟩
    case rest =>
      clear HC7
      try clear c1
      try clear c2
      try clear p2
      try clear c3
      try clear c4
      try clear c9
      try clear c11
      try clear c11b0
      try clear c11b1
      obtain ⟨kq, x26_6, rfl, HA, HJ6, HB⟩ := hcut
      cases kq with
      | zero => exact absurd HA.out (by simp [quarrylaw10_LevelsSteps.j0])
      | succ kj6 =>
        have H := HA.out
        clear HA
        simp only [quarrylaw10_LevelsSteps.j0] at H
        by_cases c12 : x26_6 = true
        · subst c12
          have H1 : (some (t352 == (-1))) = some r := by rw [if_pos rfl] at H; exact H
          clear H
          have H := H1
          clear H1
          obtain rfl := Option.some.inj H
          go_wp2
          go_ret
          exact ⟨by first | rfl | (simp [errW_none, errW_some] <;> rfl) | (simp [*, errW_none, errW_some] <;> rfl), by repeat (first | (with_reducible first | exact HB.out | apply below_alloc | apply pw_below_drewN | apply below_drew1) | exact HB.out)⟩
        · replace c12 := Bool.eq_false_iff.mpr c12
          subst c12
          have H1 : (if t352 < (-1) then (quarrylaw10_LevelsSteps.j1 kj6 a0 a1 t352 true) else (if t352 ≥ 0 then (if t352 ≤ a1 then (quarrylaw10_LevelsSteps.j1 kj6 a0 a1 t352 true) else (quarrylaw10_LevelsSteps.j1 kj6 a0 a1 t352 (decide (t352 ≥ (a0.size : Int))))) else (quarrylaw10_LevelsSteps.j1 kj6 a0 a1 t352 false))) = some r := by rw [if_neg (show ¬ (false = true) by decide)] at H; exact H
          clear H
          have H := H1
          clear H1
          have HC13 := Aside0.mk H
          clear H
          go_upto_region 7 with (fail)
          go_cut [45] (fun v45 wc => ∃ (kq : Nat) (x45_12 : Bool), v45 = .bool x45_12 ∧ Aside0 (quarrylaw10_LevelsSteps.j1 kq a0 a1 t352 x45_12 = some r) ∧ Aside0 (kq ≤ kj6) ∧ Aside0 (Below w.heap.size w wc))
          case first =>
            have H := HC13.out
            clear HC13
            by_cases c14 : t352 < (-1)
            · rw [if_pos c14] at H
              have c14b0 : decide (t352 < (-1)) = true := decide_eq_true c14
              clear c14
              (first | rw [c14b0] | (simp only [i64_w, i32_w]; rw [c14b0]) | skip)
              have H' := Aside0.mk H
              clear H
              go_wp2
              go_meet
              case rel => exact ⟨_, (true), (by first | rfl | (simp; done) | (simp [*]; done)), H', ⟨by have := HJ6.out; first | omega | exact Nat.le_refl _⟩, ⟨by repeat (first | (with_reducible first | exact HB.out | apply below_alloc | apply pw_below_drewN | apply below_drew1) | exact HB.out)⟩⟩
            · rw [if_neg c14] at H
              have c14b0 : decide (t352 < (-1)) = false := decide_eq_false c14
              clear c14
              (first | rw [c14b0] | (simp only [i64_w, i32_w]; rw [c14b0]) | skip)
              by_cases c15 : t352 ≥ 0
              · rw [if_pos c15] at H
                have c15b0 : decide (0 ≤ t352) = true := decide_eq_true c15
                clear c15
                by_cases c16 : t352 ≤ a1
                · rw [if_pos c16] at H
                  have c16b0 : decide (t352 ≤ a1) = true := decide_eq_true c16
                  clear c16
                  have H' := Aside0.mk H
                  clear H
                  go_wp2
                  go_meet
                  case rel => exact ⟨_, (true), (by first | rfl | (simp; done) | (simp [*]; done)), H', ⟨by have := HJ6.out; first | omega | exact Nat.le_refl _⟩, ⟨by repeat (first | (with_reducible first | exact HB.out | apply below_alloc | apply pw_below_drewN | apply below_drew1) | exact HB.out)⟩⟩
                · rw [if_neg c16] at H
                  have c16b0 : decide (t352 ≤ a1) = false := decide_eq_false c16
                  clear c16
                  have H' := Aside0.mk H
                  clear H
                  go_wp2
                  go_meet
                  case rel => exact ⟨_, (decide (t352 ≥ (a0.size : Int))), (by first | rfl | (simp; done) | (simp [*]; done)), H', ⟨by have := HJ6.out; first | omega | exact Nat.le_refl _⟩, ⟨by repeat (first | (with_reducible first | exact HB.out | apply below_alloc | apply pw_below_drewN | apply below_drew1) | exact HB.out)⟩⟩
              · rw [if_neg c15] at H
                have c15b0 : decide (0 ≤ t352) = false := decide_eq_false c15
                clear c15
                have H' := Aside0.mk H
                clear H
                go_wp2
                go_meet
                case rel => exact ⟨_, (false), (by first | rfl | (simp; done) | (simp [*]; done)), H', ⟨by have := HJ6.out; first | omega | exact Nat.le_refl _⟩, ⟨by repeat (first | (with_reducible first | exact HB.out | apply below_alloc | apply pw_below_drewN | apply below_drew1) | exact HB.out)⟩⟩
          case rest =>
            clear HC13
            try clear c1
            try clear c2
            try clear p2
            try clear c3
            try clear c4
            try clear c9
            try clear c11
            try clear c11b0
            try clear c11b1
            try clear c12
            try clear c14
            try clear c14b0
            try clear c15
            try clear c15b0
            try clear c16
            try clear c16b0
            try clear p2
            obtain ⟨kq, x45_12, rfl, HA, HJ12, HB⟩ := hcut
            cases kq with
            | zero => exact absurd HA.out (by simp [quarrylaw10_LevelsSteps.j1])
            | succ kj12 =>
              have H := HA.out
              clear HA
              simp only [quarrylaw10_LevelsSteps.j1] at H
              by_cases c17 : x45_12 = true
              · subst c17
                have H1 : (some false) = some r := by rw [if_pos rfl] at H; exact H
                clear H
                have H := H1
                clear H1
                obtain rfl := Option.some.inj H
                go_wp2
                go_ret
                exact ⟨by first | rfl | (simp [errW_none, errW_some] <;> rfl) | (simp [*, errW_none, errW_some] <;> rfl), by repeat (first | (with_reducible first | exact HB.out | apply below_alloc | apply pw_below_drewN | apply below_drew1) | exact HB.out)⟩
              · replace c17 := Bool.eq_false_iff.mpr c17
                subst c17
                have H1 : ((levels_Depth.f a0 a1).bind fun t354 => (quarrylaw10_LevelsSteps.l0 kj12 a0 a1 t352 t354 t354 a1)) = some r := by rw [if_neg (show ¬ (false = true) by decide)] at H; exact H
                clear H
                have H := H1
                clear H1
                replace H := Option.bind_eq_some_iff.mp H
                obtain ⟨t354, A180, H⟩ := H
                replace H : (quarrylaw10_LevelsSteps.l0 kj12 a0 a1 t352 t354 t354 a1) = some r := H
                have A18 := Aside0.mk A180
                clear A180
                have H' := Aside0.mk H
                clear H
                go_wp2_with (first | ((with_reducible refine gate_callee (f := 37) rfl ?_); refine goesL_ (some 48) rfl rfl Tryd.func37 (by kernel_rfl) rfl #[.string a0, .int .i64 a1] rfl (by (try simp only [List.map_toArray, List.map_cons, List.map_nil]); first | done | rfl | (simp only [List.length_drop, List.length_take]; rfl)) ?_; (with_reducible refine (levels_Depth.calls a0 a1 t354 _ ?tabk A18.out).mono ?_); (case tabk => exact TK_.out.step (by repeat (first | (with_reducible first | exact HB.out | apply below_alloc | apply pw_below_drewN | apply below_drew1) | exact HB.out))); rintro e w19 ⟨rfl, hb⟩; refine ⟨_, rfl, ?_⟩; have n0_ := Aside0.mk (below_step (by repeat (first | (with_reducible first | exact HB.out | apply below_alloc | apply pw_below_drewN | apply below_drew1) | exact HB.out)) hb); clear HB; have HB := n0_; clear n0_; (try clear hb); (try clear hb2); (try clear hk); (try clear hi)))
                go_loopg [8, 9] kj12 (fun kq v8 v9 w' => ∃ (x8_3 : Int) (x9_3 : Int), v8 = .int .i64 x8_3 ∧ v9 = .int .i64 x9_3 ∧ Aside0 (quarrylaw10_LevelsSteps.l0 kq a0 a1 t352 t354 x8_3 x9_3 = some r) ∧ Aside0 (kq ≤ kj12) ∧ Aside0 (Below w.heap.size w w'))
                case atStart => exact ⟨(t354), (a1), (by first | rfl | (simp; done) | (simp [*]; done)), (by first | rfl | (simp; done) | (simp [*]; done)), H', ⟨Nat.le_refl _⟩, ⟨by repeat (first | (with_reducible first | exact HB.out | apply below_alloc | apply pw_below_drewN | apply below_drew1) | exact HB.out)⟩⟩
                case round =>
                  clear H'
                  try clear c1
                  try clear c2
                  try clear p2
                  try clear c3
                  try clear c4
                  try clear c9
                  try clear c11
                  try clear c11b0
                  try clear c11b1
                  try clear c12
                  try clear c14
                  try clear c14b0
                  try clear c15
                  try clear c15b0
                  try clear c16
                  try clear c16b0
                  try clear c17
                  try clear p2
                  obtain ⟨x8_3, x9_3, rfl, rfl, HA, HK3, HB⟩ := hrel
                  cases gk with
                  | zero => exact absurd HA.out (by simp [quarrylaw10_LevelsSteps.l0])
                  | succ k3 =>
                    have H := HA.out
                    clear HA
                    simp only [quarrylaw10_LevelsSteps.l0] at H
                    by_cases c20 : x9_3 < (a0.size : Int)
                    · rw [if_pos c20] at H
                      have c20b0 : decide (x9_3 < (a0.size : Int)) = true := decide_eq_true c20
                      clear c20
                      replace H := Option.bind_eq_some_iff.mp H
                      obtain ⟨t355, A210, H⟩ := H
                      replace H : ((levels_Depth.f a0 (wrap64 (x9_3 + 1))).bind fun t356 => (if t355 = 123 then (quarrylaw10_LevelsSteps.j3 k3 a0 a1 t352 t354 x8_3 x9_3 t355 t356 x8_3 true) else (quarrylaw10_LevelsSteps.j3 k3 a0 a1 t352 t354 x8_3 x9_3 t355 t356 x8_3 (t355 == 91)))) = some r := H
                      have A21 := Aside0.mk A210
                      clear A210
                      replace H := Option.bind_eq_some_iff.mp H
                      obtain ⟨t356, A220, H⟩ := H
                      replace H : (if t355 = 123 then (quarrylaw10_LevelsSteps.j3 k3 a0 a1 t352 t354 x8_3 x9_3 t355 t356 x8_3 true) else (quarrylaw10_LevelsSteps.j3 k3 a0 a1 t352 t354 x8_3 x9_3 t355 t356 x8_3 (t355 == 91))) = some r := H
                      have A22 := Aside0.mk A220
                      clear A220
                      have HC23 := Aside0.mk H
                      clear H
                      go_upto_region 17 with (first | ((with_reducible refine gate_callee (f := 22) rfl ?_); refine goesL_ (some 59) rfl rfl Tryd.func22 (by kernel_rfl) rfl #[.string a0, .int .i64 x9_3] rfl (by (try simp only [List.map_toArray, List.map_cons, List.map_nil]); first | done | rfl | (simp only [List.length_drop, List.length_take]; rfl)) ?_; (with_reducible refine (marks_Kind.calls k3 a0 x9_3 t355 _ A21.out).mono ?_); rintro e w24 ⟨rfl, hb⟩; refine ⟨_, rfl, ?_⟩; have n0_ := Aside0.mk (below_step (by repeat (first | (with_reducible first | exact HB.out | apply below_alloc | apply pw_below_drewN | apply below_drew1) | exact HB.out)) hb); clear HB; have HB := n0_; clear n0_; (try clear hb); (try clear hb2); (try clear hk); (try clear hi)) | ((with_reducible refine gate_callee (f := 37) rfl ?_); refine goesL_ (some 63) rfl rfl Tryd.func37 (by kernel_rfl) rfl #[.string a0, .int .i64 (wrap64 (x9_3 + 1))] rfl (by (try simp only [List.map_toArray, List.map_cons, List.map_nil]); first | done | rfl | (simp only [List.length_drop, List.length_take]; rfl)) ?_; (with_reducible refine (levels_Depth.calls a0 (wrap64 (x9_3 + 1)) t356 _ ?tabk A22.out).mono ?_); (case tabk => exact TK_.out.step (by repeat (first | (with_reducible first | exact HB.out | apply below_alloc | apply pw_below_drewN | apply below_drew1) | exact HB.out))); rintro e w25 ⟨rfl, hb⟩; refine ⟨_, rfl, ?_⟩; have n0_ := Aside0.mk (below_step (by repeat (first | (with_reducible first | exact HB.out | apply below_alloc | apply pw_below_drewN | apply below_drew1) | exact HB.out)) hb); clear HB; have HB := n0_; clear n0_; (try clear hb); (try clear hb2); (try clear hk); (try clear hi)))
                      (try simp only [Act.put, List.setIfInBounds_toArray, List.set_cons_zero, List.set_cons_succ])
                      go_cut [70] (fun v70 wc => ∃ (kq : Nat) (x70_22 : Bool), v70 = .bool x70_22 ∧ Aside0 (quarrylaw10_LevelsSteps.j3 kq a0 a1 t352 t354 x8_3 x9_3 t355 t356 x8_3 x70_22 = some r) ∧ Aside0 (kq ≤ k3) ∧ Aside0 (Below w.heap.size w wc))
                      case first =>
                        have H := HC23.out
                        clear HC23
                        by_cases c26 : t355 = 123
                        · rw [if_pos c26] at H
                          have c26b0 : (t355 == 123) = true := beq_iff_eq.mpr c26
                          have c26b1 : (t355 != 123) = false := bne_eq_false_iff_eq.mpr c26
                          clear c26
                          (first | rw [c26b0] | (simp only [i64_w, i32_w]; rw [c26b0]) | skip)
                          have H' := Aside0.mk H
                          clear H
                          go_wp2
                          go_meet
                          case rel => exact ⟨_, (true), (by first | rfl | (simp; done) | (simp [*]; done)), H', ⟨by have := HJ6.out; have := HJ12.out; have := HK3.out; first | omega | exact Nat.le_refl _⟩, ⟨by repeat (first | (with_reducible first | exact HB.out | apply below_alloc | apply pw_below_drewN | apply below_drew1) | exact HB.out)⟩⟩
                        · rw [if_neg c26] at H
                          have c26b0 : (t355 == 123) = false := beq_eq_false_iff_ne.mpr c26
                          have c26b1 : (t355 != 123) = true := bne_iff_ne.mpr c26
                          (first | rw [c26b0] | (simp only [i64_w, i32_w]; rw [c26b0]) | skip)
                          have H' := Aside0.mk H
                          clear H
                          go_wp2
                          go_meet
                          case rel => exact ⟨_, ((t355 == 91)), (by first | rfl | (simp; done) | (simp [*]; done)), H', ⟨by have := HJ6.out; have := HJ12.out; have := HK3.out; first | omega | exact Nat.le_refl _⟩, ⟨by repeat (first | (with_reducible first | exact HB.out | apply below_alloc | apply pw_below_drewN | apply below_drew1) | exact HB.out)⟩⟩
                      case rest =>
                        clear HC23
                        try clear c1
                        try clear c2
                        try clear p2
                        try clear c3
                        try clear c4
                        try clear p6
                        try clear c9
                        try clear c11
                        try clear c11b0
                        try clear c11b1
                        try clear c12
                        try clear c14
                        try clear c14b0
                        try clear c15
                        try clear c15b0
                        try clear c16
                        try clear c16b0
                        try clear c17
                        try clear c20
                        try clear c20b0
                        try clear c22
                        try clear c26
                        try clear c26b0
                        try clear c26b1
                        try clear p2
                        obtain ⟨kq, x70_22, rfl, HA, HJ22, HB⟩ := hcut
                        cases kq with
                        | zero => exact absurd HA.out (by simp [quarrylaw10_LevelsSteps.j3])
                        | succ kj22 =>
                          have H := HA.out
                          clear HA
                          simp only [quarrylaw10_LevelsSteps.j3] at H
                          have HC27 := Aside0.mk H
                          clear H
                          go_upto_if 70 with (fail)
                          go_cut [12] (fun v12 wc => ∃ (kq : Nat) (x12_26 : Int), v12 = .int .i64 x12_26 ∧ Aside0 (quarrylaw10_LevelsSteps.j4 kq a0 a1 t352 t354 x8_3 x9_3 t355 t356 x12_26 = some r) ∧ Aside0 (kq ≤ kj22) ∧ Aside0 (Below w.heap.size w wc))
                          case first =>
                            have H := HC27.out
                            clear HC27
                            by_cases c28 : x70_22 = true
                            · subst c28
                              have H1 : (quarrylaw10_LevelsSteps.j4 kj22 a0 a1 t352 t354 x8_3 x9_3 t355 t356 (wrap64 (x8_3 + 1))) = some r := by rw [if_pos rfl] at H; exact H
                              clear H
                              have H := H1
                              clear H1
                              have H' := Aside0.mk H
                              clear H
                              go_wp2
                              go_meet
                              case rel => exact ⟨_, (wrap64 (x8_3 + 1)), (by first | rfl | (simp; done) | (simp [*]; done)), H', ⟨by have := HJ6.out; have := HJ12.out; have := HK3.out; have := HJ22.out; first | omega | exact Nat.le_refl _⟩, ⟨by repeat (first | (with_reducible first | exact HB.out | apply below_alloc | apply pw_below_drewN | apply below_drew1) | exact HB.out)⟩⟩
                            · replace c28 := Bool.eq_false_iff.mpr c28
                              subst c28
                              have H1 : (quarrylaw10_LevelsSteps.j4 kj22 a0 a1 t352 t354 x8_3 x9_3 t355 t356 x8_3) = some r := by rw [if_neg (show ¬ (false = true) by decide)] at H; exact H
                              clear H
                              have H := H1
                              clear H1
                              have H' := Aside0.mk H
                              clear H
                              go_wp2
                              go_meet
                              case rel => exact ⟨_, (x8_3), (by first | rfl | (simp; done) | (simp [*]; done)), H', ⟨by have := HJ6.out; have := HJ12.out; have := HK3.out; have := HJ22.out; first | omega | exact Nat.le_refl _⟩, ⟨by repeat (first | (with_reducible first | exact HB.out | apply below_alloc | apply pw_below_drewN | apply below_drew1) | exact HB.out)⟩⟩
                          case rest =>
                            clear HC27
                            try clear c1
                            try clear c2
                            try clear p2
                            try clear c3
                            try clear c4
                            try clear p6
                            try clear c9
                            try clear c11
                            try clear c11b0
                            try clear c11b1
                            try clear c12
                            try clear c14
                            try clear c14b0
                            try clear c15
                            try clear c15b0
                            try clear c16
                            try clear c16b0
                            try clear c17
                            try clear c20
                            try clear c20b0
                            try clear c22
                            try clear c26
                            try clear c26b0
                            try clear c26b1
                            try clear c28
                            try clear p2
                            try clear p6
                            obtain ⟨kq, x12_26, rfl, HA, HJ26, HB⟩ := hcut
                            cases kq with
                            | zero => exact absurd HA.out (by simp [quarrylaw10_LevelsSteps.j4])
                            | succ kj26 =>
                              have H := HA.out
                              clear HA
                              simp only [quarrylaw10_LevelsSteps.j4] at H
                              have HC29 := Aside0.mk H
                              clear H
                              go_upto_region 19 with (fail)
                              go_cut [78] (fun v78 wc => ∃ (kq : Nat) (x78_28 : Bool), v78 = .bool x78_28 ∧ Aside0 (quarrylaw10_LevelsSteps.j5 kq a0 a1 t352 t354 x8_3 x9_3 t355 t356 x12_26 x78_28 = some r) ∧ Aside0 (kq ≤ kj26) ∧ Aside0 (Below w.heap.size w wc))
                              case first =>
                                have H := HC29.out
                                clear HC29
                                by_cases c30 : t355 = 125
                                · rw [if_pos c30] at H
                                  have c30b0 : (t355 == 125) = true := beq_iff_eq.mpr c30
                                  have c30b1 : (t355 != 125) = false := bne_eq_false_iff_eq.mpr c30
                                  clear c30
                                  (first | rw [c30b0] | (simp only [i64_w, i32_w]; rw [c30b0]) | skip)
                                  have H' := Aside0.mk H
                                  clear H
                                  go_wp2
                                  go_meet
                                  case rel => exact ⟨_, (true), (by first | rfl | (simp; done) | (simp [*]; done)), H', ⟨by have := HJ6.out; have := HJ12.out; have := HK3.out; have := HJ22.out; have := HJ26.out; first | omega | exact Nat.le_refl _⟩, ⟨by repeat (first | (with_reducible first | exact HB.out | apply below_alloc | apply pw_below_drewN | apply below_drew1) | exact HB.out)⟩⟩
                                · rw [if_neg c30] at H
                                  have c30b0 : (t355 == 125) = false := beq_eq_false_iff_ne.mpr c30
                                  have c30b1 : (t355 != 125) = true := bne_iff_ne.mpr c30
                                  (first | rw [c30b0] | (simp only [i64_w, i32_w]; rw [c30b0]) | skip)
                                  have H' := Aside0.mk H
                                  clear H
                                  go_wp2
                                  go_meet
                                  case rel => exact ⟨_, ((t355 == 93)), (by first | rfl | (simp; done) | (simp [*]; done)), H', ⟨by have := HJ6.out; have := HJ12.out; have := HK3.out; have := HJ22.out; have := HJ26.out; first | omega | exact Nat.le_refl _⟩, ⟨by repeat (first | (with_reducible first | exact HB.out | apply below_alloc | apply pw_below_drewN | apply below_drew1) | exact HB.out)⟩⟩
                              case rest =>
                                clear HC29
                                try clear c1
                                try clear c2
                                try clear p2
                                try clear c3
                                try clear c4
                                try clear p6
                                try clear c9
                                try clear c11
                                try clear c11b0
                                try clear c11b1
                                try clear c12
                                try clear c14
                                try clear c14b0
                                try clear c15
                                try clear c15b0
                                try clear c16
                                try clear c16b0
                                try clear c17
                                try clear c20
                                try clear c20b0
                                try clear c22
                                try clear c26
                                try clear c26b0
                                try clear c26b1
                                try clear c28
                                try clear c29
                                try clear c30
                                try clear c30b0
                                try clear c30b1
                                try clear p2
                                try clear p6
                                obtain ⟨kq, x78_28, rfl, HA, HJ28, HB⟩ := hcut
                                cases kq with
                                | zero => exact absurd HA.out (by simp [quarrylaw10_LevelsSteps.j5])
                                | succ kj28 =>
                                  have H := HA.out
                                  clear HA
                                  simp only [quarrylaw10_LevelsSteps.j5] at H
                                  have HC31 := Aside0.mk H
                                  clear H
                                  go_upto_if 78 with (fail)
                                  go_cut [12] (fun v12 wc => ∃ (kq : Nat) (x12_30 : Int), v12 = .int .i64 x12_30 ∧ Aside0 (quarrylaw10_LevelsSteps.j6 kq a0 a1 t352 t354 x9_3 t355 t356 x12_30 = some r) ∧ Aside0 (kq ≤ kj28) ∧ Aside0 (Below w.heap.size w wc))
                                  case first =>
                                    have H := HC31.out
                                    clear HC31
                                    by_cases c32 : x78_28 = true
                                    · subst c32
                                      have H1 : (quarrylaw10_LevelsSteps.j6 kj28 a0 a1 t352 t354 x9_3 t355 t356 (wrap64 (x8_3 - 1))) = some r := by rw [if_pos rfl] at H; exact H
                                      clear H
                                      have H := H1
                                      clear H1
                                      have H' := Aside0.mk H
                                      clear H
                                      go_wp2
                                      go_meet
                                      case rel => exact ⟨_, (wrap64 (x8_3 - 1)), (by first | rfl | (simp; done) | (simp [*]; done)), H', ⟨by have := HJ6.out; have := HJ12.out; have := HK3.out; have := HJ22.out; have := HJ26.out; have := HJ28.out; first | omega | exact Nat.le_refl _⟩, ⟨by repeat (first | (with_reducible first | exact HB.out | apply below_alloc | apply pw_below_drewN | apply below_drew1) | exact HB.out)⟩⟩
                                    · replace c32 := Bool.eq_false_iff.mpr c32
                                      subst c32
                                      have H1 : (quarrylaw10_LevelsSteps.j6 kj28 a0 a1 t352 t354 x9_3 t355 t356 x12_26) = some r := by rw [if_neg (show ¬ (false = true) by decide)] at H; exact H
                                      clear H
                                      have H := H1
                                      clear H1
                                      have H' := Aside0.mk H
                                      clear H
                                      go_wp2
                                      go_meet
                                      case rel => exact ⟨_, (x12_26), (by first | rfl | (simp; done) | (simp [*]; done)), H', ⟨by have := HJ6.out; have := HJ12.out; have := HK3.out; have := HJ22.out; have := HJ26.out; have := HJ28.out; first | omega | exact Nat.le_refl _⟩, ⟨by repeat (first | (with_reducible first | exact HB.out | apply below_alloc | apply pw_below_drewN | apply below_drew1) | exact HB.out)⟩⟩
                                  case rest =>
                                    clear HC31
                                    try clear c1
                                    try clear c2
                                    try clear p2
                                    try clear c3
                                    try clear c4
                                    try clear p6
                                    try clear c9
                                    try clear c11
                                    try clear c11b0
                                    try clear c11b1
                                    try clear c12
                                    try clear c14
                                    try clear c14b0
                                    try clear c15
                                    try clear c15b0
                                    try clear c16
                                    try clear c16b0
                                    try clear c17
                                    try clear c20
                                    try clear c20b0
                                    try clear c22
                                    try clear c26
                                    try clear c26b0
                                    try clear c26b1
                                    try clear c28
                                    try clear c29
                                    try clear c30
                                    try clear c30b0
                                    try clear c30b1
                                    try clear c32
                                    try clear p2
                                    try clear p6
                                    obtain ⟨kq, x12_30, rfl, HA, HJ30, HB⟩ := hcut
                                    cases kq with
                                    | zero => exact absurd HA.out (by simp [quarrylaw10_LevelsSteps.j6])
                                    | succ kj30 =>
                                      have H := HA.out
                                      clear HA
                                      simp only [quarrylaw10_LevelsSteps.j6] at H
                                      by_cases c33 : t356 = x12_30
                                      · rw [if_pos c33] at H
                                        have c33b0 : (t356 == x12_30) = true := beq_iff_eq.mpr c33
                                        have c33b1 : (t356 != x12_30) = false := bne_eq_false_iff_eq.mpr c33
                                        clear c33
                                        by_cases c34 : x9_3 = t352
                                        · rw [if_pos c34] at H
                                          have c34b0 : (x9_3 == t352) = true := beq_iff_eq.mpr c34
                                          have c34b1 : (x9_3 != t352) = false := bne_eq_false_iff_eq.mpr c34
                                          clear c34
                                          by_cases c35 : t356 = t354
                                          · rw [if_pos c35] at H
                                            have c35b0 : (t356 == t354) = true := beq_iff_eq.mpr c35
                                            have c35b1 : (t356 != t354) = false := bne_eq_false_iff_eq.mpr c35
                                            clear c35
                                            by_cases c36 : t355 = 125
                                            · rw [if_pos c36] at H
                                              have c36b0 : (t355 == 125) = true := beq_iff_eq.mpr c36
                                              have c36b1 : (t355 != 125) = false := bne_eq_false_iff_eq.mpr c36
                                              clear c36
                                              obtain rfl := Option.some.inj H
                                              go_wp2
                                              go_ret
                                              exact ⟨by first | rfl | (simp [errW_none, errW_some] <;> rfl) | (simp [*, errW_none, errW_some] <;> rfl), by repeat (first | (with_reducible first | exact HB.out | apply below_alloc | apply pw_below_drewN | apply below_drew1) | exact HB.out)⟩
                                            · rw [if_neg c36] at H
                                              have c36b0 : (t355 == 125) = false := beq_eq_false_iff_ne.mpr c36
                                              have c36b1 : (t355 != 125) = true := bne_iff_ne.mpr c36
                                              obtain rfl := Option.some.inj H
                                              go_wp2
                                              go_ret
                                              exact ⟨by first | rfl | (simp [errW_none, errW_some] <;> rfl) | (simp [*, errW_none, errW_some] <;> rfl), by repeat (first | (with_reducible first | exact HB.out | apply below_alloc | apply pw_below_drewN | apply below_drew1) | exact HB.out)⟩
                                          · rw [if_neg c35] at H
                                            have c35b0 : (t356 == t354) = false := beq_eq_false_iff_ne.mpr c35
                                            have c35b1 : (t356 != t354) = true := bne_iff_ne.mpr c35
                                            obtain rfl := Option.some.inj H
                                            go_wp2
                                            go_ret
                                            exact ⟨by first | rfl | (simp [errW_none, errW_some] <;> rfl) | (simp [*, errW_none, errW_some] <;> rfl), by repeat (first | (with_reducible first | exact HB.out | apply below_alloc | apply pw_below_drewN | apply below_drew1) | exact HB.out)⟩
                                        · rw [if_neg c34] at H
                                          have c34b0 : (x9_3 == t352) = false := beq_eq_false_iff_ne.mpr c34
                                          have c34b1 : (x9_3 != t352) = true := bne_iff_ne.mpr c34
                                          by_cases c37 : t356 = t354
                                          · rw [if_pos c37] at H
                                            have c37b0 : (t356 == t354) = true := beq_iff_eq.mpr c37
                                            have c37b1 : (t356 != t354) = false := bne_eq_false_iff_eq.mpr c37
                                            clear c37
                                            obtain rfl := Option.some.inj H
                                            go_wp2
                                            go_ret
                                            exact ⟨by first | rfl | (simp [errW_none, errW_some] <;> rfl) | (simp [*, errW_none, errW_some] <;> rfl), by repeat (first | (with_reducible first | exact HB.out | apply below_alloc | apply pw_below_drewN | apply below_drew1) | exact HB.out)⟩
                                          · rw [if_neg c37] at H
                                            have c37b0 : (t356 == t354) = false := beq_eq_false_iff_ne.mpr c37
                                            have c37b1 : (t356 != t354) = true := bne_iff_ne.mpr c37
                                            by_cases c38 : x9_3 > (wrap64 (a1 + 200))
                                            · rw [if_pos c38] at H
                                              have c38b0 : decide ((wrap64 (a1 + 200)) < x9_3) = true := decide_eq_true c38
                                              clear c38
                                              obtain rfl := Option.some.inj H
                                              go_wp2
                                              go_ret
                                              exact ⟨by first | rfl | (simp [errW_none, errW_some] <;> rfl) | (simp [*, errW_none, errW_some] <;> rfl), by repeat (first | (with_reducible first | exact HB.out | apply below_alloc | apply pw_below_drewN | apply below_drew1) | exact HB.out)⟩
                                            · rw [if_neg c38] at H
                                              have c38b0 : decide ((wrap64 (a1 + 200)) < x9_3) = false := decide_eq_false c38
                                              clear c38
                                              have H' := Aside0.mk H
                                              clear H
                                              go_wp2
                                              go_roundg kj30
                                              case measure => have := HJ6.out; have := HJ12.out; have := HK3.out; have := HJ22.out; have := HJ26.out; have := HJ28.out; have := HJ30.out; omega
                                              case rel => exact ⟨(t356), (wrap64 (x9_3 + 1)), (by first | rfl | (simp; done) | (simp [*]; done)), (by first | rfl | (simp; done) | (simp [*]; done)), H', ⟨by have := HJ6.out; have := HJ12.out; have := HK3.out; have := HJ22.out; have := HJ26.out; have := HJ28.out; have := HJ30.out; omega⟩, ⟨by repeat (first | (with_reducible first | exact HB.out | apply below_alloc | apply pw_below_drewN | apply below_drew1) | exact HB.out)⟩⟩
                                      · rw [if_neg c33] at H
                                        have c33b0 : (t356 == x12_30) = false := beq_eq_false_iff_ne.mpr c33
                                        have c33b1 : (t356 != x12_30) = true := bne_iff_ne.mpr c33
                                        obtain rfl := Option.some.inj H
                                        go_wp2
                                        go_ret
                                        exact ⟨by first | rfl | (simp [errW_none, errW_some] <;> rfl) | (simp [*, errW_none, errW_some] <;> rfl), by repeat (first | (with_reducible first | exact HB.out | apply below_alloc | apply pw_below_drewN | apply below_drew1) | exact HB.out)⟩
                    · rw [if_neg c20] at H
                      have c20b0 : decide (x9_3 < (a0.size : Int)) = false := decide_eq_false c20
                      clear c20
                      obtain rfl := Option.some.inj H
                      go_wp2
                      go_ret
                      exact ⟨by first | rfl | (simp [errW_none, errW_some] <;> rfl) | (simp [*, errW_none, errW_some] <;> rfl), by repeat (first | (with_reducible first | exact HB.out | apply below_alloc | apply pw_below_drewN | apply below_drew1) | exact HB.out)⟩
  · replace c4 := Bool.eq_false_iff.mpr c4
    subst c4
    have H1 : (some false) = some r := by rw [if_neg (show ¬ (false = true) by decide)] at H; exact H
    clear H
    have H := H1
    clear H1
    obtain rfl := Option.some.inj H
    go_enter Tryd.func9, Tryd.ntmps9
    go_wp2_with (first | ((with_reducible refine gate_callee (f := 29) rfl ?_); refine goesL_ (some 13) rfl rfl Tryd.func29 (by kernel_rfl) rfl #[] rfl (by (try simp only [List.map_toArray, List.map_cons, List.map_nil]); first | done | rfl | (simp only [List.length_drop, List.length_take]; rfl)) ?_; (with_reducible refine (quarrylaw10_awake.calls k  false _ ?tabk A3.out).mono ?_); (case tabk => exact TK_.out.step (by repeat (first | (with_reducible first | exact HB.out | apply below_alloc | apply pw_below_drewN | apply below_drew1) | exact HB.out))); rintro e w39 ⟨rfl, hb⟩; refine ⟨_, rfl, ?_⟩; have n0_ := Aside0.mk (below_step (by repeat (first | (with_reducible first | exact HB.out | apply below_alloc | apply pw_below_drewN | apply below_drew1) | exact HB.out)) hb); clear HB; have HB := n0_; clear n0_; (try clear hb); (try clear hb2); (try clear hk); (try clear hi)))
    go_ret
    exact ⟨by first | rfl | (simp [errW_none, errW_some] <;> rfl) | (simp [*, errW_none, errW_some] <;> rfl), by repeat (first | (with_reducible first | exact HB.out | apply below_alloc | apply pw_below_drewN | apply below_drew1) | exact HB.out)⟩

/-- THE ONE PURE STATEMENT of quarrylaw10_LevelsSteps: yours. -/
def quarrylaw10_LevelsSteps.Pure : Prop := ∀ (a0 : ByteArray) (a1 : Int), a0.size ≤ 140737488351232 → (Lit.int .i64 a1).wf = true → ∃ k, quarrylaw10_LevelsSteps.f k a0 a1 = some true
theorem quarrylaw10_LevelsSteps.walk (P : quarrylaw10_LevelsSteps.Pure) (a0 : ByteArray) (a1 : Int) (w : World) (hT : TabOk w) (w0 : a0.size ≤ 140737488351232) (w1 : (Lit.int .i64 a1).wf = true) :
    Calls Tryd.prog 9 #[.string a0, .int .i64 a1] w fun e w' => e = .returned (.bool true) ∧ Below w.heap.size w w' := by
  obtain ⟨k, h⟩ := P a0 a1 w0 w1
  refine (quarrylaw10_LevelsSteps.calls k a0 a1 true w hT h).mono ?_
  rintro e w' ⟨rfl, hd⟩
  exact ⟨rfl, hd⟩

end Go.Proofs.YtgddljealeklkaaDoor.PL
end
-- PureLevelsSteps
section
namespace Go.Proofs.YtgddljealeklkaaDoor.Pure
open Go Go.RowKit Go.Proofs.YtgddljealeklkaaDoor.PL Go.Proofs.YtgddljealeklkaaDoorW.PrintWords Go.Proofs.YtgddljealeklkaaDoorW.PrintLast Go.Proofs.YtgddljealeklkaaDoorQ
set_option linter.unusedVariables false
set_option linter.unusedSimpArgs false
theorem shl_one (m : Nat) (h : m < 64) : shl .u64 1 (m : Int) = ((2 ^ m : Nat) : Int) := by
  have : ∀ m : Fin 64, shl .u64 1 ((m.val : Nat) : Int) = ((2 ^ m.val : Nat) : Int) := by decide
  exact this ⟨m, h⟩
theorem shl_one' (m : Nat) (h : m < 64) : shl .u64 1 (m : Int) = iv (1#64 <<< m) := by
  rw [shl_one m h]
  unfold iv
  rw [BitVec.toNat_shiftLeft, Nat.shiftLeft_eq]
  have : 2 ^ m < 2 ^ 64 := Nat.pow_lt_pow_right (by decide) h
  rw [show (1#64).toNat = 1 from rfl, Nat.one_mul, Nat.mod_eq_of_lt this]
theorem and_bit (p : Nat → Bool) (m : Nat) (h : m < 64) : (bits .and .u64 (iv (word p)) (shl .u64 1 (m : Int)) = 0) ↔ p m = false := by
  rw [shl_one' m h, bits_and, show (0 : Int) = iv 0#64 from rfl, iv_inj]
  have hb : ∀ j, j < 64 → (word p &&& 1#64 <<< m).getLsbD j = (p j && decide (j = m)) := fun j hj => by
    rw [BitVec.getLsbD_and, word_bit, BitVec.getLsbD_shiftLeft, decide_eq_true hj]
    by_cases g : j < m
    · simp [g, show ¬ j = m by omega]
    · by_cases g2 : j = m
      · subst g2
        simp
      · have : (1#64).getLsbD (j - m) = false := by
          have h1 : ∀ i : Fin 64, i.val ≠ 0 → (1#64).getLsbD i.val = false := by decide
          exact h1 ⟨j - m, by omega⟩ (by show j - m ≠ 0; omega)
        simp [g, g2, this]
  constructor
  · intro e
    have := hb m h
    rw [e] at this
    simpa using this.symm
  · intro e
    apply BitVec.eq_of_getLsbD_eq
    intro j hj
    rw [hb j hj]
    by_cases g : j = m
    · subst g; rw [e]; simp
    · simp [g]
theorem wordAt_fun (n : Nat) (q : Nat → Bool) (k : Nat) : wordAt n q k = word fun i => decide (64 * k + i < n) && q (64 * k + i) := rfl
theorem ends_eq (n : Nat) (q : Nat → Bool) (k : Nat) (h : 64 * k + 63 < n) (a b c : Int) : marks_rows_ends.f a b c (iv (wordAt n q k)) = some (q (64 * k + 63)) := by
  unfold marks_rows_ends.f
  rw [wordAt_fun, top_word, decide_eq_true h, Bool.true_and]
  cases q (64 * k + 63) <;> rfl
/-- Where words begin in a block. -/
def startB (n : Nat) (q : Nat → Bool) (k : Nat) (c : Bool) (j : Nat) : Bool := (decide (64 * k + j < n) && q (64 * k + j)) && !(if j = 0 then c else decide (64 * k + (j - 1) < n) && q (64 * k + (j - 1)))
theorem starts_eq (n : Nat) (q : Nat → Bool) (k : Nat) (c : Bool) (x y z : Int) : marks_rows_starts.f x y z (iv (wordAt n q k)) c = some (iv (word (startB n q k c))) := by
  have e1 : IntKind.u64.wrap (iv (wordAt n q k) * 2) = iv (wordAt n q k <<< 1) := wrap_shl _ 1
  have e2 : (1 : Int) = iv 1#64 := rfl
  have h1 : ∀ i : Fin 64, (1#64).getLsbD i.val = decide (i.val = 0) := by decide
  unfold marks_rows_starts.f
  cases c with
  | true =>
    rw [if_pos rfl, e1, e2, bits_or, bits_andNot]
    apply congrArg (fun w => some (iv w))
    apply eq_word
    intro j hj
    rw [BitVec.getLsbD_and, BitVec.getLsbD_not, BitVec.getLsbD_or, BitVec.getLsbD_shiftLeft, wordAt_fun, word_bit, word_bit, h1 ⟨j, hj⟩, decide_eq_true hj]
    unfold startB
    by_cases g : j = 0
    · subst g; simp
    · rw [if_neg g, decide_eq_false (show ¬ j < 1 by omega), decide_eq_true (show j - 1 < 64 by omega), decide_eq_false (show ¬ (⟨j, hj⟩ : Fin 64).val = 0 from g)]
      simp
  | false =>
    rw [if_neg (by decide), e1, bits_andNot]
    apply congrArg (fun w => some (iv w))
    apply eq_word
    intro j hj
    rw [BitVec.getLsbD_and, BitVec.getLsbD_not, BitVec.getLsbD_shiftLeft, wordAt_fun, word_bit, word_bit, decide_eq_true hj]
    unfold startB
    by_cases g : j = 0
    · subst g; simp
    · rw [if_neg g, decide_eq_false (show ¬ j < 1 by omega), decide_eq_true (show j - 1 < 64 by omega)]
      simp
/-- What a byte is. -/
def kindB (s : ByteArray) (i : Nat) : Int := if mkq s i && insS s i then 3 else if mkq s i then 4 else if insS s i then 5 else if sgx (bt s (i : Int)).toNat then 1 else if blx (bt s (i : Int)).toNat then 2 else 6
theorem kb_sg (s : ByteArray) (i : Nat) : sgq s i = decide (kindB s i = 1) := by
  unfold kindB sgq outq
  cases hm : mkq s i <;> cases hn : insS s i <;> cases hs : sgx (bt s (i : Int)).toNat <;> cases hb : blx (bt s (i : Int)).toNat <;> simp
theorem kb_op (s : ByteArray) (i : Nat) : opq s i = decide (kindB s i = 3) := by
  unfold kindB opq
  cases hm : mkq s i <;> cases hn : insS s i <;> cases hs : sgx (bt s (i : Int)).toNat <;> cases hb : blx (bt s (i : Int)).toNat <;> simp
theorem kb_wd (s : ByteArray) (i : Nat) : wdq s i = decide (kindB s i = 6) := by
  unfold wdq sgq blq kindB outq
  cases hm : mkq s i <;> cases hn : insS s i <;> cases hs : sgx (bt s (i : Int)).toNat <;> cases hb : blx (bt s (i : Int)).toNat <;> simp
/-- What begins at a place. -/
def kindR (s : ByteArray) (i : Nat) : Int := if kindB s i = 1 ∨ kindB s i = 3 then bt s (i : Int) else if kindB s i = 6 ∧ (i = 0 ∨ kindB s (i - 1) ≠ 6) then 119 else 0
theorem rd_look (s : ByteArray) (k : Nat) (h : k < nwords s.size) : rd_T77 (lookL s) (k : Int) = rowS s k := by
  unfold rd_T77 lookL
  rw [Int.toNat_natCast, List.getD_eq_getElem?_getD, List.getElem?_map, List.getElem?_range h]
  rfl
theorem kind_last (s : ByteArray) (i k : Nat) (hi : i < s.size) (c : Bool) (hc : c = if 64 ≤ i then wdq s (64 * (i / 64) - 1) else false) :
    marks_Kind.j1 (k + 1) s (i : Int) (shl .u64 1 ((i % 64 : Nat) : Int)) c (rowS s (i / 64)).f0 (rowS s (i / 64)).f1 (rowS s (i / 64)).f2 (rowS s (i / 64)).f3 = some (kindR s i) := by
  have hm : i % 64 < 64 := Nat.mod_lt _ (by decide)
  have hd : 64 * (i / 64) + i % 64 = i := by omega
  have e0 : (rowS s (i / 64)).f0 = iv (wordAt s.size (sgq s) (i / 64)) := rfl
  have e2 : (rowS s (i / 64)).f2 = iv (wordAt s.size (opq s) (i / 64)) := rfl
  have e3 : (rowS s (i / 64)).f3 = iv (wordAt s.size (wdq s) (i / 64)) := rfl
  have hor : bits .or .u64 (iv (wordAt s.size (sgq s) (i / 64))) (iv (wordAt s.size (opq s) (i / 64))) = iv (word fun j => (decide (64 * (i / 64) + j < s.size) && sgq s (64 * (i / 64) + j)) || (decide (64 * (i / 64) + j < s.size) && opq s (64 * (i / 64) + j))) := mask_or _ _
  simp only [marks_Kind.j1]
  rw [e0, e2, hor]
  by_cases h : kindB s i = 1 ∨ kindB s i = 3
  · rw [if_neg (by
      rw [and_bit _ _ hm]
      simp only [hd, decide_eq_true hi, Bool.true_and, kb_sg, kb_op]
      rcases h with h | h <;> simp [h]), if_pos (by omega), if_pos (by omega)]
    unfold kindR
    rw [if_pos h]
  · have h1 : kindB s i ≠ 1 := fun e => h (.inl e)
    have h3 : kindB s i ≠ 3 := fun e => h (.inr e)
    rw [if_pos (by
      rw [and_bit _ _ hm]
      simp only [hd, decide_eq_true hi, Bool.true_and, kb_sg, kb_op]
      simp [h1, h3]), e3, starts_eq, Option.bind_some]
    unfold kindR
    rw [if_neg h]
    have hst : startB s.size (wdq s) (i / 64) c (i % 64) = decide (kindB s i = 6 ∧ (i = 0 ∨ kindB s (i - 1) ≠ 6)) := by
      unfold startB
      rw [hd, decide_eq_true hi, Bool.true_and, kb_wd, hc]
      by_cases g0 : i % 64 = 0
      · rw [if_pos g0]
        by_cases g1 : 64 ≤ i
        · rw [if_pos g1, show 64 * (i / 64) - 1 = i - 1 by omega, kb_wd]
          by_cases a : kindB s i = 6 <;> by_cases b : kindB s (i - 1) = 6 <;> simp [a, b, show ¬ i = 0 by omega]
        · rw [if_neg g1]
          have : i = 0 := by omega
          subst this
          simp
      · rw [if_neg g0, show 64 * (i / 64) + (i % 64 - 1) = i - 1 by omega, decide_eq_true (show i - 1 < s.size by omega), Bool.true_and, kb_wd]
        by_cases a : kindB s i = 6 <;> by_cases b : kindB s (i - 1) = 6 <;> simp [a, b, show ¬ i = 0 by omega]
    by_cases hb : kindB s i = 6 ∧ (i = 0 ∨ kindB s (i - 1) ≠ 6)
    · rw [if_neg (by rw [and_bit _ _ hm, hst, decide_eq_true hb]; decide), if_pos hb]
    · rw [if_pos (by rw [and_bit _ _ hm, hst, decide_eq_false hb]), if_neg hb]
theorem kind_eq (s : ByteArray) (hn : s.size ≤ 1048576) (i : Nat) (hi : i < s.size) (k : Nat) : marks_Kind.f (k + 2) s (i : Int) = some (kindR s i) := by
  have e1 : Int.tmod (i : Int) 64 = ((i % 64 : Nat) : Int) := rfl
  have e2 : Int.tdiv (i : Int) 64 = ((i / 64 : Nat) : Int) := rfl
  have e3 : wrap64 ((i / 64 : Nat) : Int) = ((i / 64 : Nat) : Int) := by unfold wrap64; omega
  have hl : (lookL s).length = nwords s.size := by simp [lookL]
  have hw : i / 64 < nwords s.size := by unfold nwords; omega
  unfold marks_Kind.f
  rw [if_neg (by omega), decide_eq_false (by omega)]
  simp only [marks_Kind.j0, marks_look.f]
  rw [if_neg (by decide), if_pos (by omega), Option.bind_some, e1, e2, e3, hl, if_pos (by omega), if_pos (by omega), if_pos (by omega), rd_look s _ hw]
  by_cases g : 64 ≤ i
  · have e4 : wrap64 (((i / 64 : Nat) : Int) - 1) = ((i / 64 - 1 : Nat) : Int) := by unfold wrap64; omega
    rw [if_pos (by omega), e4, if_pos (by omega), if_pos (by omega), rd_look s _ (by omega)]
    have e5 : (rowS s (i / 64 - 1)).f3 = iv (wordAt s.size (wdq s) (i / 64 - 1)) := rfl
    rw [e5, ends_eq _ _ _ (by omega), Option.bind_some]
    exact kind_last s i k hi _ (by rw [if_pos g, show 64 * (i / 64 - 1) + 63 = 64 * (i / 64) - 1 by omega])
  · rw [if_neg (by omega)]
    exact kind_last s i k hi _ (by rw [if_neg g])
theorem kind_out (s : ByteArray) (a : Int) (h : a < 0 ∨ (s.size : Int) ≤ a) (k : Nat) : marks_Kind.f (k + 1) s a = some 0 := by
  unfold marks_Kind.f
  by_cases g : a < 0
  · rw [if_pos g]
    simp only [marks_Kind.j0]
    rw [if_pos trivial]
  · rw [if_neg g, decide_eq_true (by omega)]
    simp only [marks_Kind.j0]
    rw [if_pos trivial]
theorem kindR_open (s : ByteArray) (i : Nat) : (kindR s i = 123 ∨ kindR s i = 91) ↔ opS s i = true := by
  unfold kindR opS
  rw [kb_sg]
  by_cases h1 : kindB s i = 1
  · rw [if_pos (.inl h1), h1, decide_eq_true rfl, Bool.true_and]
    unfold opensB
    rw [Bool.or_eq_true, beq_iff_eq, beq_iff_eq]
  · rw [decide_eq_false h1, Bool.false_and]
    by_cases h3 : kindB s i = 3
    · rw [if_pos (.inr h3)]
      have hop := kb_op s i
      rw [h3, decide_eq_true rfl] at hop
      have hm := (op_facts hop).1
      unfold mkq at hm
      simp only [Bool.and_eq_true, decide_eq_true_eq] at hm
      rw [hm.1]
      exact ⟨fun h => by omega, fun h => by cases h⟩
    · rw [if_neg (fun h => h.elim h1 h3)]
      split
      · exact ⟨fun h => by omega, fun h => by cases h⟩
      · exact ⟨fun h => by omega, fun h => by cases h⟩
theorem kindR_close (s : ByteArray) (i : Nat) : (kindR s i = 125 ∨ kindR s i = 93) ↔ clS s i = true := by
  unfold kindR clS
  rw [kb_sg]
  by_cases h1 : kindB s i = 1
  · rw [if_pos (.inl h1), h1, decide_eq_true rfl, Bool.true_and]
    unfold closesB
    rw [Bool.or_eq_true, beq_iff_eq, beq_iff_eq]
  · rw [decide_eq_false h1, Bool.false_and]
    by_cases h3 : kindB s i = 3
    · rw [if_pos (.inr h3)]
      have hop := kb_op s i
      rw [h3, decide_eq_true rfl] at hop
      have hm := (op_facts hop).1
      unfold mkq at hm
      simp only [Bool.and_eq_true, decide_eq_true_eq] at hm
      rw [hm.1]
      exact ⟨fun h => by omega, fun h => by cases h⟩
    · rw [if_neg (fun h => h.elim h1 h3)]
      split
      · exact ⟨fun h => by omega, fun h => by cases h⟩
      · exact ⟨fun h => by omega, fun h => by cases h⟩
/-- Is a bracket closed there that was opened at a? -/
def closq (s : ByteArray) (a j : Nat) : Bool := clS s j && decide (dep s j = dep s a + 1)
/-- Where what opens at a is closed; the length: nowhere. -/
def closAt (s : ByteArray) (a : Nat) : Nat := firstQ (closq s a) (s.size - (a + 1)) (a + 1)
def closI (s : ByteArray) (a : Nat) : Int := if closAt s a < s.size then ((closAt s a : Nat) : Int) else -1
theorem firstQ_skip (q : Nat → Bool) {n a b : Nat} (hab : a ≤ b) (hb : b ≤ n) (h : ∀ j, a ≤ j → j < b → q j = false) : firstQ q (n - a) a = firstQ q (n - b) b := by
  obtain ⟨d, rfl⟩ : ∃ d, b = a + d := ⟨b - a, by omega⟩
  clear hab
  induction d generalizing a with
  | zero => rfl
  | succ d ih =>
    rw [show n - a = (n - (a + 1)) + 1 by omega, firstQ, if_neg (by rw [h a (Nat.le_refl _) (by omega)]; decide)]
    have := ih (a := a + 1) (by omega) (fun j h1 h2 => h j (by omega) (by omega))
    rw [this, show a + 1 + d = a + (d + 1) by omega]
theorem closeR_after (s : ByteArray) (a : Nat) : ∀ (d i : Nat), i + d = (placesL s).length → a < nextP s i →
    closeR s (a : Int) ((placesL s).drop i) (((dep s a : Nat) : Int) + 1) = if firstQ (closq s a) (s.size - nextP s i) (nextP s i) < s.size then ((firstQ (closq s a) (s.size - nextP s i) (nextP s i) : Nat) : Int) else -1
  | 0, i, hi, ha => by
    rw [Nat.add_zero] at hi
    rw [hi, List.drop_length, closeR, ← hi, next_end (by omega), Nat.sub_self]
    unfold firstQ
    rw [if_neg (Nat.lt_irrefl _)]
  | d + 1, i, hi, ha => by
    have hlt : i < (placesL s).length := by omega
    obtain ⟨p, hp⟩ : ∃ p, (placesL s)[i]? = some p := ⟨_, List.getElem?_eq_getElem hlt⟩
    obtain ⟨a1, a2, a3, a4, a5, a6⟩ := place_at hp
    have hdrop : (placesL s).drop i = p :: (placesL s).drop (i + 1) := by
      rw [List.drop_eq_getElem_cons hlt]
      congr 1
      exact (List.getElem?_eq_some_iff.1 hp).2
    rw [hdrop, closeR, if_neg (by omega), ← a3, show s.size - p = (s.size - (p + 1)) + 1 by omega, firstQ]
    have hq : closq s a p = (closesB (bt s (p : Int)) && decide (dep s p = dep s a + 1)) := by unfold closq; rw [beg_close a2]
    by_cases c : closq s a p = true
    · rw [if_pos c]
      rw [hq] at c
      simp only [Bool.and_eq_true, decide_eq_true_eq] at c
      rw [if_pos ⟨by omega, by omega, c.1⟩, if_pos a1]
    · rw [if_neg c]
      have hn : ¬ ((a : Int) < (p : Int) ∧ ((dep s p : Nat) : Int) = ((dep s a : Nat) : Int) + 1 ∧ closesB (bt s (p : Int)) = true) := fun h => c (by
        rw [hq, h.2.2, Bool.true_and]
        exact decide_eq_true (by have := h.2.1; omega))
      rw [if_neg hn, closeR_after s a d (i + 1) (by omega) (by omega)]
      rw [firstQ_skip (closq s a) (n := s.size) (a := p + 1) (b := nextP s (i + 1)) (by omega) a5 (fun j h1 h2 => by
        have := not_beg (a6 j (by omega) h2)
        unfold closq clS
        rw [this]
        rfl)]
theorem closeR_before (s : ByteArray) (a : Nat) (ha : opS s a = true) (hn : a < s.size) : ∀ (d i : Nat), i + d = (placesL s).length → nextP s i ≤ a → ∀ w, closeR s (a : Int) ((placesL s).drop i) w = closI s a
  | 0, i, hi, h, w => by
    rw [next_end (by omega)] at h
    omega
  | d + 1, i, hi, h, w => by
    have hlt : i < (placesL s).length := by omega
    obtain ⟨p, hp⟩ : ∃ p, (placesL s)[i]? = some p := ⟨_, List.getElem?_eq_getElem hlt⟩
    obtain ⟨a1, a2, a3, a4, a5, a6⟩ := place_at hp
    have hdrop : (placesL s).drop i = p :: (placesL s).drop (i + 1) := by
      rw [List.drop_eq_getElem_cons hlt]
      congr 1
      exact (List.getElem?_eq_some_iff.1 hp).2
    rw [hdrop, closeR]
    by_cases c : p = a
    · subst c
      rw [if_pos rfl, closeR_after s p d (i + 1) (by omega) a4]
      unfold closI closAt
      rw [firstQ_skip (closq s p) (n := s.size) (a := p + 1) (b := nextP s (i + 1)) (by omega) a5 (fun j h1 h2 => by
        have := not_beg (a6 j (by omega) h2)
        unfold closq clS
        rw [this]
        rfl)]
    · have hba : begq s a = true := by
        unfold opS at ha
        simp only [Bool.and_eq_true] at ha
        exact sg_beg ha.1
      rw [if_neg (by omega), if_neg (by omega)]
      refine closeR_before s a ha hn d (i + 1) (by omega) ?_ w
      apply Classical.byContradiction
      intro g
      have := a6 a (by omega) (by omega)
      rw [hba] at this
      cases this
theorem close_eq (s : ByteArray) (hn : s.size ≤ 1048576) (a : Int) (k : Nat) : levels_Close.f (k + 2) s a = some (if 0 ≤ a ∧ a < (s.size : Int) ∧ opS s a.toNat = true then closI s a.toNat else -1) := by
  unfold levels_Close.f
  by_cases hr : a < 0 ∨ (s.size : Int) ≤ a
  · rw [kind_out s a hr (k + 1), Option.bind_some, if_neg (by omega)]
    unfold levels_Close.g
    rw [if_neg (by omega)]
  · obtain ⟨n, rfl⟩ : ∃ n : Nat, a = (n : Int) := ⟨a.toNat, by omega⟩
    rw [kind_eq s hn n (by omega) k, Option.bind_some, Int.toNat_natCast]
    unfold levels_Close.g
    by_cases ho : opS s n = true
    · rw [if_pos ((kindR_open s n).2 ho), if_pos hn, if_pos ⟨by omega, by omega, ho⟩]
      have h := closeR_before s n ho (by omega) (placesL s).length 0 (by omega) (by
        apply Classical.byContradiction
        intro g
        have := (next_zero s).2 n (by omega)
        unfold opS at ho
        simp only [Bool.and_eq_true] at ho
        rw [sg_beg ho.1] at this
        cases this) (-1)
      rw [List.drop_zero] at h
      rw [h]
    · rw [if_neg (fun h => ho ((kindR_open s n).1 h)), if_neg (fun h => ho h.2.2)]
theorem depth_eq (s : ByteArray) (hn : s.size ≤ 1048576) (a : Int) : levels_Depth.f s a = some ((depAt s a : Nat) : Int) := by
  unfold levels_Depth.f
  rw [if_pos hn]
theorem sameints_loop (l : List Int) (hl : l.length ≤ 140737488355328) : ∀ (d i k : Nat), i + d = l.length → d < k → quarryref00_SameInts.l0 k l l (i : Int) = some true := by
  intro d
  induction d with
  | zero =>
    intro i k hi hk
    obtain ⟨k, rfl⟩ : ∃ m, k = m + 1 := ⟨k - 1, by omega⟩
    unfold quarryref00_SameInts.l0
    rw [if_neg (by omega)]
  | succ d ih =>
    intro i k hi hk
    obtain ⟨k, rfl⟩ : ∃ m, k = m + 1 := ⟨k - 1, by omega⟩
    have e : wrap64 ((i : Int) + 1) = ((i + 1 : Nat) : Int) := by unfold wrap64; omega
    unfold quarryref00_SameInts.l0
    rw [if_pos (by omega), if_pos (by omega), if_pos (by omega), if_pos rfl, e, ih (i + 1) k (by omega) (by omega)]
/-- A list is the same as itself. -/
theorem sameints_refl (l : List Int) (hl : l.length ≤ 140737488355328) (k : Nat) (hk : l.length < k) : quarryref00_SameInts.f k l l = some true := by
  unfold quarryref00_SameInts.f
  rw [if_pos rfl]
  exact sameints_loop l hl l.length 0 k (by omega) hk
abbrev smallL : ByteArray := ⟨#[123, 34, 97, 34, 58, 91, 49, 44, 50, 93, 44, 34, 98, 58, 34, 58, 51, 125]⟩
theorem small_dep : depAt smallL 6 = 2 := by decide +kernel
theorem small_cl5 : (opS smallL 5 = true ∧ closI smallL 5 = 9) ∧ opS smallL 0 = true ∧ closI smallL 0 = 17 := by decide +kernel
theorem small_col : levels_Colons.f (rowsB smallL 58 2 18) (rowsB smallL 44 2 18) 1 0 99 = some [4, 15] := by decide +kernel
theorem small_com : levels_Commas.f (rowsB smallL 58 2 18) (rowsB smallL 44 2 18) 2 0 99 = some [7] := by decide +kernel
theorem rowsB_len (s : ByteArray) (b : Int) (m lim : Nat) : (((rowsB s b m lim).length : Nat) : Int) = (m : Int) := by
  unfold rowsB
  rw [List.length_map, List.length_range]
theorem awake10 (k : Nat) (hk : 100 < k) : quarrylaw10_awake.f k = some true := by
  obtain ⟨j, rfl⟩ : ∃ j, k = j + 2 := ⟨k - 2, by omega⟩
  have hb : levels_Build.f smallL 2 = some (rowsB smallL 58 2 18, rowsB smallL 44 2 18, 0) := by
    unfold levels_Build.f
    rw [if_neg (by decide), if_pos (by decide)]
    rfl
  have hd : levels_Depth.f smallL 6 = some 2 := by
    rw [depth_eq smallL (by decide), small_dep]
    rfl
  have h5 : levels_Close.f (j + 2) smallL 5 = some 9 := by
    rw [close_eq smallL (by decide), if_pos ⟨by decide, by decide, small_cl5.1.1⟩]
    exact congrArg some small_cl5.1.2
  have h0 : levels_Close.f (j + 2) smallL 0 = some 17 := by
    rw [close_eq smallL (by decide), if_pos ⟨by decide, by decide, small_cl5.2.1⟩]
    exact congrArg some small_cl5.2.2
  unfold quarrylaw10_awake.f
  rw [hb, Option.bind_some]
  dsimp only
  rw [if_pos rfl, if_pos (by rw [rowsB_len]; rfl), if_pos (by rw [rowsB_len]; rfl), hd, Option.bind_some, if_pos rfl, h5, Option.bind_some, if_pos rfl, h0, Option.bind_some]
  rw [show ((17 : Int) != 17) = false from rfl, quarrylaw10_awake.j0, if_neg (by decide), small_col, Option.bind_some, sameints_refl _ (by decide) _ (by simp; omega), Option.bind_some, if_pos rfl, small_com, Option.bind_some, sameints_refl _ (by decide) _ (by simp; omega), Option.bind_some]
theorem op_not_cl' (s : ByteArray) (i : Nat) (h : opS s i = true) : clS s i = false := by
  unfold opS at h
  unfold clS
  simp only [Bool.and_eq_true] at h
  have h2 : closesB (bt s (i : Int)) = false := by
    have h3 := h.2
    unfold opensB at h3
    unfold closesB
    simp only [Bool.or_eq_true, beq_iff_eq] at h3
    rw [Bool.or_eq_false_iff, beq_eq_false_iff_ne, beq_eq_false_iff_ne]
    omega
  rw [h2, Bool.and_false]
theorem wsm {z : Int} (h0 : -1 ≤ z) (h1 : z ≤ 1125899906842624) : wrap64 z = z := by unfold wrap64; omega
/-- One round: what is asked of the depth behind a place. -/
theorem steps_want (s : ByteArray) (hn : s.size ≤ 1048576) (x0 : ByteArray) (a e base : Int) (i k : Nat) (hi : i < s.size) (hd : 1 ≤ dep s i ∨ clS s i = false) :
    (if kindR s i = 123 then quarrylaw10_LevelsSteps.j3 (k + 3) x0 a e base ((dep s i : Nat) : Int) (i : Int) (kindR s i) ((dep s (i + 1) : Nat) : Int) ((dep s i : Nat) : Int) true else quarrylaw10_LevelsSteps.j3 (k + 3) x0 a e base ((dep s i : Nat) : Int) (i : Int) (kindR s i) ((dep s (i + 1) : Nat) : Int) ((dep s i : Nat) : Int) (kindR s i == 91)) =
      quarrylaw10_LevelsSteps.j6 k x0 a e base (i : Int) (kindR s i) ((dep s (i + 1) : Nat) : Int) ((dep s (i + 1) : Nat) : Int) := by
  have hdl := dep_le s i
  have hs := dep_succ s i
  have e1 : (if kindR s i = 123 then quarrylaw10_LevelsSteps.j3 (k + 3) x0 a e base ((dep s i : Nat) : Int) (i : Int) (kindR s i) ((dep s (i + 1) : Nat) : Int) ((dep s i : Nat) : Int) true else quarrylaw10_LevelsSteps.j3 (k + 3) x0 a e base ((dep s i : Nat) : Int) (i : Int) (kindR s i) ((dep s (i + 1) : Nat) : Int) ((dep s i : Nat) : Int) (kindR s i == 91)) =
      quarrylaw10_LevelsSteps.j3 (k + 3) x0 a e base ((dep s i : Nat) : Int) (i : Int) (kindR s i) ((dep s (i + 1) : Nat) : Int) ((dep s i : Nat) : Int) (opS s i) := by
    by_cases h : kindR s i = 123
    · rw [if_pos h, (kindR_open s i).1 (.inl h)]
    · rw [if_neg h]
      congr 1
      rw [Bool.eq_iff_iff, beq_iff_eq, ← kindR_open]
      exact ⟨fun h => .inr h, fun h2 => h2.resolve_left h⟩
  have e2 : ∀ w : Int, (if kindR s i = 125 then quarrylaw10_LevelsSteps.j5 (k + 1) x0 a e base ((dep s i : Nat) : Int) (i : Int) (kindR s i) ((dep s (i + 1) : Nat) : Int) w true else quarrylaw10_LevelsSteps.j5 (k + 1) x0 a e base ((dep s i : Nat) : Int) (i : Int) (kindR s i) ((dep s (i + 1) : Nat) : Int) w (kindR s i == 93)) =
      quarrylaw10_LevelsSteps.j5 (k + 1) x0 a e base ((dep s i : Nat) : Int) (i : Int) (kindR s i) ((dep s (i + 1) : Nat) : Int) w (clS s i) := fun w => by
    by_cases h : kindR s i = 125
    · rw [if_pos h, (kindR_close s i).1 (.inl h)]
    · rw [if_neg h]
      congr 1
      rw [Bool.eq_iff_iff, beq_iff_eq, ← kindR_close]
      exact ⟨fun h => .inr h, fun h2 => h2.resolve_left h⟩
  have w1 : wrap64 (((dep s i : Nat) : Int) + 1) = ((dep s i : Nat) : Int) + 1 := wsm (by omega) (by omega)
  have w2 : wrap64 (((dep s i : Nat) : Int) - 1) = ((dep s i : Nat) : Int) - 1 := wsm (by omega) (by omega)
  rw [e1]
  cases ho : opS s i with
  | true =>
    have hc := op_not_cl' s i ho
    rw [ho, if_pos rfl] at hs
    rw [quarrylaw10_LevelsSteps.j3, if_pos rfl, quarrylaw10_LevelsSteps.j4, e2, hc, quarrylaw10_LevelsSteps.j5, if_neg (by decide), w1]
    congr 1
    omega
  | false =>
    rw [ho, if_neg (by decide)] at hs
    rw [quarrylaw10_LevelsSteps.j3, if_neg (by decide), quarrylaw10_LevelsSteps.j4, e2]
    cases hc : clS s i with
    | true =>
      have hd1 : 1 ≤ dep s i := hd.resolve_right (by rw [hc]; decide)
      rw [hc, if_pos rfl] at hs
      rw [quarrylaw10_LevelsSteps.j5, if_pos rfl, w2]
      congr 1
      omega
    | false =>
      rw [hc, if_neg (by decide)] at hs
      rw [quarrylaw10_LevelsSteps.j5, if_neg (by decide), hs]
theorem steps_loop (s : ByteArray) (hn : s.size ≤ 1048576) (a : Nat) (ha : a < s.size) (ho : opS s a = true) : ∀ (m i k : Nat), i + m = s.size → a ≤ i → (closI s a = -1 ∨ (i : Int) ≤ closI s a) → (∀ j, a < j → j ≤ i → dep s a + 1 ≤ dep s j) → 6 * m + 10 < k →
    quarrylaw10_LevelsSteps.l0 k s (a : Int) (closI s a) ((dep s a : Nat) : Int) ((dep s i : Nat) : Int) (i : Int) = some true := by
  intro m
  induction m with
  | zero =>
    intro i k hi _ hcl _ hk
    obtain ⟨k, rfl⟩ : ∃ j, k = j + 1 := ⟨k - 1, by omega⟩
    rw [quarrylaw10_LevelsSteps.l0, if_neg (by omega)]
    have : closI s a = -1 := by
      rcases hcl with h | h
      · exact h
      · unfold closI at h ⊢
        split
        · rw [if_pos ‹_›] at h
          omega
        · rfl
    rw [this]
    rfl
  | succ m ih =>
    intro i k hi hai hcl hdep hk
    obtain ⟨k, rfl⟩ : ∃ j, k = ((j + 1) + 3) + 1 := ⟨k - 5, by omega⟩
    have hlt : i < s.size := by omega
    have hdl := dep_le s (i + 1)
    have w1 : wrap64 ((i : Int) + 1) = ((i + 1 : Nat) : Int) := wsm (by omega) (by omega)
    have w2 : wrap64 ((a : Int) + 200) = (a : Int) + 200 := wsm (by omega) (by omega)
    have hdi : 1 ≤ dep s i ∨ clS s i = false := by
      by_cases c : i = a
      · subst c
        exact .inr (op_not_cl' s i ho)
      · have := hdep i (by omega) (Nat.le_refl _)
        exact .inl (by omega)
    have hk2 : marks_Kind.f (k + 1 + 3) s (i : Int) = some (kindR s i) := kind_eq s hn i hlt (k + 2)
    rw [quarrylaw10_LevelsSteps.l0, if_pos (by omega), hk2, Option.bind_some, w1, depth_eq s hn, Option.bind_some]
    have hda : depAt s ((i + 1 : Nat) : Int) = dep s (i + 1) := by
      unfold depAt
      rw [Int.toNat_natCast, show min (i + 1) s.size = i + 1 by omega]
    rw [hda, steps_want s hn s (a : Int) (closI s a) ((dep s a : Nat) : Int) i (k + 1) hlt hdi, quarrylaw10_LevelsSteps.j6, if_pos rfl]
    have hs := dep_succ s i
    by_cases hend : (i : Int) = closI s a
    · -- closed here
      have hq : closq s a i = true := by
        unfold closI at hend
        split at hend
        · have e : i = closAt s a := by omega
          obtain ⟨_, _, _, f4⟩ := firstQ_spec (closq s a) (s.size - (a + 1)) (a + 1)
          rw [e]
          exact f4 (by unfold closAt at *; omega)
        · omega
      have hq2 := hq
      unfold closq at hq2
      simp only [Bool.and_eq_true, decide_eq_true_eq] at hq2
      have hno : opS s i = false := by
        cases h : opS s i with
        | false => rfl
        | true => rw [op_not_cl' s i h] at hq2; exact absurd hq2.1 (by decide)
      rw [hno, if_neg (by decide), hq2.1, if_pos rfl, hq2.2] at hs
      have hkc := (kindR_close s i).2 hq2.1
      rw [if_pos hend, if_pos (by omega)]
      rcases hkc with h | h
      · rw [if_pos h]
      · rw [if_neg (by omega), h]
        rfl
    · have hnb : dep s (i + 1) ≠ dep s a := fun hb => by
        by_cases c : i = a
        · subst c
          rw [ho, if_pos rfl] at hs
          omega
        · have h1 := hdep i (by omega) (Nat.le_refl _)
          have hc : clS s i = true := by
            cases h2 : clS s i with
            | true => rfl
            | false =>
              rw [h2] at hs
              cases h3 : opS s i with
              | true => rw [h3, if_pos rfl] at hs; omega
              | false => rw [h3, if_neg (by decide), if_neg (by decide)] at hs; omega
          have hno : opS s i = false := by
            cases h : opS s i with
            | false => rfl
            | true => rw [op_not_cl' s i h] at hc; cases hc
          rw [hno, if_neg (by decide), hc, if_pos rfl] at hs
          have hq : closq s a i = true := by
            unfold closq
            rw [hc, decide_eq_true (show dep s i = dep s a + 1 by omega)]
            rfl
          obtain ⟨f1, f2, f3, f4⟩ := firstQ_spec (closq s a) (s.size - (a + 1)) (a + 1)
          have hle : closAt s a ≤ i := by
            apply Classical.byContradiction
            intro g
            have := f3 i (by omega) (by unfold closAt at g; omega)
            rw [hq] at this
            cases this
          have : closI s a = ((closAt s a : Nat) : Int) := by unfold closI; rw [if_pos (by omega)]
          rcases hcl with h | h
          · omega
          · omega
      rw [if_neg hend, if_neg (by omega), w2]
      by_cases h200 : (i : Int) > (a : Int) + 200
      · rw [if_pos h200]
      · rw [if_neg h200, w1]
        refine ih (i + 1) k (by omega) (by omega) (by omega) (fun j h1 h2 => ?_) (by omega)
        by_cases c : j = i + 1
        · subst c
          have hle : dep s a ≤ dep s (i + 1) := by
            by_cases d : i = a
            · subst d
              rw [ho, if_pos rfl] at hs
              omega
            · have := hdep i (by omega) (Nat.le_refl _)
              revert hs
              split
              · omega
              · split <;> omega
          omega
        · exact hdep j h1 (by omega)
theorem clos_range (s : ByteArray) (a : Nat) (ha : a < s.size) : closI s a = -1 ∨ ((a : Int) < closI s a ∧ closI s a < (s.size : Int)) := by
  obtain ⟨f1, f2, f3, f4⟩ := firstQ_spec (closq s a) (s.size - (a + 1)) (a + 1)
  unfold closI
  split
  · refine .inr ?_
    unfold closAt at *
    omega
  · exact .inl rfl
theorem LevelsSteps (s : ByteArray) (a : Int) (hn : s.size ≤ 1048576) (_ : (Lit.int .i64 a).wf = true) : ∃ k, quarrylaw10_LevelsSteps.f k s a = some true := by
  obtain ⟨K, hK⟩ : ∃ K, K = 6 * s.size + 300 := ⟨_, rfl⟩
  refine ⟨K + 2, ?_⟩
  unfold quarrylaw10_LevelsSteps.f
  rw [awake10 (K + 2) (by omega), Option.bind_some, if_pos rfl, close_eq s hn a K, Option.bind_some]
  by_cases hr : a < 0 ∨ (s.size : Int) ≤ a
  · rw [kind_out s a hr (K + 1), Option.bind_some, if_neg (by decide), if_neg (by omega), show ((0 : Int) != 91) = true from rfl, quarrylaw10_LevelsSteps.j0, if_pos rfl]
    rfl
  · obtain ⟨n, rfl⟩ : ∃ n : Nat, a = (n : Int) := ⟨a.toNat, by omega⟩
    have hlt : n < s.size := by omega
    rw [kind_eq s hn n hlt K, Option.bind_some, Int.toNat_natCast]
    have e1 : ∀ e : Int, (if kindR s n = 123 then quarrylaw10_LevelsSteps.j0 (K + 2) s (n : Int) e false else quarrylaw10_LevelsSteps.j0 (K + 2) s (n : Int) e (kindR s n != 91)) = quarrylaw10_LevelsSteps.j0 (K + 2) s (n : Int) e (!(opS s n)) := fun e => by
      by_cases h : kindR s n = 123
      · rw [if_pos h, (kindR_open s n).1 (.inl h)]
        rfl
      · rw [if_neg h]
        congr 1
        by_cases h2 : kindR s n = 91
        · rw [h2, (kindR_open s n).1 (.inr h2)]
          rfl
        · have ho : opS s n = false := by
            cases ho : opS s n with
            | false => rfl
            | true => exact absurd ((kindR_open s n).2 ho) (fun c => c.elim h h2)
          rw [ho, bne_iff_ne.mpr h2]
          rfl
    rw [e1]
    cases ho : opS s n with
    | false =>
      rw [if_neg (fun c => by have := c.2.2; cases this), Bool.not_false, quarrylaw10_LevelsSteps.j0, if_pos rfl]
      rfl
    | true =>
      rw [if_pos ⟨by omega, by omega, rfl⟩, Bool.not_true, quarrylaw10_LevelsSteps.j0, if_neg (by decide)]
      have hj1 : quarrylaw10_LevelsSteps.j1 (K + 1) s (n : Int) (closI s n) false = some true := by
        have hda : depAt s (n : Int) = dep s n := by
          unfold depAt
          rw [Int.toNat_natCast, show min n s.size = n by omega]
        rw [quarrylaw10_LevelsSteps.j1, if_neg (by decide), depth_eq s hn, Option.bind_some, hda]
        refine steps_loop s hn n hlt ho (s.size - n) n K (by omega) (Nat.le_refl _) ?_ (fun j h1 h2 => by omega) (by omega)
        rcases clos_range s n hlt with h | h
        · exact .inl h
        · exact .inr (by omega)
      rcases clos_range s n hlt with h | h
      · rw [if_neg (by omega), if_neg (by omega)]
        exact hj1
      · rw [if_neg (by omega), if_pos (by omega), if_neg (by omega), decide_eq_false (by omega)]
        exact hj1

end Go.Proofs.YtgddljealeklkaaDoor.Pure
end
namespace Go.Proofs.YtgddljealeklkaaDoor.levelsSteps
open Go.ChangeShapes Go.WideShapes Go.ChangeAt Go.RowKit
open Go.ChangeMaps (open_string shut_string)
set_option linter.unusedVariables false
set_option linter.unusedSimpArgs false
theorem own : ownKnob Tryd.prog.godebug = none := by kernel_rfl
theorem gTab : Tryd.prog.globalNamed "math/bits.deBruijn64tab" = some 0 := by kernel_rfl
theorem gTabType : (Tryd.prog.globals[0]?).map (·.type) = some 85 := by kernel_rfl
theorem cellsTab : Tryd.prog.cellsOf 85 = 64 := by kernel_rfl
theorem cellsByte : Tryd.prog.cellsOf 5 = 1 := by kernel_rfl
def tabZ : List Int := [0, 1, 56, 2, 57, 49, 28, 3, 61, 58, 42, 50, 38, 29, 17, 4, 62, 47, 59, 36, 45, 43, 51, 22, 53, 39, 33, 30, 24, 18, 12, 5, 63, 55, 48, 27, 60, 41, 37, 16, 46, 35, 44, 21, 52, 32, 23, 11, 54, 26, 40, 15, 34, 20, 31, 10, 25, 14, 19, 9, 13, 8, 7, 6]
theorem table {W : World} (h : laidMetH Tryd.prog Rows.levelsStepsUptoRow.laid W) : Lib.TabIs Tryd.prog W "math/bits.deBruijn64tab" .u8 tabZ :=
  Lib.tabIs_of_head (rest := []) gTab gTabType Tryd.underlying85 Tryd.underlying5 cellsByte cellsTab h
theorem tab_eq : ∀ j, j < 64 → tabZ.getD j 0 = ((Lib.deBruijn64tab.getD j 0 : Nat) : Int) := by decide
theorem tabOk {W : World} (h : laidMetH Tryd.prog Rows.levelsStepsUptoRow.laid W) : Go.Proofs.YtgddljealeklkaaDoorM.TabOk W := ⟨fun j hj => by
  have h64 : j < 64 := hj
  rw [(table h).cell gTab j h64, tab_eq j h64]⟩
noncomputable def laidWorld (os : Os) : World :=
  { World.holding Tryd.prog os ⟨#[], #[], []⟩ with heap := (World.holding Tryd.prog os ⟨#[], #[], []⟩).heap.modify 0 fun
      | .cells _ t frozen => .cells #[.int .u8 0, .int .u8 1, .int .u8 56, .int .u8 2, .int .u8 57, .int .u8 49, .int .u8 28, .int .u8 3, .int .u8 61, .int .u8 58, .int .u8 42, .int .u8 50, .int .u8 38, .int .u8 29, .int .u8 17, .int .u8 4, .int .u8 62, .int .u8 47, .int .u8 59, .int .u8 36, .int .u8 45, .int .u8 43, .int .u8 51, .int .u8 22, .int .u8 53, .int .u8 39, .int .u8 33, .int .u8 30, .int .u8 24, .int .u8 18, .int .u8 12, .int .u8 5, .int .u8 63, .int .u8 55, .int .u8 48, .int .u8 27, .int .u8 60, .int .u8 41, .int .u8 37, .int .u8 16, .int .u8 46, .int .u8 35, .int .u8 44, .int .u8 21, .int .u8 52, .int .u8 32, .int .u8 23, .int .u8 11, .int .u8 54, .int .u8 26, .int .u8 40, .int .u8 15, .int .u8 34, .int .u8 20, .int .u8 31, .int .u8 10, .int .u8 25, .int .u8 14, .int .u8 19, .int .u8 9, .int .u8 13, .int .u8 8, .int .u8 7, .int .u8 6] t frozen
      | o => o }
theorem laid_met (os : Os) : laidMet Tryd.prog Rows.levelsStepsUptoRow.laid ((laidWorld os).forCall (fun _ _ => 0) ⟨#[], #[.string ByteArray.empty, .int .i64 0], []⟩).memory :=
  laidMet_of_run' 8 (by kernel_rfl) (by kernel_rfl)
theorem reads (os : Os) {H : Type} (enc : TypeId × Value → H) : ∃ places, DataW.whole enc Tryd.prog ((laidWorld os).forCall (fun _ _ => 0) ⟨#[], #[.string ByteArray.empty, .int .i64 0], []⟩).memory Tryd.f9.params.toList Rows.levelsStepsSpec.vars false (#[.string ByteArray.empty, .int .i64 0] : Array Value).toList 8 = some ([.lit (.string []), .lit (.int .i64 0)], [], places) :=
  ⟨[], by kernel_rfl⟩
set_option maxRecDepth 100000 in
theorem lifted (os : Os) (started : os.Started) (H : Type) (enc : TypeId × Value → H) (F : Stop.Interp) :
    ReturnsInHanded {} Tryd.checked os 9 .any ((Rows.OpenSpec.upto Rows.levelsStepsSpec).preRow enc Tryd.prog Tryd.f9 Rows.levelsStepsUptoRow.domain false Rows.levelsStepsUptoRow.laid) (((Rows.OpenSpec.upto Rows.levelsStepsSpec).at F).post enc Tryd.prog Tryd.f9 false true false false) := by
  obtain ⟨places, hx⟩ := reads os enc
  refine returnsInHanded_of_row (C := Tryd.checked) (s := Rows.OpenSpec.upto Rows.levelsStepsSpec) own started (by kernel_rfl) Tryd.func9
    (witness_row_at (enc := enc) (C := Tryd.checked) false (laidWorld os) #[.string ByteArray.empty, .int .i64 0] rfl (by kernel_rfl) (by kernel_rfl) (by kernel_rfl)
      (OpenSpec.preRow_of_cond 8 hx (by kernel_rfl) (fun k hk => by cases hk; kernel_rfl) (by kernel_rfl) (laid_met os))) ?_
  intro W base args ds gs before hval0 hW hcnd hk0 hsz0 hL _ _
  have hsz : (DataW.weightsEach Tryd.prog (Tryd.f9.params.toList ++ Rows.levelsStepsSpec.plain.varTypes Tryd.prog) (ds ++ gs)).all (· ≤ reachBytes) = true := hsz0
  have hval : ∀ (j : Nat) t v, Tryd.f9.params[j]? = some t → args[j]? = some v → Value.okWide Tryd.prog W .any base t v := hval0
  have hW' := hW
  obtain ⟨p, q, hA0, hV, rfl, hfz, hnd⟩ := hW
  have hA : DataW.TrodAll enc Tryd.prog W 0 (fun _ => true) true Tryd.f9.params.toList args.toList ds p := hA0
  rw [Tryd.params9] at hA hval hsz
  obtain ⟨v0, vs0, d0, ds0, p0, q0, hargs, rfl, rfl, h0, r0⟩ := trodAll_cons hA
  obtain ⟨v1, vs1, d1, ds1, p1, q1, rfl, rfl, rfl, h1, r1⟩ := trodAll_cons r0
  obtain ⟨rfl, rfl, rfl⟩ := trodAll_nil r1
  obtain rfl : args = #[v0, v1] := by cases args; simp_all
  obtain ⟨rfl, rfl⟩ := trodVars_none hV
  obtain ⟨a0, rfl, rfl, rfl, y0⟩ := open_string Tryd.underlying9 (hval 0 9 v0 rfl rfl) h0
  have w0 : a0.size ≤ 140737488351232 := by
    have z := sized_string hsz (j := 0) (t := 9) rfl rfl
    rw [Array.length_toList] at z
    exact z
  obtain ⟨a1, rfl, rfl, rfl, w1⟩ := open_int Tryd.underlying3 (hval 1 3 v1 rfl rfl) h1
  clear hA0 hval0 hsz0 hsz
  have hk1 : Rows.uptoBulkAll _ ≤ 1048576 := of_decide_eq_true (hk0 _ rfl)
  simp only [Rows.uptoBulkAll, Rows.uptoBulk, List.append_nil, List.nil_append, List.cons_append] at hk1
  have e0_ : a0.data.toList.length = a0.size := by rw [Array.length_toList]; rfl
  have s0_ : a0.size ≤ 1048576 := by omega
  obtain ⟨k, hk⟩ := Pure.LevelsSteps a0 a1 s0_ w1
  refine (PL.quarrylaw10_LevelsSteps.calls k a0 a1 true W (tabOk hL) hk).mono fun e W' ⟨he, bel⟩ => ?_
  subst he
  exact ⟨_, rfl, _, _, _, [], _, [], hW', trodAll_mk1 (shut_bool Tryd.underlying4 _), (trodAll_cons_mk (shut_string Tryd.underlying9 y0) (trodAll_cons_mk (shut_int Tryd.underlying3 w1) trodAll_mk0)), rfl, bel.frame _, fun h => by cases h⟩
theorem over : Rows.levelsStepsUptoRow.holds Tryd.pinned (Rows.OpenSpec.upto Rows.levelsStepsSpec) :=
  OpenClaim.holds_of_cond 9 Tryd.f9 rfl rfl rfl rfl rfl rfl rfl ⟨rfl, rfl, rfl, rfl, rfl⟩ rfl rfl rfl rfl rfl (by kernel_rfl) Tryd.func9 (by kernel_rfl)
    (of_decide_eq_true (by kernel_rfl)) (by unfold Func.isWrapper; first | (rw [if_pos (by decide +kernel)]; kernel_rfl) | (rw [if_neg (by decide +kernel)]; exact ⟨rfl, rfl⟩))
    (fun os started H enc _ F => by rw [OpenClaim.pre_eq_preRow]; exact lifted os started H enc F)
theorem said : Rows.LevelsStepsUptoSaid := over
theorem plain (f : FuncId) (fn : Func) (hf : Tryd.pinned.checked.prog.funcNamed "quarry/quarrylaw10.LevelsSteps" = some f) (hfn : Tryd.pinned.checked.prog.funcs[f]? = some fn) :
    false = Tryd.pinned.checked.prog.looks [] ∧ ∀ (j : Nat) t, fn.params[j]? = some t → Tryd.pinned.checked.prog.wantsStandIn t = false := by
  obtain rfl : f = 9 := Option.some.inj ((show Tryd.prog.funcNamed "quarry/quarrylaw10.LevelsSteps" = some 9 by kernel_rfl).symm.trans hf) |>.symm
  obtain rfl : fn = Tryd.f9 := (Option.some.inj (Tryd.func9.symm.trans hfn)).symm
  refine ⟨by kernel_rfl, fun j t ht => ?_⟩
  rw [Tryd.params9] at ht
  have hm := Array.mem_of_getElem? ht
  simp only [List.mem_toArray, List.mem_cons, List.not_mem_nil, or_false] at hm
  rcases hm with rfl | rfl
  · exact (show Tryd.prog.wantsStandIn 9 = false by kernel_rfl)
  · exact (show Tryd.prog.wantsStandIn 3 = false by kernel_rfl)
theorem card : Rows.LevelsStepsUptoCardSaid :=
  Claim7.holds_tied_plain_at .later [] _ _ _ _ said (fun _ h => by cases h) (by kernel_rfl) (fun _ h => by cases h) levelsStepsUpto_row_tie rfl ⟨rfl, rfl⟩ (by kernel_rfl) rfl plain (by kernel_rfl)
#print axioms card
end Go.Proofs.YtgddljealeklkaaDoor.levelsSteps
namespace Go.Proofs.YtgddljealeklkaaDoor
/-- The card, under a short name, for the claim. -/
theorem levelsSteps_holds : Rows.LevelsStepsUptoCardSaid := levelsSteps.card
end Go.Proofs.YtgddljealeklkaaDoor
