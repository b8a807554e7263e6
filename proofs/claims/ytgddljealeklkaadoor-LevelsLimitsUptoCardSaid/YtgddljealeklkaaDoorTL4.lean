/- Parts of a claim (TL), packed by a program (pack.py) out of the texts that it names. -/
import Derived.Test.YtgddljealeklkaaDoorTL3
-- PLx6
section
namespace Go.Proofs.YtgddljealeklkaaDoor.PL
attribute [local go_sem] Go.Proofs.YtgddljealeklkaaDoorM.fieldBits0 Go.Proofs.YtgddljealeklkaaDoorM.fieldBits1
open Go.Proofs.YtgddljealeklkaaDoorM (TabOk)
open Go.RowKit Go.Proofs.YtgddljealeklkaaDoorW.PrintWords Go.Proofs.YtgddljealeklkaaDoorW.PrintLast Go.Proofs.YtgddljealeklkaaDoorW.PrintMore
attribute [local go_sem] max2_int min2_int max_two min_two max_three min_three max_four min_four   -- for this text's walks alone
set_option linter.unusedVariables false
set_option linter.unusedSimpArgs false

section
open Go.Proofs.YtgddljealeklkaaDoorQ Go.Proofs.YtgddljealeklkaaDoorM
set_option maxHeartbeats 1000000 in
theorem levels_Depth_1.calls (p d a : Int) (g : Nat) (w : World) (B : Blk w g #[.int .i64 a] 3) :
    Calls Tryd.prog 74 #[.int .i64 p, .int .i64 d, .pointer (some ⟨g, 0, none⟩)] w fun e w' => e = .returned (.bool (decide (p < a))) ∧ Below w.heap.size w w' := by
  have ca := B.cell (i := 0) rfl
  go_enter Tryd.func74, Tryd.ntmps74
  go_wp2
  go_ret
  exact ⟨rfl, Below.refl _ _⟩
end


section
open Go.Proofs.YtgddljealeklkaaDoorQ Go.Proofs.YtgddljealeklkaaDoorM
def levels_Depth.f (a0 : ByteArray) (a1 : Int) : Option Int := if a0.size ≤ 1048576 then some ((depAt a0 a1 : Nat) : Int) else none
set_option maxHeartbeats 4000000 in
theorem levels_Depth.calls (a0 : ByteArray) (a1 r : Int) (w : World) (hT : TabOk w) (h : levels_Depth.f a0 a1 = some r) :
    Calls Tryd.prog 37 #[.string a0, .int .i64 a1] w fun e w' => e = .returned (.int .i64 r) ∧ Below w.heap.size w w' := by
  unfold levels_Depth.f at h
  by_cases hs : a0.size ≤ 1048576
  case neg => rw [if_neg hs] at h; cases h
  rw [if_pos hs] at h
  injection h with hr
  have HB := BelowH.refl w
  have HT := Aside0.mk hT
  have HR := Aside0.mk hr
  have HS := Aside0.mk hs
  clear hT hr hs
  have WK : Aside0 (∀ (g : Nat) (W : World), TabOk W → Blk W g #[.int .i64 a1] 3 → Calls Tryd.prog 64 #[.string a0, .func (.func 74) #[] #[.pointer (some ⟨g, 0, none⟩)]] W fun e w' => e = .returned (.int .i64 r) ∧ Below W.heap.size W w') := ⟨fun g W hTW B => by
    have := levels_walk.walk a0 HS.out W hTW 74 #[.pointer (some ⟨g, 0, none⟩)] []
      (fun i W' => Blk W' g #[.int .i64 a1] 3 ∧ ∀ (j q : Nat), j < i → (placesL a0)[j]? = some q → (q : Int) < a1)
      (fun i p _ => ¬ ((p : Int) < a1) ∧ ∀ (j q : Nat), j < i → (placesL a0)[j]? = some q → (q : Int) < a1)
      (enters_of Tryd.func74 (by kernel_rfl) rfl) (fun k hk => by cases hk) (fun W1 W2 h hb => ⟨h.1.below hb, h.2⟩)
      (fun i p W1 hp hB hJ => (levels_Depth_1.calls (p : Int) _ a1 g W1 hJ.1).mono fun e W2 ⟨he, hb⟩ => ⟨_, he, Turned.of_below hb, fun hd => ⟨hJ.1.below hb, fun j q hj hq => by
          by_cases c : j = i
          · subst c
            rw [hp] at hq
            injection hq with hq
            rw [← hq]
            exact of_decide_eq_true hd
          · exact hJ.2 j q (by omega) hq⟩, fun hd => ⟨of_decide_eq_false hd, hJ.2⟩⟩)
      ⟨B, fun j q hj _ => absurd hj (Nat.not_lt_zero _)⟩
    refine this.mono fun e w' ⟨d, he, ht, hh⟩ => ⟨?_, ht.below (fun k hk => by cases hk) (Nat.le_refl _) (Below.refl _ _)⟩
    rw [he, ← HR.out]
    rcases hh with ⟨hd, _, h2⟩ | ⟨i, p, hp, hd, h1, h2⟩
    · rw [hd, depAt_all (fun j q hq => h2 j q ((List.getElem?_eq_some_iff.1 hq).1) hq)]
    · rw [hd, depAt_stop hp h1 h2]⟩
  clear HR HS
  go_enter Tryd.func37, Tryd.ntmps37
  go_wp2_with (first
    | ((with_reducible refine gate_dst (N := 3) rfl ?_); refine ev_alloc HB rfl (#[.int .i64 a1]) 3 ?hr ?_; (case hr => first | (go_simp; done) | (go_simp; rfl)); intro g3 w3 G_g3 GE_g3 B_g3 HBn K_g3; clear HB; have HB := HBn; clear HBn)
    | (go_at_call 64; refine (WK.out g3 w3 (HT.out.stepH HB) B_g3).mono ?_; rintro e w4 ⟨rfl, hb4⟩; have HB4 := HB.step hb4; clear hb4))
  go_ret
  exact ⟨rfl, HB4.out⟩
end


mutual
def marks_Kind.j0 : Nat → ByteArray → Int → Bool → Option (Int)
  | 0, _, _, _ => none
  | k + 1, x0, x1, x16 => if x16 = true then (some 0) else ((marks_look.f x0).bind fun t125 => (if 0 ≤ (wrap64 (Int.tdiv x1 64)) then (if (wrap64 (Int.tdiv x1 64)) < (t125.length : Int) then (if 0 ≤ (Int.tmod x1 64) then (if x1 ≥ 64 then (if 0 ≤ (wrap64 ((wrap64 (Int.tdiv x1 64)) - 1)) then (if (wrap64 ((wrap64 (Int.tdiv x1 64)) - 1)) < (t125.length : Int) then ((marks_rows_ends.f ((rd_T77 t125 (wrap64 ((wrap64 (Int.tdiv x1 64)) - 1))).f0) ((rd_T77 t125 (wrap64 ((wrap64 (Int.tdiv x1 64)) - 1))).f1) ((rd_T77 t125 (wrap64 ((wrap64 (Int.tdiv x1 64)) - 1))).f2) ((rd_T77 t125 (wrap64 ((wrap64 (Int.tdiv x1 64)) - 1))).f3)).bind fun t131 => (marks_Kind.j1 k x0 x1 (shl .u64 1 (Int.tmod x1 64)) t131 ((rd_T77 t125 (wrap64 (Int.tdiv x1 64))).f0) ((rd_T77 t125 (wrap64 (Int.tdiv x1 64))).f1) ((rd_T77 t125 (wrap64 (Int.tdiv x1 64))).f2) ((rd_T77 t125 (wrap64 (Int.tdiv x1 64))).f3))) else (none)) else (none)) else (marks_Kind.j1 k x0 x1 (shl .u64 1 (Int.tmod x1 64)) false ((rd_T77 t125 (wrap64 (Int.tdiv x1 64))).f0) ((rd_T77 t125 (wrap64 (Int.tdiv x1 64))).f1) ((rd_T77 t125 (wrap64 (Int.tdiv x1 64))).f2) ((rd_T77 t125 (wrap64 (Int.tdiv x1 64))).f3))) else (none)) else (none)) else (none)))
def marks_Kind.j1 : Nat → ByteArray → Int → Int → Bool → Int → Int → Int → Int → Option (Int)
  | 0, _, _, _, _, _, _, _, _ => none
  | k + 1, x0, x1, x7, x8, x130000, x130001, x130002, x130003 => if (Go.bits .and .u64 (Go.bits .or .u64 x130000 x130002) x7) = 0 then ((marks_rows_starts.f x130000 x130001 x130002 x130003 x8).bind fun t132 => (if (Go.bits .and .u64 t132 x7) = 0 then (some 0) else (some 119))) else (if 0 ≤ x1 then (if x1 < (x0.size : Int) then (some (bt x0 x1)) else (none)) else (none))
end
def marks_Kind.f (k : Nat) (a0 : ByteArray) (a1 : Int) : Option (Int) := if a1 < 0 then (marks_Kind.j0 k a0 a1 true) else (marks_Kind.j0 k a0 a1 (decide (a1 ≥ (a0.size : Int))))
theorem marks_Kind.mono_l : ∀ k, (∀ y0 y1 y2, LeO (marks_Kind.j0 k y0 y1 y2) (marks_Kind.j0 (k + 1) y0 y1 y2)) ∧ (∀ y0 y1 y2 y3 y4 y5 y6 y7, LeO (marks_Kind.j1 k y0 y1 y2 y3 y4 y5 y6 y7) (marks_Kind.j1 (k + 1) y0 y1 y2 y3 y4 y5 y6 y7))
  | 0 => ⟨fun _ _ _ r h => by simp [marks_Kind.j0] at h, fun _ _ _ _ _ _ _ _ r h => by simp [marks_Kind.j1] at h⟩
  | k + 1 => by
    obtain ⟨ih0, ih1⟩ := marks_Kind.mono_l k
    refine ⟨?_, ?_⟩
    · intro y0 y1 y2
      unfold marks_Kind.j0
      repeat' first
      | (with_reducible exact ih0 _ _ _)
      | (with_reducible exact ih1 _ _ _ _ _ _ _ _)
      | (with_reducible exact LeO.refl _)
      | (with_reducible exact LeO.none _)
      | (with_reducible refine LeO.ite ?_ ?_)
      | (with_reducible refine LeO.bind ?_ (fun _ => ?_))
      | exact ih0 _ _ _
      | exact ih1 _ _ _ _ _ _ _ _
      | exact LeO.none _
      | refine LeO.ite ?_ ?_
      | refine LeO.bind ?_ (fun _ => ?_)
    · intro y0 y1 y2 y3 y4 y5 y6 y7
      unfold marks_Kind.j1
      repeat' first
      | (with_reducible exact ih0 _ _ _)
      | (with_reducible exact ih1 _ _ _ _ _ _ _ _)
      | (with_reducible exact LeO.refl _)
      | (with_reducible exact LeO.none _)
      | (with_reducible refine LeO.ite ?_ ?_)
      | (with_reducible refine LeO.bind ?_ (fun _ => ?_))
      | exact ih0 _ _ _
      | exact ih1 _ _ _ _ _ _ _ _
      | exact LeO.none _
      | refine LeO.ite ?_ ?_
      | refine LeO.bind ?_ (fun _ => ?_)
theorem marks_Kind.mono : ∀ a0 a1 k, LeO (marks_Kind.f k a0 a1) (marks_Kind.f (k + 1) a0 a1) := by
  intro a0 a1 k
  obtain ⟨ih0, ih1⟩ := marks_Kind.mono_l k
  unfold marks_Kind.f
  repeat' first
      | (with_reducible exact ih0 _ _ _)
      | (with_reducible exact ih1 _ _ _ _ _ _ _ _)
      | (with_reducible exact LeO.refl _)
      | (with_reducible exact LeO.none _)
      | (with_reducible refine LeO.ite ?_ ?_)
      | (with_reducible refine LeO.bind ?_ (fun _ => ?_))
      | exact ih0 _ _ _
      | exact ih1 _ _ _ _ _ _ _ _
      | exact LeO.none _
      | refine LeO.ite ?_ ?_
      | refine LeO.bind ?_ (fun _ => ?_)
def marks_Kind.T4 : Bool × List (List Nat × List Nat) := (true, [([], []), ([], []), ([1], [1]), ([0, 2], [0, 2]), ([3], [3]), ([], []), ([5], [5]), ([6], [6]), ([], []), ([8, 4, 0, 1, 2, 3, 4, 8], [4, 8]), ([7, 9, 0, 1, 2, 3, 4, 5, 6, 7, 8, 9], [7])])
def marks_Kind.B4 : List Nat := [0, 0, 2, 7, 15, 0, 32, 96, 0, 287, 1023]
theorem marks_Kind.tab4 : rtab .any (opsOf Tryd.f22 4) = marks_Kind.T4 := by kernel_rfl
theorem marks_Kind.bits4 : waitsOk marks_Kind.T4.2 marks_Kind.B4 = true := by kernel_rfl
set_option maxHeartbeats 8000000 in
set_option maxRecDepth 100000 in
theorem marks_Kind.calls (k : Nat) (a0 : ByteArray) (a1 : Int) (r : Int) (w : World) (h : marks_Kind.f k a0 a1 = some r) :
    Calls Tryd.prog 22 #[.string a0, .int .i64 a1] w fun e w' => e = .returned (.int .u8 r) ∧ Below w.heap.size w w' := by
  have hu77 := Tryd.underlying77
  have HB := Aside0.mk (Below.refl w.heap.size w)
  have H : (if a1 < 0 then (marks_Kind.j0 k a0 a1 true) else (marks_Kind.j0 k a0 a1 (decide (a1 ≥ (a0.size : Int))))) = some r := h
  clear h
  have HC3 := Aside0.mk H
  clear H
  go_enter Tryd.func22, Tryd.ntmps22
  go_upto_region 1 with (fail)
  go_cut [16] (fun v16 wc => ∃ (kq : Nat) (x16_2 : Bool), v16 = .bool x16_2 ∧ Aside0 (marks_Kind.j0 kq a0 a1 x16_2 = some r) ∧ Aside0 (kq ≤ k) ∧ Aside0 (Below w.heap.size w wc))
  case first =>
    have H := HC3.out
    clear HC3
    by_cases c4 : a1 < 0
    · rw [if_pos c4] at H
      have c4b0 : decide (a1 < 0) = true := decide_eq_true c4
      clear c4
      (first | rw [c4b0] | (simp only [i64_w, i32_w]; rw [c4b0]) | skip)
      have H' := Aside0.mk H
      clear H
      go_wp2
      go_meet
      case rel => exact ⟨_, (true), (by first | rfl | (simp; done) | (simp [*]; done)), H', ⟨by first | omega | exact Nat.le_refl _⟩, ⟨by repeat (first | (with_reducible first | exact HB.out | apply below_alloc | apply pw_below_drewN | apply below_drew1) | exact HB.out)⟩⟩
    · rw [if_neg c4] at H
      have c4b0 : decide (a1 < 0) = false := decide_eq_false c4
      clear c4
      (first | rw [c4b0] | (simp only [i64_w, i32_w]; rw [c4b0]) | skip)
      have H' := Aside0.mk H
      clear H
      go_wp2
      go_meet
      case rel => exact ⟨_, (decide (a1 ≥ (a0.size : Int))), (by first | rfl | (simp; done) | (simp [*]; done)), H', ⟨by first | omega | exact Nat.le_refl _⟩, ⟨by repeat (first | (with_reducible first | exact HB.out | apply below_alloc | apply pw_below_drewN | apply below_drew1) | exact HB.out)⟩⟩
  case rest =>
    clear HC3
    try clear c2
    try clear p2
    try clear c4
    try clear c4b0
    obtain ⟨kq, x16_2, rfl, HA, HJ2, HB⟩ := hcut
    cases kq with
    | zero => exact absurd HA.out (by simp [marks_Kind.j0])
    | succ kj2 =>
      have H := HA.out
      clear HA
      simp only [marks_Kind.j0] at H
      by_cases c5 : x16_2 = true
      · subst c5
        have H1 : (some 0) = some r := by rw [if_pos rfl] at H; exact H
        clear H
        have H := H1
        clear H1
        obtain rfl := Option.some.inj H
        go_wp2
        go_ret
        exact ⟨by first | rfl | (simp [errW_none, errW_some] <;> rfl) | (simp [*, errW_none, errW_some] <;> rfl), by repeat (first | (with_reducible first | exact HB.out | apply below_alloc | apply pw_below_drewN | apply below_drew1) | exact HB.out)⟩
      · replace c5 := Bool.eq_false_iff.mpr c5
        subst c5
        have H1 : ((marks_look.f a0).bind fun t125 => (if 0 ≤ (wrap64 (Int.tdiv a1 64)) then (if (wrap64 (Int.tdiv a1 64)) < (t125.length : Int) then (if 0 ≤ (Int.tmod a1 64) then (if a1 ≥ 64 then (if 0 ≤ (wrap64 ((wrap64 (Int.tdiv a1 64)) - 1)) then (if (wrap64 ((wrap64 (Int.tdiv a1 64)) - 1)) < (t125.length : Int) then ((marks_rows_ends.f ((rd_T77 t125 (wrap64 ((wrap64 (Int.tdiv a1 64)) - 1))).f0) ((rd_T77 t125 (wrap64 ((wrap64 (Int.tdiv a1 64)) - 1))).f1) ((rd_T77 t125 (wrap64 ((wrap64 (Int.tdiv a1 64)) - 1))).f2) ((rd_T77 t125 (wrap64 ((wrap64 (Int.tdiv a1 64)) - 1))).f3)).bind fun t131 => (marks_Kind.j1 kj2 a0 a1 (shl .u64 1 (Int.tmod a1 64)) t131 ((rd_T77 t125 (wrap64 (Int.tdiv a1 64))).f0) ((rd_T77 t125 (wrap64 (Int.tdiv a1 64))).f1) ((rd_T77 t125 (wrap64 (Int.tdiv a1 64))).f2) ((rd_T77 t125 (wrap64 (Int.tdiv a1 64))).f3))) else (none)) else (none)) else (marks_Kind.j1 kj2 a0 a1 (shl .u64 1 (Int.tmod a1 64)) false ((rd_T77 t125 (wrap64 (Int.tdiv a1 64))).f0) ((rd_T77 t125 (wrap64 (Int.tdiv a1 64))).f1) ((rd_T77 t125 (wrap64 (Int.tdiv a1 64))).f2) ((rd_T77 t125 (wrap64 (Int.tdiv a1 64))).f3))) else (none)) else (none)) else (none))) = some r := by rw [if_neg (show ¬ (false = true) by decide)] at H; exact H
        clear H
        have H := H1
        clear H1
        replace H := Option.bind_eq_some_iff.mp H
        obtain ⟨t125, A60, H⟩ := H
        replace H : (if 0 ≤ (wrap64 (Int.tdiv a1 64)) then (if (wrap64 (Int.tdiv a1 64)) < (t125.length : Int) then (if 0 ≤ (Int.tmod a1 64) then (if a1 ≥ 64 then (if 0 ≤ (wrap64 ((wrap64 (Int.tdiv a1 64)) - 1)) then (if (wrap64 ((wrap64 (Int.tdiv a1 64)) - 1)) < (t125.length : Int) then ((marks_rows_ends.f ((rd_T77 t125 (wrap64 ((wrap64 (Int.tdiv a1 64)) - 1))).f0) ((rd_T77 t125 (wrap64 ((wrap64 (Int.tdiv a1 64)) - 1))).f1) ((rd_T77 t125 (wrap64 ((wrap64 (Int.tdiv a1 64)) - 1))).f2) ((rd_T77 t125 (wrap64 ((wrap64 (Int.tdiv a1 64)) - 1))).f3)).bind fun t131 => (marks_Kind.j1 kj2 a0 a1 (shl .u64 1 (Int.tmod a1 64)) t131 ((rd_T77 t125 (wrap64 (Int.tdiv a1 64))).f0) ((rd_T77 t125 (wrap64 (Int.tdiv a1 64))).f1) ((rd_T77 t125 (wrap64 (Int.tdiv a1 64))).f2) ((rd_T77 t125 (wrap64 (Int.tdiv a1 64))).f3))) else (none)) else (none)) else (marks_Kind.j1 kj2 a0 a1 (shl .u64 1 (Int.tmod a1 64)) false ((rd_T77 t125 (wrap64 (Int.tdiv a1 64))).f0) ((rd_T77 t125 (wrap64 (Int.tdiv a1 64))).f1) ((rd_T77 t125 (wrap64 (Int.tdiv a1 64))).f2) ((rd_T77 t125 (wrap64 (Int.tdiv a1 64))).f3))) else (none)) else (none)) else (none)) = some r := H
        have A6 := Aside0.mk A60
        clear A60
        obtain ⟨ji7, hji7⟩ : ∃ j_ : Int, (wrap64 (Int.tdiv a1 64)) = j_ := ⟨_, rfl⟩
        replace H : (if 0 ≤ (ji7) then (if (ji7) < (t125.length : Int) then (if 0 ≤ (Int.tmod a1 64) then (if a1 ≥ 64 then (if 0 ≤ (wrap64 ((ji7) - 1)) then (if (wrap64 ((ji7) - 1)) < (t125.length : Int) then ((marks_rows_ends.f ((rd_T77 t125 (wrap64 ((ji7) - 1))).f0) ((rd_T77 t125 (wrap64 ((ji7) - 1))).f1) ((rd_T77 t125 (wrap64 ((ji7) - 1))).f2) ((rd_T77 t125 (wrap64 ((ji7) - 1))).f3)).bind fun t131 => (marks_Kind.j1 kj2 a0 a1 (shl .u64 1 (Int.tmod a1 64)) t131 ((rd_T77 t125 (ji7)).f0) ((rd_T77 t125 (ji7)).f1) ((rd_T77 t125 (ji7)).f2) ((rd_T77 t125 (ji7)).f3))) else (none)) else (none)) else (marks_Kind.j1 kj2 a0 a1 (shl .u64 1 (Int.tmod a1 64)) false ((rd_T77 t125 (ji7)).f0) ((rd_T77 t125 (ji7)).f1) ((rd_T77 t125 (ji7)).f2) ((rd_T77 t125 (ji7)).f3))) else (none)) else (none)) else (none)) = some r := by first | (rw [hji7] at H; exact H) | (simp only [hji7] at H ⊢; exact H)
        (try rw [hji7] at A6)
        have hji7w : (IntKind.i64.wrap (Int.tdiv a1 64)) = ji7 := (i64_w _).trans hji7
        by_cases c8 : 0 ≤ (ji7)
        · rw [if_pos c8] at H
          have c8b0 : decide (0 ≤ (ji7)) = true := decide_eq_true c8
          clear c8
          by_cases c9 : (ji7) < (t125.length : Int)
          · rw [if_pos c9] at H
            have c9b0 : decide ((ji7) < (t125.length : Int)) = true := decide_eq_true c9
            clear c9
            obtain ⟨ji10, hji10⟩ : ∃ j_ : Int, (Int.tmod a1 64) = j_ := ⟨_, rfl⟩
            replace H : (if 0 ≤ (ji10) then (if a1 ≥ 64 then (if 0 ≤ (wrap64 ((ji7) - 1)) then (if (wrap64 ((ji7) - 1)) < (t125.length : Int) then ((marks_rows_ends.f ((rd_T77 t125 (wrap64 ((ji7) - 1))).f0) ((rd_T77 t125 (wrap64 ((ji7) - 1))).f1) ((rd_T77 t125 (wrap64 ((ji7) - 1))).f2) ((rd_T77 t125 (wrap64 ((ji7) - 1))).f3)).bind fun t131 => (marks_Kind.j1 kj2 a0 a1 (shl .u64 1 (ji10)) t131 ((rd_T77 t125 (ji7)).f0) ((rd_T77 t125 (ji7)).f1) ((rd_T77 t125 (ji7)).f2) ((rd_T77 t125 (ji7)).f3))) else (none)) else (none)) else (marks_Kind.j1 kj2 a0 a1 (shl .u64 1 (ji10)) false ((rd_T77 t125 (ji7)).f0) ((rd_T77 t125 (ji7)).f1) ((rd_T77 t125 (ji7)).f2) ((rd_T77 t125 (ji7)).f3))) else (none)) = some r := by first | (rw [hji10] at H; exact H) | (simp only [hji10] at H ⊢; exact H)
            (try rw [hji10] at A6)
            by_cases c11 : 0 ≤ (ji10)
            · rw [if_pos c11] at H
              have c11b0 := eq_true c11
              have c11b1 : decide (0 ≤ (ji10)) = true := decide_eq_true c11
              clear c11
              obtain ⟨ji12, hji12⟩ : ∃ j_ : Int, (shl .u64 1 (ji10)) = j_ := ⟨_, rfl⟩
              replace H : (if a1 ≥ 64 then (if 0 ≤ (wrap64 ((ji7) - 1)) then (if (wrap64 ((ji7) - 1)) < (t125.length : Int) then ((marks_rows_ends.f ((rd_T77 t125 (wrap64 ((ji7) - 1))).f0) ((rd_T77 t125 (wrap64 ((ji7) - 1))).f1) ((rd_T77 t125 (wrap64 ((ji7) - 1))).f2) ((rd_T77 t125 (wrap64 ((ji7) - 1))).f3)).bind fun t131 => (marks_Kind.j1 kj2 a0 a1 ji12 t131 ((rd_T77 t125 (ji7)).f0) ((rd_T77 t125 (ji7)).f1) ((rd_T77 t125 (ji7)).f2) ((rd_T77 t125 (ji7)).f3))) else (none)) else (none)) else (marks_Kind.j1 kj2 a0 a1 ji12 false ((rd_T77 t125 (ji7)).f0) ((rd_T77 t125 (ji7)).f1) ((rd_T77 t125 (ji7)).f2) ((rd_T77 t125 (ji7)).f3))) = some r := by first | (rw [hji12] at H; exact H) | (simp only [hji12] at H ⊢; exact H)
              (try rw [hji12] at A6)
              have hji12_ : (IntKind.u64.wrap (1 * 2 ^ min (ji10).toNat 64)) = ji12 := hji12
              have hji12z : (ji10) ≤ 64 → (IntKind.u64.wrap (1 * 2 ^ (ji10).toNat)) = ji12 := shl_small hji12
              have hji12u : (IntKind.u64.wrap (2 ^ min (ji10).toNat 64)) = ji12 := by have h_ := hji12_; rw [Int.one_mul] at h_; exact h_
              have hji12v : (ji10) ≤ 64 → (IntKind.u64.wrap (2 ^ (ji10).toNat)) = ji12 := fun hle_ => by have h_ := hji12z hle_; rw [Int.one_mul] at h_; exact h_
              have HC13 := Aside0.mk H
              clear H
              try go_wp2_with (first | ((with_reducible refine gate_callee (f := 50) rfl ?_); refine goesL_ (some 18) rfl rfl Tryd.func50 (by kernel_rfl) rfl #[.string a0] rfl (by (try simp only [List.map_toArray, List.map_cons, List.map_nil]); first | done | rfl | (simp only [List.length_drop, List.length_take]; rfl)) ?_; (with_reducible refine (marks_look.calls a0 t125 _ A6.out).mono ?_); rintro e w14 ⟨v126, rfl, ho0, hb⟩; refine ⟨_, rfl, ?_⟩; have n0_ := Aside0.mk (Kd.R_lower ho0 (below_size (by repeat (first | (with_reducible first | exact HB.out | apply below_alloc | apply pw_below_drewN | apply below_drew1) | exact HB.out)))); have n1_ := Aside0.mk (below_step (by repeat (first | (with_reducible first | exact HB.out | apply below_alloc | apply pw_below_drewN | apply below_drew1) | exact HB.out)) hb); clear HB; have HO127 := n0_; have HB := n1_; clear n0_ n1_; (try clear hb); (try clear hb2); (try clear hk); (try clear hi); (try clear ho0)))
              have n0_ := Aside0.mk (Kd.R_drew HO127.out)
              have n1_ := Aside0.mk (below_drew1 HB.out)
              clear HO127
              clear HB
              have HO127 := n0_
              have HB := n1_
              clear n0_ n1_
              obtain ⟨Ao16, co16, eo16⟩ := Kd.R_slice HO127.out
              (first | subst eo16 | (injection eo16 with f1_ f2_ f3_; have f4_ := f1_.symm; have f5_ := f3_.symm; clear f1_ f2_ f3_; subst f4_; subst f5_))
              have p128 : 0 ≤ ((ji7) : Int) := of_decide_eq_true (by first | (with_reducible assumption) | assumption)
              have q128 : (ji7) < (t125.length : Int) := of_decide_eq_true (by first | (with_reducible assumption) | assumption)
              obtain ⟨ad128, e128, hx128_0, hx128_1, hx128_2, hx128_3⟩ := at_T77 (Kd.R_reads' HO127.out).2.2 (ji7) p128 q128
              cases e128
              replace p128 := eq_true p128
              replace q128 := eq_true q128
              refine start_ (n := 11) (S := fun w' => w'.cell? (ad128.add (((ji7)).toNat * 4)) = some (.int .u64 ((rd_T77 t125 (ji7)).f0)) ∧ w'.cell? ⟨(ad128.add (((ji7)).toNat * 4)).block, (ad128.add (((ji7)).toNat * 4)).off + 1, none⟩ = some (.int .u64 ((rd_T77 t125 (ji7)).f1)) ∧ w'.cell? ⟨(ad128.add (((ji7)).toNat * 4)).block, (ad128.add (((ji7)).toNat * 4)).off + 2, none⟩ = some (.int .u64 ((rd_T77 t125 (ji7)).f2)) ∧ w'.cell? ⟨(ad128.add (((ji7)).toNat * 4)).block, (ad128.add (((ji7)).toNat * 4)).off + 3, none⟩ = some (.int .u64 ((rd_T77 t125 (ji7)).f3))) (ds := []) #[false, false, false, false, false, false, false, false, false, false, false] (by kernel_rfl) rfl rfl ⟨hx128_0, hx128_1, hx128_2, hx128_3⟩ (fun hHeld => ?_); refine with_tabW marks_Kind.tab4 marks_Kind.bits4 (fun HT_ HW_ => ?_)
              generalize w14.drew = w15 at HO127 HB hx128_0 hx128_1 hx128_2 hx128_3 hHeld ⊢
              refine pure_ (i := 0) (N := some 19) (v := ?_) (a' := ?_) #[true, false, false, false, false, false, false, false, false, false, false] rfl rfl (any_of HT_.out (by kernel_rfl)) (fun _ _ _ h => h) (Or.inl ⟨by rfl, ?_⟩) ?_ ?_
              rotate_left
              · intro w'
                go_simp
                with_reducible rfl
              rotate_left
              · simp only [Act.put, List.setIfInBounds_toArray, List.set_cons_zero, List.set_cons_succ, i64_w, i32_w]
                rfl
              refine pure_ (i := 1) (N := some 20) (v := ?_) (a' := ?_) #[true, true, false, false, false, false, false, false, false, false, false] rfl rfl (any_of HT_.out (by kernel_rfl)) (fun _ _ _ h => h) (Or.inl ⟨by rfl, ?_⟩) ?_ ?_
              rotate_left
              · intro w'
                go_simp
                with_reducible rfl
              rotate_left
              · simp only [Act.put, List.setIfInBounds_toArray, List.set_cons_zero, List.set_cons_succ, i64_w, i32_w]
                rfl
              refine pure_ (i := 2) (N := some 21) (v := ?_) (a' := ?_) #[true, true, true, false, false, false, false, false, false, false, false] rfl rfl (any_of HT_.out (by kernel_rfl)) (fun _ _ _ h => h) (Or.inl ⟨by rfl, ?_⟩) ?_ ?_
              rotate_left
              · intro w'
                go_simp
                with_reducible rfl
              rotate_left
              · simp only [Act.put, List.setIfInBounds_toArray, List.set_cons_zero, List.set_cons_succ, i64_w, i32_w]
                rfl
              refine pure_ (i := 3) (N := some 22) (v := ?_) (a' := ?_) #[true, true, true, true, false, false, false, false, false, false, false] rfl rfl (any_of HT_.out (by kernel_rfl)) (fun _ _ _ h => h) (Or.inl ⟨by rfl, ?_⟩) ?_ ?_
              rotate_left
              · intro w'
                go_simp
                with_reducible rfl
              rotate_left
              · simp only [Act.put, List.setIfInBounds_toArray, List.set_cons_zero, List.set_cons_succ, i64_w, i32_w]
                rfl
              refine pure_ (i := 5) (N := some 24) (v := ?_) (a' := ?_) #[true, true, true, true, false, true, false, false, false, false, false] rfl rfl (any_of HT_.out (by kernel_rfl)) (fun _ _ _ h => h) (Or.inl ⟨by rfl, ?_⟩) ?_ ?_
              rotate_left
              · intro w'
                go_simp
                with_reducible rfl
              rotate_left
              · simp only [Act.put, List.setIfInBounds_toArray, List.set_cons_zero, List.set_cons_succ, i64_w, i32_w]
                rfl
              refine pure_ (i := 6) (N := some 25) (v := ?_) (a' := ?_) #[true, true, true, true, false, true, true, false, false, false, false] rfl rfl (any_of HT_.out (by kernel_rfl)) (fun _ _ _ h => h) (Or.inl ⟨by rfl, ?_⟩) ?_ ?_
              rotate_left
              · intro w'
                go_simp
                with_reducible rfl
              rotate_left
              · simp only [Act.put, List.setIfInBounds_toArray, List.set_cons_zero, List.set_cons_succ, i64_w, i32_w]
                rfl
              refine pure_ (i := 7) (N := some 26) (v := ?_) (a' := ?_) #[true, true, true, true, false, true, true, true, false, false, false] rfl rfl (any_of HT_.out (by kernel_rfl)) (fun _ _ _ h => h) (Or.inl ⟨by rfl, ?_⟩) ?_ ?_
              rotate_left
              · intro w'
                go_simp
                with_reducible rfl
              rotate_left
              · simp only [Act.put, List.setIfInBounds_toArray, List.set_cons_zero, List.set_cons_succ, i64_w, i32_w]
                rfl
              refine take_ (i := 4) (N := some 23) (v := ?_) (a' := ?_) #[true, true, true, true, true, true, true, true, false, false, false] rfl rfl (take_ofW HT_.out HW_.out (by kernel_rfl)) (fun _ _ _ h => h) (Or.inl ⟨by rfl, ?_⟩) hHeld ?_ ?_
              rotate_left
              · rintro w' ⟨s0, s1, s2, s3⟩
                go_simp
                with_reducible rfl
              rotate_left
              · simp only [Act.put, List.setIfInBounds_toArray, List.set_cons_zero, List.set_cons_succ, i64_w, i32_w]
                rfl
              refine one_ (i := 8) (N := some 6) #[true, true, true, true, true, true, true, true, true, false, false] rfl rfl (one_of HT_.out (by kernel_rfl)) (by decide) (fun K hK => ?_)
              refine box_step ?hg (N := 6) ?hd (cs := #[.int .u64 0, .int .u64 0, .int .u64 0, .int .u64 0]) (t := 77) ?hr ?_; (case hd => rfl); (case hg => rfl); (case hr => first | (go_simp; done) | (go_simp; rfl))
              intro gb129 hg w17 hbox hb
              have HS0_ := (hb.cell (World.block_lt_of_cell? _ _ (hHeld.1))).trans (hHeld.1)
              have HS1_ := (hb.cell (World.block_lt_of_cell? _ _ (hHeld.2.1))).trans (hHeld.2.1)
              have HS2_ := (hb.cell (World.block_lt_of_cell? _ _ (hHeld.2.2.1))).trans (hHeld.2.2.1)
              have HS3_ := (hb.cell (World.block_lt_of_cell? _ _ (hHeld.2.2.2))).trans (hHeld.2.2.2)
              have n0_ := Aside0.mk (Kd.R_below (Kd.R_elderB (by (with_reducible repeat (first | apply Kd.R_alloc | apply Kd.R_drewN | apply Kd.R_drew)); exact HO127.out) gb129 (Nat.le_of_eq hg.symm)) hb)
              have n1_ := Aside0.mk (below_step (by repeat (first | (with_reducible first | exact HB.out | apply below_alloc | apply pw_below_drewN | apply below_drew1) | exact HB.out)) hb)
              have n2_ := Aside0.mk (hbox)
              have n3_ := Aside0.mk ((by rw [hg]; exact (below_size (by repeat (first | (with_reducible first | exact HB.out | apply below_alloc | apply pw_below_drewN | apply below_drew1) | exact HB.out))) : w.heap.size ≤ gb129))
              have n4_ := Aside0.mk ((by rw [hg]; exact (below_size (by repeat (first | (with_reducible first | exact HB.out | apply below_alloc | apply pw_below_drewN | apply below_drew1) | exact HB.out))) : w.heap.size ≤ gb129))
              clear HO127
              clear HB
              have HO127 := n0_
              have HB := n1_
              have BK129 := n2_
              have GW129 := n3_
              have GE129 := n4_
              clear n0_ n1_ n2_ n3_ n4_
              clear hb hbox hg
              refine hK.out _ _ ⟨HS0_, HS1_, HS2_, HS3_⟩ (fun hHeld => ?_)
              clear hK K
              refine norm_ (a' := ?_) ?_ ?_
              rotate_left
              · show Act.put _ (some 6) _ = _
                simp only [Act.put, List.setIfInBounds_toArray, List.set_cons_zero, List.set_cons_succ, i64_w, i32_w]
                rfl
              refine one_ (i := 9) (N := none) #[true, true, true, true, true, true, true, true, true, true, false] rfl rfl (one_of HT_.out (by kernel_rfl)) (by decide) (fun K hK => ?_)
              have hs18 : w17.cell? ⟨gb129, 0, none⟩ = some (.int .u64 0) := (blk_cell BK129.out 0).trans rfl
              have hfs18 := blk_frozen BK129.out 0
              have hs19 : w17.cell? ⟨gb129, 1, none⟩ = some (.int .u64 0) := (blk_cell BK129.out 1).trans rfl
              have hfs19 := blk_frozen BK129.out 1
              have hs20 : w17.cell? ⟨gb129, 2, none⟩ = some (.int .u64 0) := (blk_cell BK129.out 2).trans rfl
              have hfs20 := blk_frozen BK129.out 2
              have hs21 : w17.cell? ⟨gb129, 3, none⟩ = some (.int .u64 0) := (blk_cell BK129.out 3).trans rfl
              have hfs21 := blk_frozen BK129.out 3
              refine skip_ (w1 := ?_) (by rfl) rfl ?_ ?_
              rotate_left
              · go_simp
                rfl
              refine hK.out _ _ ⟨((cell_far (p := ⟨gb129, _, none⟩) (by first | exact Kd.own_blk (Kd.R_away HO127.out (fun _ hk => hk.2)) | (rw [add_block]; exact Kd.own_blk (Kd.R_away HO127.out (fun _ hk => hk.2))) | (show (Addr.add _ _).block ≠ _; rw [add_block]; exact Kd.own_blk (Kd.R_away HO127.out (fun _ hk => hk.2))) | (dsimp only; exact Kd.own_blk (Kd.R_away HO127.out (fun _ hk => hk.2)))) _).trans (((cell_far (p := ⟨gb129, _, none⟩) (by first | exact Kd.own_blk (Kd.R_away HO127.out (fun _ hk => hk.2)) | (rw [add_block]; exact Kd.own_blk (Kd.R_away HO127.out (fun _ hk => hk.2))) | (show (Addr.add _ _).block ≠ _; rw [add_block]; exact Kd.own_blk (Kd.R_away HO127.out (fun _ hk => hk.2))) | (dsimp only; exact Kd.own_blk (Kd.R_away HO127.out (fun _ hk => hk.2)))) _).trans (((cell_far (p := ⟨gb129, _, none⟩) (by first | exact Kd.own_blk (Kd.R_away HO127.out (fun _ hk => hk.2)) | (rw [add_block]; exact Kd.own_blk (Kd.R_away HO127.out (fun _ hk => hk.2))) | (show (Addr.add _ _).block ≠ _; rw [add_block]; exact Kd.own_blk (Kd.R_away HO127.out (fun _ hk => hk.2))) | (dsimp only; exact Kd.own_blk (Kd.R_away HO127.out (fun _ hk => hk.2)))) _).trans (((cell_far (p := ⟨gb129, _, none⟩) (by first | exact Kd.own_blk (Kd.R_away HO127.out (fun _ hk => hk.2)) | (rw [add_block]; exact Kd.own_blk (Kd.R_away HO127.out (fun _ hk => hk.2))) | (show (Addr.add _ _).block ≠ _; rw [add_block]; exact Kd.own_blk (Kd.R_away HO127.out (fun _ hk => hk.2))) | (dsimp only; exact Kd.own_blk (Kd.R_away HO127.out (fun _ hk => hk.2)))) _).trans (hHeld.1)))))))), ((cell_far (p := ⟨gb129, _, none⟩) (by first | exact Kd.own_blk (Kd.R_away HO127.out (fun _ hk => hk.2)) | (rw [add_block]; exact Kd.own_blk (Kd.R_away HO127.out (fun _ hk => hk.2))) | (show (Addr.add _ _).block ≠ _; rw [add_block]; exact Kd.own_blk (Kd.R_away HO127.out (fun _ hk => hk.2))) | (dsimp only; exact Kd.own_blk (Kd.R_away HO127.out (fun _ hk => hk.2)))) _).trans (((cell_far (p := ⟨gb129, _, none⟩) (by first | exact Kd.own_blk (Kd.R_away HO127.out (fun _ hk => hk.2)) | (rw [add_block]; exact Kd.own_blk (Kd.R_away HO127.out (fun _ hk => hk.2))) | (show (Addr.add _ _).block ≠ _; rw [add_block]; exact Kd.own_blk (Kd.R_away HO127.out (fun _ hk => hk.2))) | (dsimp only; exact Kd.own_blk (Kd.R_away HO127.out (fun _ hk => hk.2)))) _).trans (((cell_far (p := ⟨gb129, _, none⟩) (by first | exact Kd.own_blk (Kd.R_away HO127.out (fun _ hk => hk.2)) | (rw [add_block]; exact Kd.own_blk (Kd.R_away HO127.out (fun _ hk => hk.2))) | (show (Addr.add _ _).block ≠ _; rw [add_block]; exact Kd.own_blk (Kd.R_away HO127.out (fun _ hk => hk.2))) | (dsimp only; exact Kd.own_blk (Kd.R_away HO127.out (fun _ hk => hk.2)))) _).trans (((cell_far (p := ⟨gb129, _, none⟩) (by first | exact Kd.own_blk (Kd.R_away HO127.out (fun _ hk => hk.2)) | (rw [add_block]; exact Kd.own_blk (Kd.R_away HO127.out (fun _ hk => hk.2))) | (show (Addr.add _ _).block ≠ _; rw [add_block]; exact Kd.own_blk (Kd.R_away HO127.out (fun _ hk => hk.2))) | (dsimp only; exact Kd.own_blk (Kd.R_away HO127.out (fun _ hk => hk.2)))) _).trans (hHeld.2.1)))))))), ((cell_far (p := ⟨gb129, _, none⟩) (by first | exact Kd.own_blk (Kd.R_away HO127.out (fun _ hk => hk.2)) | (rw [add_block]; exact Kd.own_blk (Kd.R_away HO127.out (fun _ hk => hk.2))) | (show (Addr.add _ _).block ≠ _; rw [add_block]; exact Kd.own_blk (Kd.R_away HO127.out (fun _ hk => hk.2))) | (dsimp only; exact Kd.own_blk (Kd.R_away HO127.out (fun _ hk => hk.2)))) _).trans (((cell_far (p := ⟨gb129, _, none⟩) (by first | exact Kd.own_blk (Kd.R_away HO127.out (fun _ hk => hk.2)) | (rw [add_block]; exact Kd.own_blk (Kd.R_away HO127.out (fun _ hk => hk.2))) | (show (Addr.add _ _).block ≠ _; rw [add_block]; exact Kd.own_blk (Kd.R_away HO127.out (fun _ hk => hk.2))) | (dsimp only; exact Kd.own_blk (Kd.R_away HO127.out (fun _ hk => hk.2)))) _).trans (((cell_far (p := ⟨gb129, _, none⟩) (by first | exact Kd.own_blk (Kd.R_away HO127.out (fun _ hk => hk.2)) | (rw [add_block]; exact Kd.own_blk (Kd.R_away HO127.out (fun _ hk => hk.2))) | (show (Addr.add _ _).block ≠ _; rw [add_block]; exact Kd.own_blk (Kd.R_away HO127.out (fun _ hk => hk.2))) | (dsimp only; exact Kd.own_blk (Kd.R_away HO127.out (fun _ hk => hk.2)))) _).trans (((cell_far (p := ⟨gb129, _, none⟩) (by first | exact Kd.own_blk (Kd.R_away HO127.out (fun _ hk => hk.2)) | (rw [add_block]; exact Kd.own_blk (Kd.R_away HO127.out (fun _ hk => hk.2))) | (show (Addr.add _ _).block ≠ _; rw [add_block]; exact Kd.own_blk (Kd.R_away HO127.out (fun _ hk => hk.2))) | (dsimp only; exact Kd.own_blk (Kd.R_away HO127.out (fun _ hk => hk.2)))) _).trans (hHeld.2.2.1)))))))), ((cell_far (p := ⟨gb129, _, none⟩) (by first | exact Kd.own_blk (Kd.R_away HO127.out (fun _ hk => hk.2)) | (rw [add_block]; exact Kd.own_blk (Kd.R_away HO127.out (fun _ hk => hk.2))) | (show (Addr.add _ _).block ≠ _; rw [add_block]; exact Kd.own_blk (Kd.R_away HO127.out (fun _ hk => hk.2))) | (dsimp only; exact Kd.own_blk (Kd.R_away HO127.out (fun _ hk => hk.2)))) _).trans (((cell_far (p := ⟨gb129, _, none⟩) (by first | exact Kd.own_blk (Kd.R_away HO127.out (fun _ hk => hk.2)) | (rw [add_block]; exact Kd.own_blk (Kd.R_away HO127.out (fun _ hk => hk.2))) | (show (Addr.add _ _).block ≠ _; rw [add_block]; exact Kd.own_blk (Kd.R_away HO127.out (fun _ hk => hk.2))) | (dsimp only; exact Kd.own_blk (Kd.R_away HO127.out (fun _ hk => hk.2)))) _).trans (((cell_far (p := ⟨gb129, _, none⟩) (by first | exact Kd.own_blk (Kd.R_away HO127.out (fun _ hk => hk.2)) | (rw [add_block]; exact Kd.own_blk (Kd.R_away HO127.out (fun _ hk => hk.2))) | (show (Addr.add _ _).block ≠ _; rw [add_block]; exact Kd.own_blk (Kd.R_away HO127.out (fun _ hk => hk.2))) | (dsimp only; exact Kd.own_blk (Kd.R_away HO127.out (fun _ hk => hk.2)))) _).trans (((cell_far (p := ⟨gb129, _, none⟩) (by first | exact Kd.own_blk (Kd.R_away HO127.out (fun _ hk => hk.2)) | (rw [add_block]; exact Kd.own_blk (Kd.R_away HO127.out (fun _ hk => hk.2))) | (show (Addr.add _ _).block ≠ _; rw [add_block]; exact Kd.own_blk (Kd.R_away HO127.out (fun _ hk => hk.2))) | (dsimp only; exact Kd.own_blk (Kd.R_away HO127.out (fun _ hk => hk.2)))) _).trans (hHeld.2.2.2))))))))⟩ (fun hHeld => ?_)
              clear hK K
              refine pure_ (i := 10) (N := some 7) (v := ?_) (a' := ?_) #[true, true, true, true, true, true, true, true, true, true, true] rfl rfl (any_of HT_.out (by kernel_rfl)) (fun _ _ _ h => h) (Or.inl ⟨by rfl, ?_⟩) ?_ ?_
              rotate_left
              · intro w'
                go_simp
                with_reducible rfl
              rotate_left
              · simp only [Act.put, List.setIfInBounds_toArray, List.set_cons_zero, List.set_cons_succ, i64_w, i32_w]
                rfl
              refine done_ (done_of HT_.out (by kernel_rfl)) ?_
              go_upto_region 5 with (fail)
              go_cut [8] (fun v8 wc => ∃ (kq : Nat) (x8_12 : Bool), v8 = .bool x8_12 ∧ Aside0 (marks_Kind.j1 kq a0 a1 ji12 x8_12 ((rd_T77 t125 (ji7)).f0) ((rd_T77 t125 (ji7)).f1) ((rd_T77 t125 (ji7)).f2) ((rd_T77 t125 (ji7)).f3) = some r) ∧ Aside0 (kq ≤ kj2) ∧ Aside0 (wc.heap[gb129]? = some (.cells #[.int .u64 ((rd_T77 t125 (ji7)).f0), .int .u64 ((rd_T77 t125 (ji7)).f1), .int .u64 ((rd_T77 t125 (ji7)).f2), .int .u64 ((rd_T77 t125 (ji7)).f3)] 77 (0, 0))) ∧ Aside0 (Below w.heap.size w wc))
              case first =>
                have H := HC13.out
                clear HC13
                by_cases c22 : a1 ≥ 64
                · rw [if_pos c22] at H
                  have c22b0 : decide (64 ≤ a1) = true := decide_eq_true c22
                  clear c22
                  (first | rw [c22b0] | (simp only [i64_w, i32_w]; rw [c22b0]) | skip)
                  obtain ⟨ji23, hji23⟩ : ∃ j_ : Int, (wrap64 ((ji7) - 1)) = j_ := ⟨_, rfl⟩
                  replace H : (if 0 ≤ (ji23) then (if (ji23) < (t125.length : Int) then ((marks_rows_ends.f ((rd_T77 t125 (ji23)).f0) ((rd_T77 t125 (ji23)).f1) ((rd_T77 t125 (ji23)).f2) ((rd_T77 t125 (ji23)).f3)).bind fun t131 => (marks_Kind.j1 kj2 a0 a1 ji12 t131 ((rd_T77 t125 (ji7)).f0) ((rd_T77 t125 (ji7)).f1) ((rd_T77 t125 (ji7)).f2) ((rd_T77 t125 (ji7)).f3))) else (none)) else (none)) = some r := by first | (rw [hji23] at H; exact H) | (simp only [hji23] at H ⊢; exact H)
                  have hji23w : (IntKind.i64.wrap ((ji7) - 1)) = ji23 := (i64_w _).trans hji23
                  by_cases c24 : 0 ≤ (ji23)
                  · rw [if_pos c24] at H
                    have c24b0 : decide (0 ≤ (ji23)) = true := decide_eq_true c24
                    clear c24
                    by_cases c25 : (ji23) < (t125.length : Int)
                    · rw [if_pos c25] at H
                      have c25b0 : decide ((ji23) < (t125.length : Int)) = true := decide_eq_true c25
                      clear c25
                      replace H := Option.bind_eq_some_iff.mp H
                      obtain ⟨t131, A260, H⟩ := H
                      replace H : (marks_Kind.j1 kj2 a0 a1 ji12 t131 ((rd_T77 t125 (ji7)).f0) ((rd_T77 t125 (ji7)).f1) ((rd_T77 t125 (ji7)).f2) ((rd_T77 t125 (ji7)).f3)) = some r := H
                      have A26 := Aside0.mk A260
                      clear A260
                      have H' := Aside0.mk H
                      clear H
                      have p130 : 0 ≤ ((ji23) : Int) := of_decide_eq_true (by first | (with_reducible assumption) | assumption)
                      have q130 : (ji23) < (t125.length : Int) := of_decide_eq_true (by first | (with_reducible assumption) | assumption)
                      obtain ⟨ad130, e130, hx130_0, hx130_1, hx130_2, hx130_3⟩ := at_T77 (Kd.R_reads' HO127.out).2.2 (ji23) p130 q130
                      obtain rfl : ad128 = ad130 := (by injection e130)
                      have hn130_0 : ad128.block ≠ gb129 := (by first | exact Kd.own_blk (Kd.R_ne HO127.out BK129.out (by decide)) | exact Kd.own_blk (Kd.R_away HO127.out (fun _ hk => hk.2)))
                      have hn130_1 : ad128.block ≠ gb129 := (by first | exact Kd.own_blk (Kd.R_ne HO127.out BK129.out (by decide)) | exact Kd.own_blk (Kd.R_away HO127.out (fun _ hk => hk.2)))
                      have hn130_2 : ad128.block ≠ gb129 := (by first | exact Kd.own_blk (Kd.R_ne HO127.out BK129.out (by decide)) | exact Kd.own_blk (Kd.R_away HO127.out (fun _ hk => hk.2)))
                      have hn130_3 : ad128.block ≠ gb129 := (by first | exact Kd.own_blk (Kd.R_ne HO127.out BK129.out (by decide)) | exact Kd.own_blk (Kd.R_away HO127.out (fun _ hk => hk.2)))
                      replace hx130_0 := (cell_far (p := ⟨gb129, 0, none⟩) (by first | (rw [add_block]; exact hn130_0) | (show (Addr.add _ _).block ≠ _; rw [add_block]; exact hn130_0) | exact hn130_0) (.int .u64 ((rd_T77 t125 (ji7)).f0))).trans hx130_0
                      replace hx130_1 := (cell_far (p := ⟨gb129, 0, none⟩) (by first | (rw [add_block]; exact hn130_0) | (show (Addr.add _ _).block ≠ _; rw [add_block]; exact hn130_0) | exact hn130_0) (.int .u64 ((rd_T77 t125 (ji7)).f0))).trans hx130_1
                      replace hx130_2 := (cell_far (p := ⟨gb129, 0, none⟩) (by first | (rw [add_block]; exact hn130_0) | (show (Addr.add _ _).block ≠ _; rw [add_block]; exact hn130_0) | exact hn130_0) (.int .u64 ((rd_T77 t125 (ji7)).f0))).trans hx130_2
                      replace hx130_3 := (cell_far (p := ⟨gb129, 0, none⟩) (by first | (rw [add_block]; exact hn130_0) | (show (Addr.add _ _).block ≠ _; rw [add_block]; exact hn130_0) | exact hn130_0) (.int .u64 ((rd_T77 t125 (ji7)).f0))).trans hx130_3
                      replace hx130_0 := (cell_far (p := ⟨gb129, 1, none⟩) (by first | (rw [add_block]; exact hn130_1) | (show (Addr.add _ _).block ≠ _; rw [add_block]; exact hn130_1) | exact hn130_1) (.int .u64 ((rd_T77 t125 (ji7)).f1))).trans hx130_0
                      replace hx130_1 := (cell_far (p := ⟨gb129, 1, none⟩) (by first | (rw [add_block]; exact hn130_1) | (show (Addr.add _ _).block ≠ _; rw [add_block]; exact hn130_1) | exact hn130_1) (.int .u64 ((rd_T77 t125 (ji7)).f1))).trans hx130_1
                      replace hx130_2 := (cell_far (p := ⟨gb129, 1, none⟩) (by first | (rw [add_block]; exact hn130_1) | (show (Addr.add _ _).block ≠ _; rw [add_block]; exact hn130_1) | exact hn130_1) (.int .u64 ((rd_T77 t125 (ji7)).f1))).trans hx130_2
                      replace hx130_3 := (cell_far (p := ⟨gb129, 1, none⟩) (by first | (rw [add_block]; exact hn130_1) | (show (Addr.add _ _).block ≠ _; rw [add_block]; exact hn130_1) | exact hn130_1) (.int .u64 ((rd_T77 t125 (ji7)).f1))).trans hx130_3
                      replace hx130_0 := (cell_far (p := ⟨gb129, 2, none⟩) (by first | (rw [add_block]; exact hn130_2) | (show (Addr.add _ _).block ≠ _; rw [add_block]; exact hn130_2) | exact hn130_2) (.int .u64 ((rd_T77 t125 (ji7)).f2))).trans hx130_0
                      replace hx130_1 := (cell_far (p := ⟨gb129, 2, none⟩) (by first | (rw [add_block]; exact hn130_2) | (show (Addr.add _ _).block ≠ _; rw [add_block]; exact hn130_2) | exact hn130_2) (.int .u64 ((rd_T77 t125 (ji7)).f2))).trans hx130_1
                      replace hx130_2 := (cell_far (p := ⟨gb129, 2, none⟩) (by first | (rw [add_block]; exact hn130_2) | (show (Addr.add _ _).block ≠ _; rw [add_block]; exact hn130_2) | exact hn130_2) (.int .u64 ((rd_T77 t125 (ji7)).f2))).trans hx130_2
                      replace hx130_3 := (cell_far (p := ⟨gb129, 2, none⟩) (by first | (rw [add_block]; exact hn130_2) | (show (Addr.add _ _).block ≠ _; rw [add_block]; exact hn130_2) | exact hn130_2) (.int .u64 ((rd_T77 t125 (ji7)).f2))).trans hx130_3
                      replace hx130_0 := (cell_far (p := ⟨gb129, 3, none⟩) (by first | (rw [add_block]; exact hn130_3) | (show (Addr.add _ _).block ≠ _; rw [add_block]; exact hn130_3) | exact hn130_3) (.int .u64 ((rd_T77 t125 (ji7)).f3))).trans hx130_0
                      replace hx130_1 := (cell_far (p := ⟨gb129, 3, none⟩) (by first | (rw [add_block]; exact hn130_3) | (show (Addr.add _ _).block ≠ _; rw [add_block]; exact hn130_3) | exact hn130_3) (.int .u64 ((rd_T77 t125 (ji7)).f3))).trans hx130_1
                      replace hx130_2 := (cell_far (p := ⟨gb129, 3, none⟩) (by first | (rw [add_block]; exact hn130_3) | (show (Addr.add _ _).block ≠ _; rw [add_block]; exact hn130_3) | exact hn130_3) (.int .u64 ((rd_T77 t125 (ji7)).f3))).trans hx130_2
                      replace hx130_3 := (cell_far (p := ⟨gb129, 3, none⟩) (by first | (rw [add_block]; exact hn130_3) | (show (Addr.add _ _).block ≠ _; rw [add_block]; exact hn130_3) | exact hn130_3) (.int .u64 ((rd_T77 t125 (ji7)).f3))).trans hx130_3
                      clear hn130_0
                      clear hn130_1
                      clear hn130_2
                      clear hn130_3
                      replace p130 := eq_true p130
                      replace q130 := eq_true q130
                      go_wp2_with (first | (go_at_call 59; (with_reducible refine (marks_rows_ends.calls ((rd_T77 t125 (ji23)).f0) ((rd_T77 t125 (ji23)).f1) ((rd_T77 t125 (ji23)).f2) ((rd_T77 t125 (ji23)).f3) t131 _ A26.out).mono ?_); rintro e w27 ⟨rfl, hb⟩; have n0_ := Aside0.mk (Kd.R_below (by (with_reducible repeat (first | apply Kd.R_alloc | apply Kd.R_drewN | apply Kd.R_drew)); exact (Kd.R_mono (Kd.R_far (p := ⟨gb129, 3, none⟩) (Kd.R_far (p := ⟨gb129, 2, none⟩) (Kd.R_far (p := ⟨gb129, 1, none⟩) (Kd.R_far (p := ⟨gb129, 0, none⟩) (Kd.R_mono HO127.out (fun k_ hk => (⟨hk, hk.2⟩ : _ ∧ k_ ≠ gb129))) (fun _ hk => hk.2) (.int .u64 ((rd_T77 t125 (ji7)).f0))) (fun _ hk => hk.2) (.int .u64 ((rd_T77 t125 (ji7)).f1))) (fun _ hk => hk.2) (.int .u64 ((rd_T77 t125 (ji7)).f2))) (fun _ hk => hk.2) (.int .u64 ((rd_T77 t125 (ji7)).f3))) (fun _ h_ => h_.1))) hb); have n1_ := Aside0.mk (blk_below (g := gb129) (o := .cells #[.int .u64 ((rd_T77 t125 (ji7)).f0), .int .u64 ((rd_T77 t125 (ji7)).f1), .int .u64 ((rd_T77 t125 (ji7)).f2), .int .u64 ((rd_T77 t125 (ji7)).f3)] 77 (0, 0)) (by (with_reducible repeat (first | refine blk_drewN ?_ _ | refine blk_drew ?_ | refine blk_alloc ?_ _)); refine blk_put (cs := #[.int .u64 ((rd_T77 t125 (ji7)).f0), .int .u64 ((rd_T77 t125 (ji7)).f1), .int .u64 ((rd_T77 t125 (ji7)).f2), .int .u64 0]) ?_ 3 _ rfl; (with_reducible repeat (first | refine blk_drewN ?_ _ | refine blk_drew ?_ | refine blk_alloc ?_ _)); refine blk_put (cs := #[.int .u64 ((rd_T77 t125 (ji7)).f0), .int .u64 ((rd_T77 t125 (ji7)).f1), .int .u64 0, .int .u64 0]) ?_ 2 _ rfl; (with_reducible repeat (first | refine blk_drewN ?_ _ | refine blk_drew ?_ | refine blk_alloc ?_ _)); refine blk_put (cs := #[.int .u64 ((rd_T77 t125 (ji7)).f0), .int .u64 0, .int .u64 0, .int .u64 0]) ?_ 1 _ rfl; (with_reducible repeat (first | refine blk_drewN ?_ _ | refine blk_drew ?_ | refine blk_alloc ?_ _)); refine blk_put (cs := #[.int .u64 0, .int .u64 0, .int .u64 0, .int .u64 0]) ?_ 0 _ rfl; (with_reducible repeat (first | refine blk_drewN ?_ _ | refine blk_drew ?_ | refine blk_alloc ?_ _)); exact BK129.out) hb); have n2_ := Aside0.mk (below_step (by repeat (first | (with_reducible first | exact HB.out | apply below_alloc | apply pw_below_drewN | apply below_drew1 | refine below_set ?_ GE129.out) | exact HB.out)) hb); clear HO127; clear BK129; clear HB; have HO127 := n0_; have BK129 := n1_; have HB := n2_; clear n0_ n1_ n2_; (try clear hb); (try clear hb2); (try clear hk); (try clear hi)))
                      go_meet
                      case rel => exact ⟨_, (t131), (by first | rfl | (simp; done) | (simp [*]; done)), H', ⟨by have := HJ2.out; first | omega | exact Nat.le_refl _⟩, ⟨by (with_reducible repeat (first | refine blk_drewN ?_ _ | refine blk_drew ?_ | refine blk_alloc ?_ _)); exact BK129.out⟩, ⟨by repeat (first | (with_reducible first | exact HB.out | apply below_alloc | apply pw_below_drewN | apply below_drew1 | refine below_set ?_ GE129.out) | exact HB.out)⟩⟩
                    · rw [if_neg c25] at H
                      exact absurd H (by simp)
                  · rw [if_neg c24] at H
                    exact absurd H (by simp)
                · rw [if_neg c22] at H
                  have c22b0 : decide (64 ≤ a1) = false := decide_eq_false c22
                  clear c22
                  (first | rw [c22b0] | (simp only [i64_w, i32_w]; rw [c22b0]) | skip)
                  have H' := Aside0.mk H
                  clear H
                  go_wp2
                  go_meet
                  case rel => exact ⟨_, (false), (by first | rfl | (simp; done) | (simp [*]; done)), H', ⟨by have := HJ2.out; first | omega | exact Nat.le_refl _⟩, ⟨by (with_reducible repeat (first | refine blk_drewN ?_ _ | refine blk_drew ?_ | refine blk_alloc ?_ _)); refine blk_put (cs := #[.int .u64 ((rd_T77 t125 (ji7)).f0), .int .u64 ((rd_T77 t125 (ji7)).f1), .int .u64 ((rd_T77 t125 (ji7)).f2), .int .u64 0]) ?_ 3 _ rfl; (with_reducible repeat (first | refine blk_drewN ?_ _ | refine blk_drew ?_ | refine blk_alloc ?_ _)); refine blk_put (cs := #[.int .u64 ((rd_T77 t125 (ji7)).f0), .int .u64 ((rd_T77 t125 (ji7)).f1), .int .u64 0, .int .u64 0]) ?_ 2 _ rfl; (with_reducible repeat (first | refine blk_drewN ?_ _ | refine blk_drew ?_ | refine blk_alloc ?_ _)); refine blk_put (cs := #[.int .u64 ((rd_T77 t125 (ji7)).f0), .int .u64 0, .int .u64 0, .int .u64 0]) ?_ 1 _ rfl; (with_reducible repeat (first | refine blk_drewN ?_ _ | refine blk_drew ?_ | refine blk_alloc ?_ _)); refine blk_put (cs := #[.int .u64 0, .int .u64 0, .int .u64 0, .int .u64 0]) ?_ 0 _ rfl; (with_reducible repeat (first | refine blk_drewN ?_ _ | refine blk_drew ?_ | refine blk_alloc ?_ _)); exact BK129.out⟩, ⟨by repeat (first | (with_reducible first | exact HB.out | apply below_alloc | apply pw_below_drewN | apply below_drew1 | refine below_set ?_ GE129.out) | exact HB.out)⟩⟩
              case rest =>
                clear HC13
                try clear c1
                try clear p1
                try clear q1
                try clear hx1
                try clear c2
                try clear p2
                try clear c4
                try clear c4b0
                try clear c5
                try clear p6
                try clear c8
                try clear c8b0
                try clear c9
                try clear c9b0
                try clear c11
                try clear c11b0
                try clear c11b1
                try clear p12
                try clear q12
                try clear hx12
                try clear p13
                try clear q13
                try clear hx13
                try clear c22
                try clear c22b0
                try clear c24
                try clear c24b0
                try clear c25
                try clear c25b0
                try clear hx128_0
                try clear hx128_1
                try clear hx128_2
                try clear hx128_3
                try clear hx130_0
                try clear hx130_1
                try clear hx130_2
                try clear hx130_3
                try clear p128
                try clear p130
                try clear p2
                try clear q128
                try clear q130
                obtain ⟨kq, x8_12, rfl, HA, HJ12, BK129, HB⟩ := hcut
                cases kq with
                | zero => exact absurd HA.out (by simp [marks_Kind.j1])
                | succ kj12 =>
                  have H := HA.out
                  clear HA
                  simp only [marks_Kind.j1] at H
                  by_cases c28 : (Go.bits .and .u64 (Go.bits .or .u64 ((rd_T77 t125 (ji7)).f0) ((rd_T77 t125 (ji7)).f2)) ji12) = 0
                  · rw [if_pos c28] at H
                    have c28b0 : ((Go.bits .and .u64 (Go.bits .or .u64 ((rd_T77 t125 (ji7)).f0) ((rd_T77 t125 (ji7)).f2)) ji12) == 0) = true := beq_iff_eq.mpr c28
                    have c28b1 : ((Go.bits .and .u64 (Go.bits .or .u64 ((rd_T77 t125 (ji7)).f0) ((rd_T77 t125 (ji7)).f2)) ji12) != 0) = false := bne_eq_false_iff_eq.mpr c28
                    clear c28
                    replace H := Option.bind_eq_some_iff.mp H
                    obtain ⟨t132, A290, H⟩ := H
                    replace H : (if (Go.bits .and .u64 t132 ji12) = 0 then (some 0) else (some 119)) = some r := H
                    have A29 := Aside0.mk A290
                    clear A290
                    by_cases c30 : (Go.bits .and .u64 t132 ji12) = 0
                    · rw [if_pos c30] at H
                      have c30b0 : ((Go.bits .and .u64 t132 ji12) == 0) = true := beq_iff_eq.mpr c30
                      have c30b1 : ((Go.bits .and .u64 t132 ji12) != 0) = false := bne_eq_false_iff_eq.mpr c30
                      clear c30
                      obtain rfl := Option.some.inj H
                      have hcz31_0 : wc.cell? ⟨gb129, 0, none⟩ = some (.int .u64 ((rd_T77 t125 (ji7)).f0)) := (blk_cell BK129.out 0).trans rfl
                      have hcz31_1 : wc.cell? ⟨gb129, 1, none⟩ = some (.int .u64 ((rd_T77 t125 (ji7)).f1)) := (blk_cell BK129.out 1).trans rfl
                      have hcz31_2 : wc.cell? ⟨gb129, 2, none⟩ = some (.int .u64 ((rd_T77 t125 (ji7)).f2)) := (blk_cell BK129.out 2).trans rfl
                      have hcz31_3 : wc.cell? ⟨gb129, 3, none⟩ = some (.int .u64 ((rd_T77 t125 (ji7)).f3)) := (blk_cell BK129.out 3).trans rfl
                      have hfz31_0 := blk_frozen BK129.out 0
                      have hfz31_1 := blk_frozen BK129.out 1
                      have hfz31_2 := blk_frozen BK129.out 2
                      have hfz31_3 := blk_frozen BK129.out 3
                      go_wp2_with (first | ((with_reducible refine gate_callee (f := 60) rfl ?_); refine goesL_ (some 53) rfl rfl Tryd.func60 (by kernel_rfl) rfl #[.agg #[.int .u64 ((rd_T77 t125 (ji7)).f0), .int .u64 ((rd_T77 t125 (ji7)).f1), .int .u64 ((rd_T77 t125 (ji7)).f2), .int .u64 ((rd_T77 t125 (ji7)).f3)], .bool x8_12] rfl (by (try simp only [List.map_toArray, List.map_cons, List.map_nil]); first | done | (simp only [hji7]; rfl) | rfl | (simp only [List.length_drop, List.length_take]; rfl)) ?_; (with_reducible refine (marks_rows_starts.calls ((rd_T77 t125 (ji7)).f0) ((rd_T77 t125 (ji7)).f1) ((rd_T77 t125 (ji7)).f2) ((rd_T77 t125 (ji7)).f3) x8_12 t132 _ A29.out).mono ?_); rintro e w32 ⟨rfl, hb⟩; refine ⟨_, rfl, ?_⟩; have n0_ := Aside0.mk (blk_below (g := gb129) (o := .cells #[.int .u64 ((rd_T77 t125 (ji7)).f0), .int .u64 ((rd_T77 t125 (ji7)).f1), .int .u64 ((rd_T77 t125 (ji7)).f2), .int .u64 ((rd_T77 t125 (ji7)).f3)] 77 (0, 0)) (by (with_reducible repeat (first | refine blk_drewN ?_ _ | refine blk_drew ?_ | refine blk_alloc ?_ _)); exact BK129.out) hb); have n1_ := Aside0.mk (below_step (by repeat (first | (with_reducible first | exact HB.out | apply below_alloc | apply pw_below_drewN | apply below_drew1 | refine below_set ?_ GE129.out) | exact HB.out)) hb); clear BK129; clear HB; have BK129 := n0_; have HB := n1_; clear n0_ n1_; (try clear hb); (try clear hb2); (try clear hk); (try clear hi)))
                      go_ret
                      exact ⟨by first | rfl | (simp [errW_none, errW_some] <;> rfl) | (simp only [← hji7, ← hji10, ← hji12]; first | rfl | (simp [errW_none, errW_some] <;> rfl)) | (simp [*, errW_none, errW_some] <;> rfl), by repeat (first | (with_reducible first | exact HB.out | apply below_alloc | apply pw_below_drewN | apply below_drew1 | refine below_set ?_ GE129.out) | exact HB.out)⟩
                    · rw [if_neg c30] at H
                      have c30b0 : ((Go.bits .and .u64 t132 ji12) == 0) = false := beq_eq_false_iff_ne.mpr c30
                      have c30b1 : ((Go.bits .and .u64 t132 ji12) != 0) = true := bne_iff_ne.mpr c30
                      obtain rfl := Option.some.inj H
                      have hcz33_0 : wc.cell? ⟨gb129, 0, none⟩ = some (.int .u64 ((rd_T77 t125 (ji7)).f0)) := (blk_cell BK129.out 0).trans rfl
                      have hcz33_1 : wc.cell? ⟨gb129, 1, none⟩ = some (.int .u64 ((rd_T77 t125 (ji7)).f1)) := (blk_cell BK129.out 1).trans rfl
                      have hcz33_2 : wc.cell? ⟨gb129, 2, none⟩ = some (.int .u64 ((rd_T77 t125 (ji7)).f2)) := (blk_cell BK129.out 2).trans rfl
                      have hcz33_3 : wc.cell? ⟨gb129, 3, none⟩ = some (.int .u64 ((rd_T77 t125 (ji7)).f3)) := (blk_cell BK129.out 3).trans rfl
                      have hfz33_0 := blk_frozen BK129.out 0
                      have hfz33_1 := blk_frozen BK129.out 1
                      have hfz33_2 := blk_frozen BK129.out 2
                      have hfz33_3 := blk_frozen BK129.out 3
                      go_wp2_with (first | ((with_reducible refine gate_callee (f := 60) rfl ?_); refine goesL_ (some 53) rfl rfl Tryd.func60 (by kernel_rfl) rfl #[.agg #[.int .u64 ((rd_T77 t125 (ji7)).f0), .int .u64 ((rd_T77 t125 (ji7)).f1), .int .u64 ((rd_T77 t125 (ji7)).f2), .int .u64 ((rd_T77 t125 (ji7)).f3)], .bool x8_12] rfl (by (try simp only [List.map_toArray, List.map_cons, List.map_nil]); first | done | (simp only [hji7]; rfl) | rfl | (simp only [List.length_drop, List.length_take]; rfl)) ?_; (with_reducible refine (marks_rows_starts.calls ((rd_T77 t125 (ji7)).f0) ((rd_T77 t125 (ji7)).f1) ((rd_T77 t125 (ji7)).f2) ((rd_T77 t125 (ji7)).f3) x8_12 t132 _ A29.out).mono ?_); rintro e w34 ⟨rfl, hb⟩; refine ⟨_, rfl, ?_⟩; have n0_ := Aside0.mk (blk_below (g := gb129) (o := .cells #[.int .u64 ((rd_T77 t125 (ji7)).f0), .int .u64 ((rd_T77 t125 (ji7)).f1), .int .u64 ((rd_T77 t125 (ji7)).f2), .int .u64 ((rd_T77 t125 (ji7)).f3)] 77 (0, 0)) (by (with_reducible repeat (first | refine blk_drewN ?_ _ | refine blk_drew ?_ | refine blk_alloc ?_ _)); exact BK129.out) hb); have n1_ := Aside0.mk (below_step (by repeat (first | (with_reducible first | exact HB.out | apply below_alloc | apply pw_below_drewN | apply below_drew1 | refine below_set ?_ GE129.out) | exact HB.out)) hb); clear BK129; clear HB; have BK129 := n0_; have HB := n1_; clear n0_ n1_; (try clear hb); (try clear hb2); (try clear hk); (try clear hi)))
                      go_ret
                      exact ⟨by first | rfl | (simp [errW_none, errW_some] <;> rfl) | (simp only [← hji7, ← hji10, ← hji12]; first | rfl | (simp [errW_none, errW_some] <;> rfl)) | (simp [*, errW_none, errW_some] <;> rfl), by repeat (first | (with_reducible first | exact HB.out | apply below_alloc | apply pw_below_drewN | apply below_drew1 | refine below_set ?_ GE129.out) | exact HB.out)⟩
                  · rw [if_neg c28] at H
                    have c28b0 : ((Go.bits .and .u64 (Go.bits .or .u64 ((rd_T77 t125 (ji7)).f0) ((rd_T77 t125 (ji7)).f2)) ji12) == 0) = false := beq_eq_false_iff_ne.mpr c28
                    have c28b1 : ((Go.bits .and .u64 (Go.bits .or .u64 ((rd_T77 t125 (ji7)).f0) ((rd_T77 t125 (ji7)).f2)) ji12) != 0) = true := bne_iff_ne.mpr c28
                    by_cases c35 : 0 ≤ a1
                    · rw [if_pos c35] at H
                      have c35b0 : decide (0 ≤ a1) = true := decide_eq_true c35
                      clear c35
                      by_cases c36 : a1 < (a0.size : Int)
                      · rw [if_pos c36] at H
                        have c36b0 : decide (a1 < (a0.size : Int)) = true := decide_eq_true c36
                        clear c36
                        obtain rfl := Option.some.inj H
                        have hcz38_0 : wc.cell? ⟨gb129, 0, none⟩ = some (.int .u64 ((rd_T77 t125 (ji7)).f0)) := (blk_cell BK129.out 0).trans rfl
                        have hcz38_1 : wc.cell? ⟨gb129, 1, none⟩ = some (.int .u64 ((rd_T77 t125 (ji7)).f1)) := (blk_cell BK129.out 1).trans rfl
                        have hcz38_2 : wc.cell? ⟨gb129, 2, none⟩ = some (.int .u64 ((rd_T77 t125 (ji7)).f2)) := (blk_cell BK129.out 2).trans rfl
                        have hcz38_3 : wc.cell? ⟨gb129, 3, none⟩ = some (.int .u64 ((rd_T77 t125 (ji7)).f3)) := (blk_cell BK129.out 3).trans rfl
                        have hfz38_0 := blk_frozen BK129.out 0
                        have hfz38_1 := blk_frozen BK129.out 1
                        have hfz38_2 := blk_frozen BK129.out 2
                        have hfz38_3 := blk_frozen BK129.out 3
                        have p37 : 0 ≤ (a1 : Int) := of_decide_eq_true (by first | (with_reducible assumption) | assumption)
                        have q37 : a1 < (a0.size : Int) := of_decide_eq_true (by first | (with_reducible assumption) | assumption)
                        have hx37 := bt_at a0 a1
                        replace p37 := eq_true p37
                        replace q37 := eq_true q37
                        go_wp2
                        go_ret
                        exact ⟨by first | rfl | (simp [errW_none, errW_some] <;> rfl) | (simp only [← hji7, ← hji10, ← hji12]; first | rfl | (simp [errW_none, errW_some] <;> rfl)) | (simp [*, errW_none, errW_some] <;> rfl), by repeat (first | (with_reducible first | exact HB.out | apply below_alloc | apply pw_below_drewN | apply below_drew1 | refine below_set ?_ GE129.out) | exact HB.out)⟩
                      · rw [if_neg c36] at H
                        exact absurd H (by simp)
                    · rw [if_neg c35] at H
                      exact absurd H (by simp)
            · rw [if_neg c11] at H
              exact absurd H (by simp)
          · rw [if_neg c9] at H
            exact absurd H (by simp)
        · rw [if_neg c8] at H
          exact absurd H (by simp)

section
open Go.Proofs.YtgddljealeklkaaDoorQ Go.Proofs.YtgddljealeklkaaDoorM
/-- The four variables that Close hands in. -/
structure ClI (s : ByteArray) (a want found : Int) (ga gw gs gf : Nat) (W : World) : Prop where mk ::
  ba : Blk W ga #[.int .i64 a] 3
  bw : Blk W gw #[.int .i64 want] 3
  bs : Blk W gs #[.string s] 9
  bf : Blk W gf #[.int .i64 found] 3
  wf : gw ≠ gf
  aw : ga ≠ gw
  af : ga ≠ gf
theorem ClI.below {s : ByteArray} {a want found : Int} {ga gw gs gf : Nat} {W W' : World} (h : ClI s a want found ga gw gs gf W) (hb : Below W.heap.size W W') : ClI s a want found ga gw gs gf W' :=
  ⟨h.ba.below hb, h.bw.below hb, h.bs.below hb, h.bf.below hb, h.wf, h.aw, h.af⟩
theorem turned_set {X : List Nat} (W : World) {g : Nat} (hg : g ∈ X) (v : Value) : Turned X W (W.setCell ⟨g, 0, none⟩ v) :=
  ⟨rfl, rfl, rfl, by simp, fun k hk hn => Below.heap_setCell W ⟨g, 0, none⟩ v k (fun e => hn (by rw [show k = g from e]; exact hg))⟩
theorem beqT {a b : Int} (h : a = b) : (a == b) = true := by rw [beq_iff_eq]; exact h
theorem beqF {a b : Int} (h : a ≠ b) : (a == b) = false := by rw [beq_eq_false_iff_ne]; exact h
def CloseTold (s : ByteArray) (p d : Nat) (a want : Int) (ga gw gs gf : Nat) (w : World) (e : Ending) (w' : World) : Prop :=
      ∃ b : Bool, e = .returned (.bool b) ∧ Turned [gw, gf] w w' ∧ (b = true → ¬ (a < (p : Int) ∧ (d : Int) = want ∧ closesB (bt s (p : Int)) = true ∧ (p : Int) ≠ a) ∧ ClI s a (if (p : Int) = a then (d : Int) + 1 else want) (-1) ga gw gs gf w') ∧
        (b = false → (a < (p : Int) ∧ (d : Int) = want ∧ closesB (bt s (p : Int)) = true ∧ (p : Int) ≠ a) ∧ ClI s a want (p : Int) ga gw gs gf w')
set_option maxHeartbeats 4000000 in
theorem levels_Close_1.calls (s : ByteArray) (p : Nat) (hp : p < s.size) (hs : s.size ≤ 1048576) (d : Nat) (hd : d ≤ 1048576) (a want : Int) (ga gw gs gf : Nat) (w : World) (I : ClI s a want (-1) ga gw gs gf w) :
    Calls Tryd.prog 75 #[.int .i64 (p : Int), .int .i64 (d : Int), .pointer (some ⟨ga, 0, none⟩), .pointer (some ⟨gw, 0, none⟩), .pointer (some ⟨gs, 0, none⟩), .pointer (some ⟨gf, 0, none⟩)] w (CloseTold s p d a want ga gw gs gf w) := by
  have ca : w.cell? ⟨ga, 0, none⟩ = some (.int .i64 a) := I.ba.cell (i := 0) rfl
  have cw : w.cell? ⟨gw, 0, none⟩ = some (.int .i64 want) := I.bw.cell (i := 0) rfl
  have cs : w.cell? ⟨gs, 0, none⟩ = some (.string s) := I.bs.cell (i := 0) rfl
  have cf : w.cell? ⟨gf, 0, none⟩ = some (.int .i64 (-1)) := I.bf.cell (i := 0) rfl
  have fw := I.bw.frozen 0
  have ff := I.bf.frozen 0
  have HI := Aside0.mk I
  have HSZ := Aside0.mk hs
  have hp0 : (0 : Int) ≤ (p : Int) := by omega
  have hp1 : (p : Int) < (s.size : Int) := by omega
  have hpB : (p : Int) ≤ 17179869184 := by omega
  have hdB : (d : Int) ≤ 17179869184 := by omega
  have hd0 : (0 : Int) ≤ (d : Int) := by omega
  have hq1 : wrap64 ((d : Int) + 1) = (d : Int) + 1 := wrap_succ hdB hd0
  obtain ⟨c, hc⟩ : ∃ c, c = bt s (p : Int) := ⟨_, rfl⟩
  have hbyte : ∀ h : p < s.size, ((s[p]'h).toNat : Int) = c := fun h => by
    rw [hc]
    unfold bt
    rw [Int.toNat_natCast, dif_pos h]
  have HC := Aside0.mk hc
  clear hc I hs hd hdB hd0
  by_cases h1 : (p : Int) = a
  · have t1 : ((p : Int) == a) = true := beqT h1
    have e1 : ∀ v : Value, (w.setCell ⟨gw, 0, none⟩ v).cell? ⟨gf, 0, none⟩ = some (.int .i64 (-1)) := fun v => (HI.out.bf.far (Ne.symm HI.out.wf) 0 v).cell rfl
    have H1 := Aside0.mk h1
    clear h1
    go_enter Tryd.func75, Tryd.ntmps75
    go_wp2
    go_ret
    refine ⟨true, rfl, turned_set w (by simp) _, fun _ => ⟨fun h => h.2.2.2 H1.out, ?_⟩, fun h => by cases h⟩
    rw [if_pos H1.out]
    have J := HI.out
    exact ⟨J.ba.far J.aw 0 _, J.bw.set 0 _, J.bs.far (J.bs.ne J.bw (by decide)) 0 _, J.bf.far (Ne.symm J.wf) 0 _, J.wf, J.aw, J.af⟩
  · have t1 : ((p : Int) == a) = false := beqF h1
    have H1 := Aside0.mk h1
    clear h1
    by_cases h2 : a < (p : Int)
    · by_cases h3 : (d : Int) = want
      · have t3 : ((d : Int) == want) = true := beqT h3
        have H2 := Aside0.mk (And.intro h2 h3)
        have e1 : ∀ v : Value, (w.setCell ⟨gf, 0, none⟩ v).cell? ⟨gf, 0, none⟩ = some v := fun v => (HI.out.bf.set 0 v).cell rfl
        have t2 : decide (a < (p : Int)) = true := decide_eq_true h2
        have t6 : decide ((p : Int) < 0) = false := decide_eq_false (by omega)
        clear h2 h3
        by_cases h4 : c = 125
        · subst h4
          go_enter Tryd.func75, Tryd.ntmps75
          go_wp2
          go_ret
          refine ⟨false, rfl, turned_set w (by simp) _, fun h => (by cases h), fun _ => ⟨⟨H2.out.1, H2.out.2, by rw [← HC.out]; decide, H1.out⟩, ?_⟩⟩
          have J := HI.out
          exact ⟨J.ba.far J.af 0 _, J.bw.far J.wf 0 _, J.bs.far (J.bs.ne J.bf (by decide)) 0 _, J.bf.set 0 _, J.wf, J.aw, J.af⟩
        · have t4 : (c == 125) = false := beqF h4
          clear h4
          by_cases h5 : c = 93
          · subst h5
            go_enter Tryd.func75, Tryd.ntmps75
            go_wp2
            go_ret
            refine ⟨false, rfl, turned_set w (by simp) _, fun h => (by cases h), fun _ => ⟨⟨H2.out.1, H2.out.2, by rw [← HC.out]; decide, H1.out⟩, ?_⟩⟩
            have J := HI.out
            exact ⟨J.ba.far J.af 0 _, J.bw.far J.wf 0 _, J.bs.far (J.bs.ne J.bf (by decide)) 0 _, J.bf.set 0 _, J.wf, J.aw, J.af⟩
          · have t5 : (c == 93) = false := beqF h5
            clear h5
            go_enter Tryd.func75, Tryd.ntmps75
            go_wp2
            go_ret
            refine ⟨true, rfl, Turned.of_below (Below.refl _ _), fun _ => ⟨fun h => ?_, ?_⟩, fun h => by cases h⟩
            · have h6 := h.2.2.1
              rw [← HC.out] at h6
              unfold closesB at h6
              rw [t4, t5] at h6
              cases h6
            · rw [if_neg H1.out]
              exact HI.out
      · have t3 : ((d : Int) == want) = false := beqF h3
        have H3 := Aside0.mk h3
        have t2 : decide (a < (p : Int)) = true := decide_eq_true h2
        clear h2 h3
        go_enter Tryd.func75, Tryd.ntmps75
        go_wp2
        go_ret
        refine ⟨true, rfl, Turned.of_below (Below.refl _ _), fun _ => ⟨fun h => H3.out h.2.1, ?_⟩, fun h => by cases h⟩
        rw [if_neg H1.out]
        exact HI.out
    · have t2 : decide (a < (p : Int)) = false := decide_eq_false h2
      have H2 := Aside0.mk h2
      clear h2
      go_enter Tryd.func75, Tryd.ntmps75
      go_wp2
      go_ret
      refine ⟨true, rfl, Turned.of_below (Below.refl _ _), fun _ => ⟨fun h => by have h7 := H2.out; have h8 := h.1; omega, ?_⟩, fun h => by cases h⟩
      rw [if_neg H1.out]
      exact HI.out
end


section
open Go.Proofs.YtgddljealeklkaaDoorQ Go.Proofs.YtgddljealeklkaaDoorM
def levels_Close.g (a0 : ByteArray) (a1 t : Int) : Option Int := if t = 123 ∨ t = 91 then (if a0.size ≤ 1048576 then some (closeR a0 a1 (placesL a0) (-1)) else none) else some (-1)
def levels_Close.f (k : Nat) (a0 : ByteArray) (a1 : Int) : Option Int := (marks_Kind.f k a0 a1).bind fun t => levels_Close.g a0 a1 t
theorem levels_Close.mono : ∀ a0 a1 k, LeO (levels_Close.f k a0 a1) (levels_Close.f (k + 1) a0 a1) := by
  intro a0 a1 k
  exact LeO.bind (marks_Kind.mono _ _ _) (fun _ => LeO.refl _)
set_option maxHeartbeats 4000000 in
theorem levels_Close.calls (k : Nat) (a0 : ByteArray) (a1 r : Int) (w : World) (hT : TabOk w) (h : levels_Close.f k a0 a1 = some r) :
    Calls Tryd.prog 39 #[.string a0, .int .i64 a1] w fun e w' => e = .returned (.int .i64 r) ∧ Below w.heap.size w w' := by
  unfold levels_Close.f at h
  obtain ⟨t, ht, h⟩ := Option.bind_eq_some_iff.1 h
  have HB := BelowH.refl w
  have HT := Aside0.mk hT
  have HK := Aside0.mk ht
  clear hT ht
  by_cases hk : t = 123 ∨ t = 91
  · unfold levels_Close.g at h
    rw [if_pos hk] at h
    by_cases hs : a0.size ≤ 1048576
    case neg => rw [if_neg hs] at h; cases h
    rw [if_pos hs] at h
    injection h with hr
    have HR := Aside0.mk hr
    have HS := Aside0.mk hs
    have WK : Aside0 (∀ (ga gw gs gf : Nat) (W : World), TabOk W → w.heap.size ≤ gw → w.heap.size ≤ gf → BelowH w W → ClI a0 a1 (-1) (-1) ga gw gs gf W →
        Calls Tryd.prog 64 #[.string a0, .func (.func 75) #[] #[.pointer (some ⟨ga, 0, none⟩), .pointer (some ⟨gw, 0, none⟩), .pointer (some ⟨gs, 0, none⟩), .pointer (some ⟨gf, 0, none⟩)]] W fun e w' => (∃ d : Int, e = .returned (.int .i64 d)) ∧ Blk w' gf #[.int .i64 r] 3 ∧ BelowH w w') := ⟨fun ga gw gs gf W hTW hgw hgf hBW I => by
      have := levels_walk.walk a0 HS.out W hTW 75 #[.pointer (some ⟨ga, 0, none⟩), .pointer (some ⟨gw, 0, none⟩), .pointer (some ⟨gs, 0, none⟩), .pointer (some ⟨gf, 0, none⟩)] [gw, gf]
        (fun i W' => ∃ want, ClI a0 a1 want (-1) ga gw gs gf W' ∧ closeR a0 a1 ((placesL a0).drop i) want = r)
        (fun i p W' => ∃ want, ClI a0 a1 want (p : Int) ga gw gs gf W' ∧ (p : Int) = r)
        (enters_of Tryd.func75 (by kernel_rfl) rfl) (fun k hk => by
          simp only [List.mem_cons, List.not_mem_nil, or_false] at hk
          rcases hk with rfl | rfl
          · exact I.bw.lt
          · exact I.bf.lt) (fun W1 W2 ⟨want, h1, h2⟩ hb => ⟨want, h1.below hb, h2⟩)
        (fun i p W1 hp hB ⟨want, h1, h2⟩ => by
          obtain ⟨hps, hbg, _⟩ := place_at hp
          have hdl := dep_le a0 p
          have hlt := (List.getElem?_eq_some_iff.1 hp).1
          have hdrop : (placesL a0).drop i = p :: (placesL a0).drop (i + 1) := by
            rw [List.drop_eq_getElem_cons hlt]
            congr 1
            exact (List.getElem?_eq_some_iff.1 hp).2
          rw [hdrop, closeR] at h2
          refine (levels_Close_1.calls a0 p hps HS.out (dep a0 p) (by have := HS.out; omega) a1 want ga gw gs gf W1 h1).mono ?_
          rintro e W2 ⟨b, he, hturn, hbt, hbf⟩
          refine ⟨b, he, hturn, fun hb => ⟨_, (hbt hb).2, ?_⟩, fun hb => ⟨want, (hbf hb).2, ?_⟩⟩
          · have hn := (hbt hb).1
            by_cases c : (p : Int) = a1
            · rw [if_pos c] at h2 ⊢
              exact h2
            · rw [if_neg c] at h2 ⊢
              rw [if_neg (fun hc => hn ⟨hc.1, hc.2.1, hc.2.2, c⟩)] at h2
              exact h2
          · have hy := (hbf hb).1
            rw [if_neg hy.2.2.2, if_pos ⟨hy.1, hy.2.1, hy.2.2.1⟩] at h2
            exact h2)
        ⟨-1, I, HR.out⟩
      refine this.mono fun e w' ⟨d, he, ht, hh⟩ => ⟨⟨_, he⟩, ?_, ⟨ht.below (fun k hk => by
        simp only [List.mem_cons, List.not_mem_nil, or_false] at hk
        rcases hk with rfl | rfl
        · exact hgw
        · exact hgf) hBW.le hBW.out⟩⟩
      rcases hh with ⟨_, want, h1, h2⟩ | ⟨i, p, _, _, want, h1, h2⟩
      · rw [List.drop_length, closeR] at h2
        rw [← h2]
        exact h1.bf
      · rw [← h2]
        exact h1.bf⟩
    clear hr hs HR h
    rcases hk with rfl | rfl
    all_goals
      go_enter Tryd.func39, Tryd.ntmps39
      go_wp2_with (first
        | ((with_reducible refine gate_dst (N := 2) rfl ?_); refine ev_alloc HB rfl (#[.string a0]) 9 ?hr ?_; (case hr => first | (go_simp; done) | (go_simp; rfl)); intro g2 w2 G_g2 GE_g2 B_g2 HBn K_g2; clear HB; have HB := HBn; clear HBn)
        | (((with_reducible refine gate_dst (N := 3) rfl ?_); refine ev_alloc HB rfl (#[.int .i64 a1]) 3 ?hr ?_; (case hr => first | (go_simp; done) | (go_simp; rfl)); intro g3 w3 G_g3 GE_g3 B_g3 HBn K_g3; clear HB; have HB := HBn; clear HBn); have c2 : w3.cell? ⟨g2, 0, none⟩ = some (.string a0) := (B_g2.below K_g3.out).cell (i := 0) rfl; have c3 : w3.cell? ⟨g3, 0, none⟩ = some (.int .i64 a1) := B_g3.cell (i := 0) rfl)
        | (go_at_call 22; refine (marks_Kind.calls k a0 a1 _ _ HK.out).mono ?_; rintro e w4 ⟨rfl, hb4⟩; have HBn := HB.step hb4; clear HB; have HB := HBn; clear HBn; have D2 := (B_g2.below K_g3.out).below hb4; have D3 := B_g3.below hb4; clear hb4 c2 c3)
        | ((with_reducible refine gate_dst (N := 6) rfl ?_); refine ev_alloc HB rfl (#[.int .i64 0]) 3 ?hr ?_; (case hr => first | (go_simp; done) | (go_simp; rfl)); intro g6 w6 G_g6 GE_g6 B_g6 HBn K_g6; clear HB; have HB := HBn; clear HBn)
        | ((with_reducible refine gate_dst (N := 7) rfl ?_); refine ev_alloc HB rfl (#[.int .i64 0]) 3 ?hr ?_; (case hr => first | (go_simp; done) | (go_simp; rfl)); intro g7 w7 G_g7 GE_g7 B_g7 HBn K_g7; clear HB; have HB := HBn; clear HBn)
        | ((with_reducible refine gate_ (Op.store 3 (.tmp 6) (.const (.int .i64 (-1)))) rfl ?_); refine ev_store1 (i := 0) HB (B_g6.below K_g7.out) GE_g6 rfl 3 _ _ rfl rfl (.int .i64 (-1)) rfl (by simp) (by kernel_rfl) rfl ?_; intro w8 B8 HBn K_w8; clear HB; have HB := HBn; clear HBn)
        | ((with_reducible refine gate_ (Op.store 3 (.tmp 7) (.const (.int .i64 (-1)))) rfl ?_); refine ev_store1 (i := 0) HB (B_g7.other K_w8 (by have h1 := B_g6.lt; have h2 := G_g7.out; omega)) GE_g7 rfl 3 _ _ rfl rfl (.int .i64 (-1)) rfl (by simp) (by kernel_rfl) rfl ?_; intro w9 B9 HBn K_w9; clear HB; have HB := HBn; clear HBn;
            have n67 : g6 ≠ g7 := (by have h1 := B_g6.lt; have h2 := G_g7.out; omega); have n26 : g2 ≠ g6 := (by have h1 := D2.lt; have h2 := G_g6.out; omega); have n36 : g3 ≠ g6 := (by have h1 := D3.lt; have h2 := G_g6.out; omega);
            have n27 : g2 ≠ g7 := (by have h1 := (D2.below K_g6.out).lt; have h2 := G_g7.out; omega); have n37 : g3 ≠ g7 := (by have h1 := (D3.below K_g6.out).lt; have h2 := G_g7.out; omega);
            have D29 := (((D2.below K_g6.out).below K_g7.out).other K_w8 n26).other K_w9 n27; have D39 := (((D3.below K_g6.out).below K_g7.out).other K_w8 n36).other K_w9 n37; have D69 := B8.other K_w9 n67;
            have I9 : Aside0 (ClI a0 a1 (-1) (-1) g3 g6 g2 g7 w9) := ⟨⟨D39, D69, D29, by simpa using B9, n67, n36, n37⟩⟩; have c2 : w9.cell? ⟨g2, 0, none⟩ = some (.string a0) := D29.cell (i := 0) rfl; clear n67 n26 n36 n27 n37)
        | (go_at_call 64; refine (WK.out g3 g6 g2 g7 w9 (HT.out.stepH HB) GE_g6.out GE_g7.out HB I9.out).mono ?_; rintro e w10 ⟨⟨d, rfl⟩, B10, HB10⟩; have c7 : w10.cell? ⟨g7, 0, none⟩ = some (.int .i64 r) := B10.cell (i := 0) rfl))
      go_ret
      exact ⟨rfl, HB10.out⟩
  · unfold levels_Close.g at h
    rw [if_neg hk] at h
    injection h with h
    subst h
    have t1 : (t != 123) = true := by rw [bne_iff_ne]; exact fun c => hk (.inl c)
    have t2 : (t != 91) = true := by rw [bne_iff_ne]; exact fun c => hk (.inr c)
    clear hk
    go_enter Tryd.func39, Tryd.ntmps39
    go_wp2_with (first
      | ((with_reducible refine gate_dst (N := 2) rfl ?_); refine ev_alloc HB rfl (#[.string a0]) 9 ?hr ?_; (case hr => first | (go_simp; done) | (go_simp; rfl)); intro g2 w2 G_g2 GE_g2 B_g2 HBn K_g2; clear HB; have HB := HBn; clear HBn)
      | (((with_reducible refine gate_dst (N := 3) rfl ?_); refine ev_alloc HB rfl (#[.int .i64 a1]) 3 ?hr ?_; (case hr => first | (go_simp; done) | (go_simp; rfl)); intro g3 w3 G_g3 GE_g3 B_g3 HBn K_g3; clear HB; have HB := HBn; clear HBn); have c2 : w3.cell? ⟨g2, 0, none⟩ = some (.string a0) := (B_g2.below K_g3.out).cell (i := 0) rfl; have c3 : w3.cell? ⟨g3, 0, none⟩ = some (.int .i64 a1) := B_g3.cell (i := 0) rfl)
      | (go_at_call 22; refine (marks_Kind.calls k a0 a1 _ _ HK.out).mono ?_; rintro e w4 ⟨rfl, hb4⟩; have HBn := HB.step hb4; clear HB; have HB := HBn; clear HBn; clear hb4 c2 c3))
    go_ret
    exact ⟨rfl, HB.out⟩
end


def quarrylaw10_awake.j0 : Nat → Bool → List (S34) → List (S34) → Option (Bool)
  | 0, _, _, _ => none
  | k + 1, x32, x141000, x141001 => if x32 = true then (some false) else ((levels_Colons.f x141000 x141001 1 0 99).bind fun t144 => ((quarryref00_SameInts.f k t144 (([4, 15] : List Int))).bind fun t150 => (if t150 = true then ((levels_Commas.f x141000 x141001 2 0 99).bind fun t151 => ((quarryref00_SameInts.f k t151 (([7] : List Int))).bind fun t157 => (some t157))) else (some false))))
def quarrylaw10_awake.f (k : Nat)  : Option (Bool) := (levels_Build.f (⟨#[123, 34, 97, 34, 58, 91, 49, 44, 50, 93, 44, 34, 98, 58, 34, 58, 51, 125]⟩ : ByteArray) 2).bind fun bt133 => (if bt133.2.2 = 0 then (if (bt133.1.length : Int) = 2 then (if (bt133.2.1.length : Int) = 2 then ((levels_Depth.f (⟨#[123, 34, 97, 34, 58, 91, 49, 44, 50, 93, 44, 34, 98, 58, 34, 58, 51, 125]⟩ : ByteArray) 6).bind fun t141 => (if t141 = 2 then ((levels_Close.f k (⟨#[123, 34, 97, 34, 58, 91, 49, 44, 50, 93, 44, 34, 98, 58, 34, 58, 51, 125]⟩ : ByteArray) 5).bind fun t142 => (if t142 = 9 then ((levels_Close.f k (⟨#[123, 34, 97, 34, 58, 91, 49, 44, 50, 93, 44, 34, 98, 58, 34, 58, 51, 125]⟩ : ByteArray) 0).bind fun t143 => (quarrylaw10_awake.j0 k (t143 != 17) bt133.1 bt133.2.1)) else (quarrylaw10_awake.j0 k true bt133.1 bt133.2.1))) else (quarrylaw10_awake.j0 k true bt133.1 bt133.2.1))) else (quarrylaw10_awake.j0 k true bt133.1 bt133.2.1)) else (quarrylaw10_awake.j0 k true bt133.1 bt133.2.1)) else (quarrylaw10_awake.j0 k true bt133.1 bt133.2.1))
theorem quarrylaw10_awake.mono_l : ∀ k, (∀ y0 y1 y2, LeO (quarrylaw10_awake.j0 k y0 y1 y2) (quarrylaw10_awake.j0 (k + 1) y0 y1 y2))
  | 0 => fun _ _ _ r h => by simp [quarrylaw10_awake.j0] at h
  | k + 1 => by
    have ih0 := quarrylaw10_awake.mono_l k
    · intro y0 y1 y2
      unfold quarrylaw10_awake.j0
      repeat' first
      | (with_reducible exact ih0 _ _ _)
      | (with_reducible exact levels_Close.mono _ _ _)
      | (with_reducible exact quarryref00_SameInts.mono _ _ _)
      | (with_reducible exact LeO.refl _)
      | (with_reducible exact LeO.none _)
      | (with_reducible refine LeO.ite ?_ ?_)
      | (with_reducible refine LeO.bind ?_ (fun _ => ?_))
      | exact ih0 _ _ _
      | exact levels_Close.mono _ _ _
      | exact quarryref00_SameInts.mono _ _ _
      | exact LeO.none _
      | refine LeO.ite ?_ ?_
      | refine LeO.bind ?_ (fun _ => ?_)
theorem quarrylaw10_awake.mono : ∀ k, LeO (quarrylaw10_awake.f k ) (quarrylaw10_awake.f (k + 1) ) := by
  intro  k
  have ih0 := quarrylaw10_awake.mono_l k
  unfold quarrylaw10_awake.f
  repeat' first
      | (with_reducible exact ih0 _ _ _)
      | (with_reducible exact levels_Close.mono _ _ _)
      | (with_reducible exact quarryref00_SameInts.mono _ _ _)
      | (with_reducible exact LeO.refl _)
      | (with_reducible exact LeO.none _)
      | (with_reducible refine LeO.ite ?_ ?_)
      | (with_reducible refine LeO.bind ?_ (fun _ => ?_))
      | exact ih0 _ _ _
      | exact levels_Close.mono _ _ _
      | exact quarryref00_SameInts.mono _ _ _
      | exact LeO.none _
      | refine LeO.ite ?_ ?_
      | refine LeO.bind ?_ (fun _ => ?_)
set_option maxHeartbeats 8000000 in
set_option maxRecDepth 100000 in
theorem quarrylaw10_awake.calls (k : Nat)  (r : Bool) (w : World) (hT : TabOk w) (h : quarrylaw10_awake.f k  = some r) :
    Calls Tryd.prog 29 #[] w fun e w' => e = .returned (.bool r) ∧ Below w.heap.size w w' := by
  have TK_ := Aside0.mk hT
  clear hT
  have hu48 := Tryd.underlying48
  have hu26 := Tryd.underlying26
  have HB := Aside0.mk (Below.refl w.heap.size w)
  have H : ((levels_Build.f (⟨#[123, 34, 97, 34, 58, 91, 49, 44, 50, 93, 44, 34, 98, 58, 34, 58, 51, 125]⟩ : ByteArray) 2).bind fun bt133 => (if bt133.2.2 = 0 then (if (bt133.1.length : Int) = 2 then (if (bt133.2.1.length : Int) = 2 then ((levels_Depth.f (⟨#[123, 34, 97, 34, 58, 91, 49, 44, 50, 93, 44, 34, 98, 58, 34, 58, 51, 125]⟩ : ByteArray) 6).bind fun t141 => (if t141 = 2 then ((levels_Close.f k (⟨#[123, 34, 97, 34, 58, 91, 49, 44, 50, 93, 44, 34, 98, 58, 34, 58, 51, 125]⟩ : ByteArray) 5).bind fun t142 => (if t142 = 9 then ((levels_Close.f k (⟨#[123, 34, 97, 34, 58, 91, 49, 44, 50, 93, 44, 34, 98, 58, 34, 58, 51, 125]⟩ : ByteArray) 0).bind fun t143 => (quarrylaw10_awake.j0 k (t143 != 17) bt133.1 bt133.2.1)) else (quarrylaw10_awake.j0 k true bt133.1 bt133.2.1))) else (quarrylaw10_awake.j0 k true bt133.1 bt133.2.1))) else (quarrylaw10_awake.j0 k true bt133.1 bt133.2.1)) else (quarrylaw10_awake.j0 k true bt133.1 bt133.2.1)) else (quarrylaw10_awake.j0 k true bt133.1 bt133.2.1))) = some r := h
  clear h
  replace H := Option.bind_eq_some_iff.mp H
  obtain ⟨⟨t133, t136, t139⟩, A10, H⟩ := H
  replace H : (if t139 = 0 then (if (t133.length : Int) = 2 then (if (t136.length : Int) = 2 then ((levels_Depth.f (⟨#[123, 34, 97, 34, 58, 91, 49, 44, 50, 93, 44, 34, 98, 58, 34, 58, 51, 125]⟩ : ByteArray) 6).bind fun t141 => (if t141 = 2 then ((levels_Close.f k (⟨#[123, 34, 97, 34, 58, 91, 49, 44, 50, 93, 44, 34, 98, 58, 34, 58, 51, 125]⟩ : ByteArray) 5).bind fun t142 => (if t142 = 9 then ((levels_Close.f k (⟨#[123, 34, 97, 34, 58, 91, 49, 44, 50, 93, 44, 34, 98, 58, 34, 58, 51, 125]⟩ : ByteArray) 0).bind fun t143 => (quarrylaw10_awake.j0 k (t143 != 17) t133 t136)) else (quarrylaw10_awake.j0 k true t133 t136))) else (quarrylaw10_awake.j0 k true t133 t136))) else (quarrylaw10_awake.j0 k true t133 t136)) else (quarrylaw10_awake.j0 k true t133 t136)) else (quarrylaw10_awake.j0 k true t133 t136)) = some r := H
  have A1 := Aside0.mk A10
  clear A10
  have HC2 := Aside0.mk H
  clear H
  go_enter Tryd.func29, Tryd.ntmps29
  go_upto_region 2 with (first | ((with_reducible refine gate_callee (f := 28) rfl ?_); refine goesL_ (some 4) rfl rfl Tryd.func28 (by kernel_rfl) rfl #[.string (⟨#[123, 34, 97, 34, 58, 91, 49, 44, 50, 93, 44, 34, 98, 58, 34, 58, 51, 125]⟩ : ByteArray), .int .i64 2] rfl (by (try simp only [List.map_toArray, List.map_cons, List.map_nil]); first | done | rfl | (simp only [List.length_drop, List.length_take]; rfl)) ?_; (with_reducible refine (levels_Build.calls (⟨#[123, 34, 97, 34, 58, 91, 49, 44, 50, 93, 44, 34, 98, 58, 34, 58, 51, 125]⟩ : ByteArray) 2 t133 t136 t139 _ ?tabk A1.out).mono ?_); (case tabk => exact TK_.out.step (by repeat (first | (with_reducible first | exact HB.out | apply below_alloc | apply pw_below_drewN | apply below_drew1) | exact HB.out))); rintro e w3 ⟨v134, v137, rfl, ho0, ho1, hb⟩; refine ⟨_, rfl, ?_⟩; have n0_ := Aside0.mk (Kd.S_lower ho0 (below_size (by repeat (first | (with_reducible first | exact HB.out | apply below_alloc | apply pw_below_drewN | apply below_drew1) | exact HB.out)))); have n1_ := Aside0.mk (Kd.S_lower ho1 (below_size (by repeat (first | (with_reducible first | exact HB.out | apply below_alloc | apply pw_below_drewN | apply below_drew1) | exact HB.out)))); have n2_ := Aside0.mk (below_step (by repeat (first | (with_reducible first | exact HB.out | apply below_alloc | apply pw_below_drewN | apply below_drew1) | exact HB.out)) hb); clear HB; have HO135 := n0_; have HO138 := n1_; have HB := n2_; clear n0_ n1_ n2_; (try clear hb); (try clear hb2); (try clear hk); (try clear hi); (try clear ho0); (try clear ho1)) | ((with_reducible refine gate_dst (N := 1) rfl ?_); (try (refine gate_guard (by rfl) ?_; dsimp only)); refine box_event ?hg (N := 1) ?hd (cs := #[.slice none 0 0, .slice none 0 0]) (t := 48) ?hr ?_; (case hd => rfl); (case hg => rfl); (case hr => first | (go_simp; done) | (go_simp; rfl)); intro gb140 hg w4 hbox hb; have n0_ := Aside0.mk (Kd.S_below (by (with_reducible repeat (first | apply Kd.S_alloc | apply Kd.S_drewN | apply Kd.S_drew)); exact HO135.out) hb); have n1_ := Aside0.mk (Kd.S_below (by (with_reducible repeat (first | apply Kd.S_alloc | apply Kd.S_drewN | apply Kd.S_drew)); exact HO138.out) hb); have n2_ := Aside0.mk (below_step (by repeat (first | (with_reducible first | exact HB.out | apply below_alloc | apply pw_below_drewN | apply below_drew1) | exact HB.out)) hb); have n3_ := Aside0.mk (hbox); have n4_ := Aside0.mk ((by rw [hg]; exact (below_size (by repeat (first | (with_reducible first | exact HB.out | apply below_alloc | apply pw_below_drewN | apply below_drew1) | exact HB.out))) : w.heap.size ≤ gb140)); have n5_ := Aside0.mk ((by rw [hg]; exact (below_size (by repeat (first | (with_reducible first | exact HB.out | apply below_alloc | apply pw_below_drewN | apply below_drew1) | exact HB.out))) : w.heap.size ≤ gb140)); clear HO135; clear HO138; clear HB; have HO135 := n0_; have HO138 := n1_; have HB := n2_; have BK140 := n3_; have GW140 := n4_; have GE140 := n5_; clear n0_ n1_ n2_ n3_ n4_ n5_; clear hb hbox hg; obtain ⟨Ao5, co5, eo5⟩ := Kd.S_slice HO135.out; subst eo5; have hcz6_0 : w4.cell? ⟨gb140, 0, none⟩ = some (.slice none 0 0) := (blk_cell BK140.out 0).trans rfl; have hcz6_1 : w4.cell? ⟨gb140, 1, none⟩ = some (.slice none 0 0) := (blk_cell BK140.out 1).trans rfl; have hfz6_0 := blk_frozen BK140.out 0; have hfz6_1 := blk_frozen BK140.out 1; obtain ⟨Ao7, co7, eo7⟩ := Kd.S_slice HO138.out; subst eo7))
  (try simp only [Act.put, List.setIfInBounds_toArray, List.set_cons_zero, List.set_cons_succ])
  go_cut [32] (fun v32 wc => ∃ (kq : Nat) (x32_1 : Bool), v32 = .bool x32_1 ∧ Aside0 (quarrylaw10_awake.j0 kq x32_1 t133 t136 = some r) ∧ Aside0 (kq ≤ k) ∧ Aside0 (Kd.S k34 34 wc w.heap.size (fun k_ => some k_ ≠ ((.slice Ao7 t136.length co7) : Value).ownBlock) (.slice Ao5 t133.length co5) t133) ∧ Aside0 (Kd.S k34 34 wc w.heap.size (fun k_ => some k_ ≠ ((.slice Ao5 t133.length co5) : Value).ownBlock) (.slice Ao7 t136.length co7) t136) ∧ Aside0 (wc.heap[gb140]? = some (.cells #[(.slice Ao5 t133.length co5), (.slice Ao7 t136.length co7)] 48 (0, 0))) ∧ Aside0 (Below w.heap.size w wc))
  case first =>
    have H := HC2.out
    clear HC2
    by_cases c8 : t139 = 0
    · rw [if_pos c8] at H
      have c8b0 : (t139 == 0) = true := beq_iff_eq.mpr c8
      have c8b1 : (t139 != 0) = false := bne_eq_false_iff_eq.mpr c8
      clear c8
      (first | rw [c8b0] | (simp only [i64_w, i32_w]; rw [c8b0]) | skip)
      by_cases c9 : (t133.length : Int) = 2
      · rw [if_pos c9] at H
        have c9b0 : ((t133.length : Int) == 2) = true := beq_iff_eq.mpr c9
        have c9b1 : ((t133.length : Int) != 2) = false := bne_eq_false_iff_eq.mpr c9
        clear c9
        by_cases c10 : (t136.length : Int) = 2
        · rw [if_pos c10] at H
          have c10b0 : ((t136.length : Int) == 2) = true := beq_iff_eq.mpr c10
          have c10b1 : ((t136.length : Int) != 2) = false := bne_eq_false_iff_eq.mpr c10
          clear c10
          replace H := Option.bind_eq_some_iff.mp H
          obtain ⟨t141, A110, H⟩ := H
          replace H : (if t141 = 2 then ((levels_Close.f k (⟨#[123, 34, 97, 34, 58, 91, 49, 44, 50, 93, 44, 34, 98, 58, 34, 58, 51, 125]⟩ : ByteArray) 5).bind fun t142 => (if t142 = 9 then ((levels_Close.f k (⟨#[123, 34, 97, 34, 58, 91, 49, 44, 50, 93, 44, 34, 98, 58, 34, 58, 51, 125]⟩ : ByteArray) 0).bind fun t143 => (quarrylaw10_awake.j0 k (t143 != 17) t133 t136)) else (quarrylaw10_awake.j0 k true t133 t136))) else (quarrylaw10_awake.j0 k true t133 t136)) = some r := H
          have A11 := Aside0.mk A110
          clear A110
          by_cases c12 : t141 = 2
          · rw [if_pos c12] at H
            have c12b0 : (t141 == 2) = true := beq_iff_eq.mpr c12
            have c12b1 : (t141 != 2) = false := bne_eq_false_iff_eq.mpr c12
            clear c12
            replace H := Option.bind_eq_some_iff.mp H
            obtain ⟨t142, A130, H⟩ := H
            replace H : (if t142 = 9 then ((levels_Close.f k (⟨#[123, 34, 97, 34, 58, 91, 49, 44, 50, 93, 44, 34, 98, 58, 34, 58, 51, 125]⟩ : ByteArray) 0).bind fun t143 => (quarrylaw10_awake.j0 k (t143 != 17) t133 t136)) else (quarrylaw10_awake.j0 k true t133 t136)) = some r := H
            have A13 := Aside0.mk A130
            clear A130
            by_cases c14 : t142 = 9
            · rw [if_pos c14] at H
              have c14b0 : (t142 == 9) = true := beq_iff_eq.mpr c14
              have c14b1 : (t142 != 9) = false := bne_eq_false_iff_eq.mpr c14
              clear c14
              replace H := Option.bind_eq_some_iff.mp H
              obtain ⟨t143, A150, H⟩ := H
              replace H : (quarrylaw10_awake.j0 k (t143 != 17) t133 t136) = some r := H
              have A15 := Aside0.mk A150
              clear A150
              have H' := Aside0.mk H
              clear H
              have hcz16_0 : w4.cell? ⟨gb140, 0, none⟩ = some (.slice none 0 0) := (blk_cell BK140.out 0).trans rfl
              have hcz16_1 : w4.cell? ⟨gb140, 1, none⟩ = some (.slice none 0 0) := (blk_cell BK140.out 1).trans rfl
              have hfz16_0 := blk_frozen BK140.out 0
              have hfz16_1 := blk_frozen BK140.out 1
              have tk0_ : True := trivial
              have tk1_ : True := trivial
              go_wp2_with (first | (go_at_call 37; (with_reducible refine (levels_Depth.calls (⟨#[123, 34, 97, 34, 58, 91, 49, 44, 50, 93, 44, 34, 98, 58, 34, 58, 51, 125]⟩ : ByteArray) 6 t141 _ ?tabk A11.out).mono ?_); (case tabk => exact TK_.out.step (by repeat (first | (with_reducible first | exact HB.out | apply below_alloc | apply pw_below_drewN | apply below_drew1 | refine below_set ?_ GE140.out) | exact HB.out))); rintro e w17 ⟨rfl, hb⟩; have n0_ := Aside0.mk (Kd.S_below (by (with_reducible repeat (first | apply Kd.S_alloc | apply Kd.S_drewN | apply Kd.S_drew)); exact (Kd.S_mono (Kd.S_far (p := ⟨gb140, 1, none⟩) (Kd.S_far (p := ⟨gb140, 0, none⟩) (Kd.S_types HO135.out BK140.out (by decide)) (fun _ hk => hk.2) (.slice Ao5 t133.length co5)) (fun _ hk => hk.2) (.slice Ao7 t136.length co7)) (fun _ h_ => h_.1))) hb); have n1_ := Aside0.mk (Kd.S_below (by (with_reducible repeat (first | apply Kd.S_alloc | apply Kd.S_drewN | apply Kd.S_drew)); exact (Kd.S_mono (Kd.S_far (p := ⟨gb140, 1, none⟩) (Kd.S_far (p := ⟨gb140, 0, none⟩) (Kd.S_types HO138.out BK140.out (by decide)) (fun _ hk => hk.2) (.slice Ao5 t133.length co5)) (fun _ hk => hk.2) (.slice Ao7 t136.length co7)) (fun _ h_ => h_.1))) hb); have n2_ := Aside0.mk (blk_below (g := gb140) (o := .cells #[.slice Ao5 t133.length co5, .slice Ao7 t136.length co7] 48 (0, 0)) (by (with_reducible repeat (first | refine blk_drewN ?_ _ | refine blk_drew ?_ | refine blk_alloc ?_ _)); refine blk_put (cs := #[.slice Ao5 t133.length co5, .slice none 0 0]) ?_ 1 _ rfl; (with_reducible repeat (first | refine blk_drewN ?_ _ | refine blk_drew ?_ | refine blk_alloc ?_ _)); refine blk_put (cs := #[.slice none 0 0, .slice none 0 0]) ?_ 0 _ rfl; (with_reducible repeat (first | refine blk_drewN ?_ _ | refine blk_drew ?_ | refine blk_alloc ?_ _)); exact BK140.out) hb); have n3_ := Aside0.mk (below_step (by repeat (first | (with_reducible first | exact HB.out | apply below_alloc | apply pw_below_drewN | apply below_drew1 | refine below_set ?_ GE140.out) | exact HB.out)) hb); clear HO135; clear HO138; clear BK140; clear HB; have HO135 := n0_; have HO138 := n1_; have BK140 := n2_; have HB := n3_; clear n0_ n1_ n2_ n3_; (try clear hb); (try clear hb2); (try clear hk); (try clear hi)) | (go_at_call 39; replace tk0_ := tk0_; (with_reducible refine (levels_Close.calls k (⟨#[123, 34, 97, 34, 58, 91, 49, 44, 50, 93, 44, 34, 98, 58, 34, 58, 51, 125]⟩ : ByteArray) 5 t142 _ ?tabk A13.out).mono ?_); (case tabk => exact TK_.out.step (by repeat (first | (with_reducible first | exact HB.out | apply below_alloc | apply pw_below_drewN | apply below_drew1 | refine below_set ?_ GE140.out) | exact HB.out))); rintro e w18 ⟨rfl, hb⟩; have n0_ := Aside0.mk (Kd.S_below (by (with_reducible repeat (first | apply Kd.S_alloc | apply Kd.S_drewN | apply Kd.S_drew)); exact HO135.out) hb); have n1_ := Aside0.mk (Kd.S_below (by (with_reducible repeat (first | apply Kd.S_alloc | apply Kd.S_drewN | apply Kd.S_drew)); exact HO138.out) hb); have n2_ := Aside0.mk (blk_below (g := gb140) (o := .cells #[.slice Ao5 t133.length co5, .slice Ao7 t136.length co7] 48 (0, 0)) (by (with_reducible repeat (first | refine blk_drewN ?_ _ | refine blk_drew ?_ | refine blk_alloc ?_ _)); exact BK140.out) hb); have n3_ := Aside0.mk (below_step (by repeat (first | (with_reducible first | exact HB.out | apply below_alloc | apply pw_below_drewN | apply below_drew1 | refine below_set ?_ GE140.out) | exact HB.out)) hb); clear HO135; clear HO138; clear BK140; clear HB; have HO135 := n0_; have HO138 := n1_; have BK140 := n2_; have HB := n3_; clear n0_ n1_ n2_ n3_; (try clear hb); (try clear hb2); (try clear hk); (try clear hi); clear tk0_) | (go_at_call 39; replace tk1_ := tk1_; (with_reducible refine (levels_Close.calls k (⟨#[123, 34, 97, 34, 58, 91, 49, 44, 50, 93, 44, 34, 98, 58, 34, 58, 51, 125]⟩ : ByteArray) 0 t143 _ ?tabk A15.out).mono ?_); (case tabk => exact TK_.out.step (by repeat (first | (with_reducible first | exact HB.out | apply below_alloc | apply pw_below_drewN | apply below_drew1 | refine below_set ?_ GE140.out) | exact HB.out))); rintro e w19 ⟨rfl, hb⟩; have n0_ := Aside0.mk (Kd.S_below (by (with_reducible repeat (first | apply Kd.S_alloc | apply Kd.S_drewN | apply Kd.S_drew)); exact HO135.out) hb); have n1_ := Aside0.mk (Kd.S_below (by (with_reducible repeat (first | apply Kd.S_alloc | apply Kd.S_drewN | apply Kd.S_drew)); exact HO138.out) hb); have n2_ := Aside0.mk (blk_below (g := gb140) (o := .cells #[.slice Ao5 t133.length co5, .slice Ao7 t136.length co7] 48 (0, 0)) (by (with_reducible repeat (first | refine blk_drewN ?_ _ | refine blk_drew ?_ | refine blk_alloc ?_ _)); exact BK140.out) hb); have n3_ := Aside0.mk (below_step (by repeat (first | (with_reducible first | exact HB.out | apply below_alloc | apply pw_below_drewN | apply below_drew1 | refine below_set ?_ GE140.out) | exact HB.out)) hb); clear HO135; clear HO138; clear BK140; clear HB; have HO135 := n0_; have HO138 := n1_; have BK140 := n2_; have HB := n3_; clear n0_ n1_ n2_ n3_; (try clear hb); (try clear hb2); (try clear hk); (try clear hi); clear tk1_))
              go_meet
              case rel => exact ⟨_, ((t143 != 17)), (by first | rfl | (simp; done) | (simp [*]; done)), H', ⟨by first | omega | exact Nat.le_refl _⟩, ⟨by (with_reducible repeat (first | apply Kd.S_alloc | apply Kd.S_drewN | apply Kd.S_drew)); exact HO135.out⟩, ⟨by (with_reducible repeat (first | apply Kd.S_alloc | apply Kd.S_drewN | apply Kd.S_drew)); exact HO138.out⟩, ⟨by (with_reducible repeat (first | refine blk_drewN ?_ _ | refine blk_drew ?_ | refine blk_alloc ?_ _)); exact BK140.out⟩, ⟨by repeat (first | (with_reducible first | exact HB.out | apply below_alloc | apply pw_below_drewN | apply below_drew1 | refine below_set ?_ GE140.out) | exact HB.out)⟩⟩
            · rw [if_neg c14] at H
              have c14b0 : (t142 == 9) = false := beq_eq_false_iff_ne.mpr c14
              have c14b1 : (t142 != 9) = true := bne_iff_ne.mpr c14
              have H' := Aside0.mk H
              clear H
              have hcz20_0 : w4.cell? ⟨gb140, 0, none⟩ = some (.slice none 0 0) := (blk_cell BK140.out 0).trans rfl
              have hcz20_1 : w4.cell? ⟨gb140, 1, none⟩ = some (.slice none 0 0) := (blk_cell BK140.out 1).trans rfl
              have hfz20_0 := blk_frozen BK140.out 0
              have hfz20_1 := blk_frozen BK140.out 1
              go_wp2_with (first | (go_at_call 37; (with_reducible refine (levels_Depth.calls (⟨#[123, 34, 97, 34, 58, 91, 49, 44, 50, 93, 44, 34, 98, 58, 34, 58, 51, 125]⟩ : ByteArray) 6 t141 _ ?tabk A11.out).mono ?_); (case tabk => exact TK_.out.step (by repeat (first | (with_reducible first | exact HB.out | apply below_alloc | apply pw_below_drewN | apply below_drew1 | refine below_set ?_ GE140.out) | exact HB.out))); rintro e w21 ⟨rfl, hb⟩; have n0_ := Aside0.mk (Kd.S_below (by (with_reducible repeat (first | apply Kd.S_alloc | apply Kd.S_drewN | apply Kd.S_drew)); exact (Kd.S_mono (Kd.S_far (p := ⟨gb140, 1, none⟩) (Kd.S_far (p := ⟨gb140, 0, none⟩) (Kd.S_types HO135.out BK140.out (by decide)) (fun _ hk => hk.2) (.slice Ao5 t133.length co5)) (fun _ hk => hk.2) (.slice Ao7 t136.length co7)) (fun _ h_ => h_.1))) hb); have n1_ := Aside0.mk (Kd.S_below (by (with_reducible repeat (first | apply Kd.S_alloc | apply Kd.S_drewN | apply Kd.S_drew)); exact (Kd.S_mono (Kd.S_far (p := ⟨gb140, 1, none⟩) (Kd.S_far (p := ⟨gb140, 0, none⟩) (Kd.S_types HO138.out BK140.out (by decide)) (fun _ hk => hk.2) (.slice Ao5 t133.length co5)) (fun _ hk => hk.2) (.slice Ao7 t136.length co7)) (fun _ h_ => h_.1))) hb); have n2_ := Aside0.mk (blk_below (g := gb140) (o := .cells #[.slice Ao5 t133.length co5, .slice Ao7 t136.length co7] 48 (0, 0)) (by (with_reducible repeat (first | refine blk_drewN ?_ _ | refine blk_drew ?_ | refine blk_alloc ?_ _)); refine blk_put (cs := #[.slice Ao5 t133.length co5, .slice none 0 0]) ?_ 1 _ rfl; (with_reducible repeat (first | refine blk_drewN ?_ _ | refine blk_drew ?_ | refine blk_alloc ?_ _)); refine blk_put (cs := #[.slice none 0 0, .slice none 0 0]) ?_ 0 _ rfl; (with_reducible repeat (first | refine blk_drewN ?_ _ | refine blk_drew ?_ | refine blk_alloc ?_ _)); exact BK140.out) hb); have n3_ := Aside0.mk (below_step (by repeat (first | (with_reducible first | exact HB.out | apply below_alloc | apply pw_below_drewN | apply below_drew1 | refine below_set ?_ GE140.out) | exact HB.out)) hb); clear HO135; clear HO138; clear BK140; clear HB; have HO135 := n0_; have HO138 := n1_; have BK140 := n2_; have HB := n3_; clear n0_ n1_ n2_ n3_; (try clear hb); (try clear hb2); (try clear hk); (try clear hi)) | (go_at_call 39; (with_reducible refine (levels_Close.calls k (⟨#[123, 34, 97, 34, 58, 91, 49, 44, 50, 93, 44, 34, 98, 58, 34, 58, 51, 125]⟩ : ByteArray) 5 t142 _ ?tabk A13.out).mono ?_); (case tabk => exact TK_.out.step (by repeat (first | (with_reducible first | exact HB.out | apply below_alloc | apply pw_below_drewN | apply below_drew1 | refine below_set ?_ GE140.out) | exact HB.out))); rintro e w22 ⟨rfl, hb⟩; have n0_ := Aside0.mk (Kd.S_below (by (with_reducible repeat (first | apply Kd.S_alloc | apply Kd.S_drewN | apply Kd.S_drew)); exact HO135.out) hb); have n1_ := Aside0.mk (Kd.S_below (by (with_reducible repeat (first | apply Kd.S_alloc | apply Kd.S_drewN | apply Kd.S_drew)); exact HO138.out) hb); have n2_ := Aside0.mk (blk_below (g := gb140) (o := .cells #[.slice Ao5 t133.length co5, .slice Ao7 t136.length co7] 48 (0, 0)) (by (with_reducible repeat (first | refine blk_drewN ?_ _ | refine blk_drew ?_ | refine blk_alloc ?_ _)); exact BK140.out) hb); have n3_ := Aside0.mk (below_step (by repeat (first | (with_reducible first | exact HB.out | apply below_alloc | apply pw_below_drewN | apply below_drew1 | refine below_set ?_ GE140.out) | exact HB.out)) hb); clear HO135; clear HO138; clear BK140; clear HB; have HO135 := n0_; have HO138 := n1_; have BK140 := n2_; have HB := n3_; clear n0_ n1_ n2_ n3_; (try clear hb); (try clear hb2); (try clear hk); (try clear hi)))
              go_meet
              case rel => exact ⟨_, (true), (by first | rfl | (simp; done) | (simp [*]; done)), H', ⟨by first | omega | exact Nat.le_refl _⟩, ⟨by (with_reducible repeat (first | apply Kd.S_alloc | apply Kd.S_drewN | apply Kd.S_drew)); exact HO135.out⟩, ⟨by (with_reducible repeat (first | apply Kd.S_alloc | apply Kd.S_drewN | apply Kd.S_drew)); exact HO138.out⟩, ⟨by (with_reducible repeat (first | refine blk_drewN ?_ _ | refine blk_drew ?_ | refine blk_alloc ?_ _)); exact BK140.out⟩, ⟨by repeat (first | (with_reducible first | exact HB.out | apply below_alloc | apply pw_below_drewN | apply below_drew1 | refine below_set ?_ GE140.out) | exact HB.out)⟩⟩
          · rw [if_neg c12] at H
            have c12b0 : (t141 == 2) = false := beq_eq_false_iff_ne.mpr c12
            have c12b1 : (t141 != 2) = true := bne_iff_ne.mpr c12
            have H' := Aside0.mk H
            clear H
            have hcz23_0 : w4.cell? ⟨gb140, 0, none⟩ = some (.slice none 0 0) := (blk_cell BK140.out 0).trans rfl
            have hcz23_1 : w4.cell? ⟨gb140, 1, none⟩ = some (.slice none 0 0) := (blk_cell BK140.out 1).trans rfl
            have hfz23_0 := blk_frozen BK140.out 0
            have hfz23_1 := blk_frozen BK140.out 1
            go_wp2_with (first | (go_at_call 37; (with_reducible refine (levels_Depth.calls (⟨#[123, 34, 97, 34, 58, 91, 49, 44, 50, 93, 44, 34, 98, 58, 34, 58, 51, 125]⟩ : ByteArray) 6 t141 _ ?tabk A11.out).mono ?_); (case tabk => exact TK_.out.step (by repeat (first | (with_reducible first | exact HB.out | apply below_alloc | apply pw_below_drewN | apply below_drew1 | refine below_set ?_ GE140.out) | exact HB.out))); rintro e w24 ⟨rfl, hb⟩; have n0_ := Aside0.mk (Kd.S_below (by (with_reducible repeat (first | apply Kd.S_alloc | apply Kd.S_drewN | apply Kd.S_drew)); exact (Kd.S_mono (Kd.S_far (p := ⟨gb140, 1, none⟩) (Kd.S_far (p := ⟨gb140, 0, none⟩) (Kd.S_types HO135.out BK140.out (by decide)) (fun _ hk => hk.2) (.slice Ao5 t133.length co5)) (fun _ hk => hk.2) (.slice Ao7 t136.length co7)) (fun _ h_ => h_.1))) hb); have n1_ := Aside0.mk (Kd.S_below (by (with_reducible repeat (first | apply Kd.S_alloc | apply Kd.S_drewN | apply Kd.S_drew)); exact (Kd.S_mono (Kd.S_far (p := ⟨gb140, 1, none⟩) (Kd.S_far (p := ⟨gb140, 0, none⟩) (Kd.S_types HO138.out BK140.out (by decide)) (fun _ hk => hk.2) (.slice Ao5 t133.length co5)) (fun _ hk => hk.2) (.slice Ao7 t136.length co7)) (fun _ h_ => h_.1))) hb); have n2_ := Aside0.mk (blk_below (g := gb140) (o := .cells #[.slice Ao5 t133.length co5, .slice Ao7 t136.length co7] 48 (0, 0)) (by (with_reducible repeat (first | refine blk_drewN ?_ _ | refine blk_drew ?_ | refine blk_alloc ?_ _)); refine blk_put (cs := #[.slice Ao5 t133.length co5, .slice none 0 0]) ?_ 1 _ rfl; (with_reducible repeat (first | refine blk_drewN ?_ _ | refine blk_drew ?_ | refine blk_alloc ?_ _)); refine blk_put (cs := #[.slice none 0 0, .slice none 0 0]) ?_ 0 _ rfl; (with_reducible repeat (first | refine blk_drewN ?_ _ | refine blk_drew ?_ | refine blk_alloc ?_ _)); exact BK140.out) hb); have n3_ := Aside0.mk (below_step (by repeat (first | (with_reducible first | exact HB.out | apply below_alloc | apply pw_below_drewN | apply below_drew1 | refine below_set ?_ GE140.out) | exact HB.out)) hb); clear HO135; clear HO138; clear BK140; clear HB; have HO135 := n0_; have HO138 := n1_; have BK140 := n2_; have HB := n3_; clear n0_ n1_ n2_ n3_; (try clear hb); (try clear hb2); (try clear hk); (try clear hi)))
            go_meet
            case rel => exact ⟨_, (true), (by first | rfl | (simp; done) | (simp [*]; done)), H', ⟨by first | omega | exact Nat.le_refl _⟩, ⟨by (with_reducible repeat (first | apply Kd.S_alloc | apply Kd.S_drewN | apply Kd.S_drew)); exact HO135.out⟩, ⟨by (with_reducible repeat (first | apply Kd.S_alloc | apply Kd.S_drewN | apply Kd.S_drew)); exact HO138.out⟩, ⟨by (with_reducible repeat (first | refine blk_drewN ?_ _ | refine blk_drew ?_ | refine blk_alloc ?_ _)); exact BK140.out⟩, ⟨by repeat (first | (with_reducible first | exact HB.out | apply below_alloc | apply pw_below_drewN | apply below_drew1 | refine below_set ?_ GE140.out) | exact HB.out)⟩⟩
        · rw [if_neg c10] at H
          have c10b0 : ((t136.length : Int) == 2) = false := beq_eq_false_iff_ne.mpr c10
          have c10b1 : ((t136.length : Int) != 2) = true := bne_iff_ne.mpr c10
          have H' := Aside0.mk H
          clear H
          have hcz25_0 : w4.cell? ⟨gb140, 0, none⟩ = some (.slice none 0 0) := (blk_cell BK140.out 0).trans rfl
          have hcz25_1 : w4.cell? ⟨gb140, 1, none⟩ = some (.slice none 0 0) := (blk_cell BK140.out 1).trans rfl
          have hfz25_0 := blk_frozen BK140.out 0
          have hfz25_1 := blk_frozen BK140.out 1
          go_wp2
          go_meet
          case rel => exact ⟨_, (true), (by first | rfl | (simp; done) | (simp [*]; done)), H', ⟨by first | omega | exact Nat.le_refl _⟩, ⟨by (with_reducible repeat (first | apply Kd.S_alloc | apply Kd.S_drewN | apply Kd.S_drew)); exact Kd.S_mono (Kd.S_far (p := ⟨gb140, 1, none⟩) (Kd.S_far (p := ⟨gb140, 0, none⟩) (Kd.S_types HO135.out BK140.out (by decide)) (fun _ hk => hk.2) (.slice Ao5 t133.length co5)) (fun _ hk => hk.2) (.slice Ao7 t136.length co7)) (fun _ hk => hk.1)⟩, ⟨by (with_reducible repeat (first | apply Kd.S_alloc | apply Kd.S_drewN | apply Kd.S_drew)); exact Kd.S_mono (Kd.S_far (p := ⟨gb140, 1, none⟩) (Kd.S_far (p := ⟨gb140, 0, none⟩) (Kd.S_types HO138.out BK140.out (by decide)) (fun _ hk => hk.2) (.slice Ao5 t133.length co5)) (fun _ hk => hk.2) (.slice Ao7 t136.length co7)) (fun _ hk => hk.1)⟩, ⟨by (with_reducible repeat (first | refine blk_drewN ?_ _ | refine blk_drew ?_ | refine blk_alloc ?_ _)); refine blk_put (cs := #[.slice Ao5 t133.length co5, .slice none 0 0]) ?_ 1 _ rfl; (with_reducible repeat (first | refine blk_drewN ?_ _ | refine blk_drew ?_ | refine blk_alloc ?_ _)); refine blk_put (cs := #[.slice none 0 0, .slice none 0 0]) ?_ 0 _ rfl; (with_reducible repeat (first | refine blk_drewN ?_ _ | refine blk_drew ?_ | refine blk_alloc ?_ _)); exact BK140.out⟩, ⟨by repeat (first | (with_reducible first | exact HB.out | apply below_alloc | apply pw_below_drewN | apply below_drew1 | refine below_set ?_ GE140.out) | exact HB.out)⟩⟩
      · rw [if_neg c9] at H
        have c9b0 : ((t133.length : Int) == 2) = false := beq_eq_false_iff_ne.mpr c9
        have c9b1 : ((t133.length : Int) != 2) = true := bne_iff_ne.mpr c9
        have H' := Aside0.mk H
        clear H
        have hcz26_0 : w4.cell? ⟨gb140, 0, none⟩ = some (.slice none 0 0) := (blk_cell BK140.out 0).trans rfl
        have hcz26_1 : w4.cell? ⟨gb140, 1, none⟩ = some (.slice none 0 0) := (blk_cell BK140.out 1).trans rfl
        have hfz26_0 := blk_frozen BK140.out 0
        have hfz26_1 := blk_frozen BK140.out 1
        go_wp2
        go_meet
        case rel => exact ⟨_, (true), (by first | rfl | (simp; done) | (simp [*]; done)), H', ⟨by first | omega | exact Nat.le_refl _⟩, ⟨by (with_reducible repeat (first | apply Kd.S_alloc | apply Kd.S_drewN | apply Kd.S_drew)); exact Kd.S_mono (Kd.S_far (p := ⟨gb140, 1, none⟩) (Kd.S_far (p := ⟨gb140, 0, none⟩) (Kd.S_types HO135.out BK140.out (by decide)) (fun _ hk => hk.2) (.slice Ao5 t133.length co5)) (fun _ hk => hk.2) (.slice Ao7 t136.length co7)) (fun _ hk => hk.1)⟩, ⟨by (with_reducible repeat (first | apply Kd.S_alloc | apply Kd.S_drewN | apply Kd.S_drew)); exact Kd.S_mono (Kd.S_far (p := ⟨gb140, 1, none⟩) (Kd.S_far (p := ⟨gb140, 0, none⟩) (Kd.S_types HO138.out BK140.out (by decide)) (fun _ hk => hk.2) (.slice Ao5 t133.length co5)) (fun _ hk => hk.2) (.slice Ao7 t136.length co7)) (fun _ hk => hk.1)⟩, ⟨by (with_reducible repeat (first | refine blk_drewN ?_ _ | refine blk_drew ?_ | refine blk_alloc ?_ _)); refine blk_put (cs := #[.slice Ao5 t133.length co5, .slice none 0 0]) ?_ 1 _ rfl; (with_reducible repeat (first | refine blk_drewN ?_ _ | refine blk_drew ?_ | refine blk_alloc ?_ _)); refine blk_put (cs := #[.slice none 0 0, .slice none 0 0]) ?_ 0 _ rfl; (with_reducible repeat (first | refine blk_drewN ?_ _ | refine blk_drew ?_ | refine blk_alloc ?_ _)); exact BK140.out⟩, ⟨by repeat (first | (with_reducible first | exact HB.out | apply below_alloc | apply pw_below_drewN | apply below_drew1 | refine below_set ?_ GE140.out) | exact HB.out)⟩⟩
    · rw [if_neg c8] at H
      have c8b0 : (t139 == 0) = false := beq_eq_false_iff_ne.mpr c8
      have c8b1 : (t139 != 0) = true := bne_iff_ne.mpr c8
      (first | rw [c8b0] | (simp only [i64_w, i32_w]; rw [c8b0]) | skip)
      have H' := Aside0.mk H
      clear H
      go_wp2
      go_meet
      case rel => exact ⟨_, (true), (by first | rfl | (simp; done) | (simp [*]; done)), H', ⟨by first | omega | exact Nat.le_refl _⟩, ⟨by (with_reducible repeat (first | apply Kd.S_alloc | apply Kd.S_drewN | apply Kd.S_drew)); exact Kd.S_mono (Kd.S_far (p := ⟨gb140, 1, none⟩) (Kd.S_far (p := ⟨gb140, 0, none⟩) (Kd.S_types HO135.out BK140.out (by decide)) (fun _ hk => hk.2) (.slice Ao5 t133.length co5)) (fun _ hk => hk.2) (.slice Ao7 t136.length co7)) (fun _ hk => hk.1)⟩, ⟨by (with_reducible repeat (first | apply Kd.S_alloc | apply Kd.S_drewN | apply Kd.S_drew)); exact Kd.S_mono (Kd.S_far (p := ⟨gb140, 1, none⟩) (Kd.S_far (p := ⟨gb140, 0, none⟩) (Kd.S_types HO138.out BK140.out (by decide)) (fun _ hk => hk.2) (.slice Ao5 t133.length co5)) (fun _ hk => hk.2) (.slice Ao7 t136.length co7)) (fun _ hk => hk.1)⟩, ⟨by (with_reducible repeat (first | refine blk_drewN ?_ _ | refine blk_drew ?_ | refine blk_alloc ?_ _)); refine blk_put (cs := #[.slice Ao5 t133.length co5, .slice none 0 0]) ?_ 1 _ rfl; (with_reducible repeat (first | refine blk_drewN ?_ _ | refine blk_drew ?_ | refine blk_alloc ?_ _)); refine blk_put (cs := #[.slice none 0 0, .slice none 0 0]) ?_ 0 _ rfl; (with_reducible repeat (first | refine blk_drewN ?_ _ | refine blk_drew ?_ | refine blk_alloc ?_ _)); exact BK140.out⟩, ⟨by repeat (first | (with_reducible first | exact HB.out | apply below_alloc | apply pw_below_drewN | apply below_drew1 | refine below_set ?_ GE140.out) | exact HB.out)⟩⟩
  case rest =>
    clear HC2
    try clear c1
    try clear c2
    try clear p2
    try clear c8
    try clear c8b0
    try clear c8b1
    try clear c9
    try clear c9b0
    try clear c9b1
    try clear c10
    try clear c10b0
    try clear c10b1
    try clear c12
    try clear c12b0
    try clear c12b1
    try clear c14
    try clear c14b0
    try clear c14b1
    try clear hcz16_0
    try clear hcz16_1
    try clear hcz20_0
    try clear hcz20_1
    try clear hcz23_0
    try clear hcz23_1
    try clear hcz25_0
    try clear hcz25_1
    try clear hcz26_0
    try clear hcz26_1
    try clear hcz6_0
    try clear hcz6_1
    try clear hfz16_0
    try clear hfz16_1
    try clear hfz20_0
    try clear hfz20_1
    try clear hfz23_0
    try clear hfz23_1
    try clear hfz25_0
    try clear hfz25_1
    try clear hfz26_0
    try clear hfz26_1
    try clear hfz6_0
    try clear hfz6_1
    obtain ⟨kq, x32_1, rfl, HA, HJ1, HO_141000, HO_141001, BK140, HB⟩ := hcut
    cases kq with
    | zero => exact absurd HA.out (by simp [quarrylaw10_awake.j0])
    | succ kj1 =>
      have H := HA.out
      clear HA
      simp only [quarrylaw10_awake.j0] at H
      by_cases c27 : x32_1 = true
      · subst c27
        have H1 : (some false) = some r := by rw [if_pos rfl] at H; exact H
        clear H
        have H := H1
        clear H1
        obtain rfl := Option.some.inj H
        go_wp2
        go_ret
        exact ⟨by first | rfl | (simp [errW_none, errW_some] <;> rfl) | (simp [*, errW_none, errW_some] <;> rfl), by repeat (first | (with_reducible first | exact HB.out | apply below_alloc | apply pw_below_drewN | apply below_drew1 | refine below_set ?_ GE140.out) | exact HB.out)⟩
      · replace c27 := Bool.eq_false_iff.mpr c27
        subst c27
        have H1 : ((levels_Colons.f t133 t136 1 0 99).bind fun t144 => ((quarryref00_SameInts.f kj1 t144 (([4, 15] : List Int))).bind fun t150 => (if t150 = true then ((levels_Commas.f t133 t136 2 0 99).bind fun t151 => ((quarryref00_SameInts.f kj1 t151 (([7] : List Int))).bind fun t157 => (some t157))) else (some false)))) = some r := by rw [if_neg (show ¬ (false = true) by decide)] at H; exact H
        clear H
        have H := H1
        clear H1
        replace H := Option.bind_eq_some_iff.mp H
        obtain ⟨t144, A280, H⟩ := H
        replace H : ((quarryref00_SameInts.f kj1 t144 (([4, 15] : List Int))).bind fun t150 => (if t150 = true then ((levels_Commas.f t133 t136 2 0 99).bind fun t151 => ((quarryref00_SameInts.f kj1 t151 (([7] : List Int))).bind fun t157 => (some t157))) else (some false))) = some r := H
        have A28 := Aside0.mk A280
        clear A280
        obtain ⟨y147, hy147⟩ : ∃ y_ : List Int, y_ = (([4, 15] : List Int)) := ⟨_, rfl⟩
        replace H : ((quarryref00_SameInts.f kj1 t144 y147).bind fun t150 => (if t150 = true then ((levels_Commas.f t133 t136 2 0 99).bind fun t151 => ((quarryref00_SameInts.f kj1 t151 (([7] : List Int))).bind fun t157 => (some t157))) else (some false))) = some r := by first | (rw [hy147]; with_reducible exact H) | (have H2_ := (Option.bind_some _ _).symm.trans H; rw [hy147]; with_reducible exact H2_) | (have H2_ := (Option.bind_some _ _).symm.trans H; with_reducible exact H2_) | with_reducible exact H | (rw [hy147]; exact H) | exact H
        have Ny147 := Aside0.mk hy147
        clear hy147
        replace H := Option.bind_eq_some_iff.mp H
        obtain ⟨t150, A290, H⟩ := H
        replace H : (if t150 = true then ((levels_Commas.f t133 t136 2 0 99).bind fun t151 => ((quarryref00_SameInts.f kj1 t151 (([7] : List Int))).bind fun t157 => (some t157))) else (some false)) = some r := H
        have A29 := Aside0.mk A290
        clear A290
        by_cases c30 : t150 = true
        · subst c30
          have H1 : ((levels_Commas.f t133 t136 2 0 99).bind fun t151 => ((quarryref00_SameInts.f kj1 t151 (([7] : List Int))).bind fun t157 => (some t157))) = some r := by rw [if_pos rfl] at H; exact H
          clear H
          have H := H1
          clear H1
          replace H := Option.bind_eq_some_iff.mp H
          obtain ⟨t151, A310, H⟩ := H
          replace H : ((quarryref00_SameInts.f kj1 t151 (([7] : List Int))).bind fun t157 => (some t157)) = some r := H
          have A31 := Aside0.mk A310
          clear A310
          obtain ⟨y154, hy154⟩ : ∃ y_ : List Int, y_ = (([7] : List Int)) := ⟨_, rfl⟩
          replace H : ((quarryref00_SameInts.f kj1 t151 y154).bind fun t157 => (some t157)) = some r := by first | (rw [hy154]; with_reducible exact H) | (have H2_ := (Option.bind_some _ _).symm.trans H; rw [hy154]; with_reducible exact H2_) | (have H2_ := (Option.bind_some _ _).symm.trans H; with_reducible exact H2_) | with_reducible exact H | (rw [hy154]; exact H) | exact H
          have Ny154 := Aside0.mk hy154
          clear hy154
          replace H := Option.bind_eq_some_iff.mp H
          obtain ⟨t157, A320, H⟩ := H
          replace H : (some t157) = some r := H
          have A32 := Aside0.mk A320
          clear A320
          obtain rfl := Option.some.inj H
          have hcz33_0 : wc.cell? ⟨gb140, 0, none⟩ = some (.slice Ao5 t133.length co5) := (blk_cell BK140.out 0).trans rfl
          have hcz33_1 : wc.cell? ⟨gb140, 1, none⟩ = some (.slice Ao7 t136.length co7) := (blk_cell BK140.out 1).trans rfl
          have hfz33_0 := blk_frozen BK140.out 0
          have hfz33_1 := blk_frozen BK140.out 1
          go_wp2_with (first | ((with_reducible refine gate_callee (f := 33) rfl ?_); refine goesL_ (some 35) rfl rfl Tryd.func33 (by kernel_rfl) rfl #[.agg #[.slice Ao5 t133.length co5, .slice Ao7 t136.length co7], .int .i64 1, .agg #[.int .i64 0, .int .i64 99]] rfl (by (try simp only [List.map_toArray, List.map_cons, List.map_nil]); first | done | rfl | (simp only [List.length_drop, List.length_take]; rfl)) ?_; (with_reducible refine (levels_Colons.calls _ _ t133 _ _ t136 1 0 99 t144 _ ?tabk ?side1 ?side2 ?side3 ?side4 A28.out).mono ?_); (case tabk => exact TK_.out.step (by repeat (first | (with_reducible first | exact HB.out | apply below_alloc | apply pw_below_drewN | apply below_drew1 | refine below_set ?_ GE140.out) | exact HB.out))); (case side1 => repeat (first | exact (Kd.S_reads' HO_141000.out).2.2 | (with_reducible refine Kd.C_alloc ?_ _) | (with_reducible refine Kd.C_drewN ?_ _) | (with_reducible refine Kd.C_drew ?_))); (case side2 => exact (Kd.S_reads' HO_141000.out).2.1); (case side3 => repeat (first | exact (Kd.S_reads' HO_141001.out).2.2 | (with_reducible refine Kd.C_alloc ?_ _) | (with_reducible refine Kd.C_drewN ?_ _) | (with_reducible refine Kd.C_drew ?_))); (case side4 => exact (Kd.S_reads' HO_141001.out).2.1); rintro e w34 ⟨v145, rfl, ho0, hb⟩; refine ⟨_, rfl, ?_⟩; have n0_ := Aside0.mk (Kd.S_below (by (with_reducible repeat (first | apply Kd.S_alloc | apply Kd.S_drewN | apply Kd.S_drew)); exact HO_141000.out) hb); have n1_ := Aside0.mk (Kd.S_below (by (with_reducible repeat (first | apply Kd.S_alloc | apply Kd.S_drewN | apply Kd.S_drew)); exact HO_141001.out) hb); have n2_ := Aside0.mk (Kd.R_lower ho0 (below_size (by repeat (first | (with_reducible first | exact HB.out | apply below_alloc | apply pw_below_drewN | apply below_drew1 | refine below_set ?_ GE140.out) | exact HB.out)))); have n3_ := Aside0.mk (blk_below (g := gb140) (o := .cells #[.slice Ao5 t133.length co5, .slice Ao7 t136.length co7] 48 (0, 0)) (by (with_reducible repeat (first | refine blk_drewN ?_ _ | refine blk_drew ?_ | refine blk_alloc ?_ _)); exact BK140.out) hb); have n4_ := Aside0.mk (below_step (by repeat (first | (with_reducible first | exact HB.out | apply below_alloc | apply pw_below_drewN | apply below_drew1 | refine below_set ?_ GE140.out) | exact HB.out)) hb); clear HO_141000; clear HO_141001; clear BK140; clear HB; have HO_141000 := n0_; have HO_141001 := n1_; have HO146 := n2_; have BK140 := n3_; have HB := n4_; clear n0_ n1_ n2_ n3_ n4_; (try clear hb); (try clear hb2); (try clear hk); (try clear hi); (try clear ho0)) | ((with_reducible refine gate_dst (N := 36) rfl ?_); (try (refine gate_guard (by rfl) ?_; dsimp only)); refine Kd.R_lit (Kd.int .i64) _ 3 ?hg (N := 36) ?hd (xs := ([4, 15] : List Int)) (inner := [.int .i64 4, .int .i64 15]) (ok := fun _ => True) (okp := fun _ => True) ?hr ?hp (fun _ hk => hk) trivial (Below.refl _ _) (Nat.le_refl _) (by simp) ?_; (case hd => rfl); (case hg => rfl); (case hr => first | (go_simp; done) | (go_simp; rfl)); (case hp => exact (Reps.one (show Kd.M (Kd.int .i64) _ _ _ 4 [.int .i64 4] from rfl) (Reps.one (show Kd.M (Kd.int .i64) _ _ _ 15 [.int .i64 15] from rfl) (Reps.none _ _)))); intro v148 w35 ho36 hb hg_ hnew_; clear hg_ hnew_; (first | rw [← Ny147.out] at ho36 | (simp only [Int.reduceToNat] at ho36; rw [← Ny147.out] at ho36)); have n0_ := Aside0.mk (Kd.S_below (by (with_reducible repeat (first | apply Kd.S_alloc | apply Kd.S_drewN | apply Kd.S_drew)); exact HO_141000.out) hb); have n1_ := Aside0.mk (Kd.S_below (by (with_reducible repeat (first | apply Kd.S_alloc | apply Kd.S_drewN | apply Kd.S_drew)); exact HO_141001.out) hb); have n2_ := Aside0.mk (Kd.R_elder' (by (with_reducible repeat (first | apply Kd.R_alloc | apply Kd.R_drewN | apply Kd.R_drew)); exact HO146.out) (Kd.R_base ho36) hb); have n3_ := Aside0.mk (Kd.R_lower (Kd.R_new' ho36 (Kd.R_lt (by (with_reducible repeat (first | apply Kd.R_alloc | apply Kd.R_drewN | apply Kd.R_drew)); exact HO146.out))) (below_size (by repeat (first | (with_reducible first | exact HB.out | apply below_alloc | apply pw_below_drewN | apply below_drew1 | refine below_set ?_ GE140.out) | exact HB.out)))); have n4_ := Aside0.mk (blk_below (g := gb140) (o := .cells #[.slice Ao5 t133.length co5, .slice Ao7 t136.length co7] 48 (0, 0)) (by (with_reducible repeat (first | refine blk_drewN ?_ _ | refine blk_drew ?_ | refine blk_alloc ?_ _)); exact BK140.out) hb); have n5_ := Aside0.mk (below_step (by repeat (first | (with_reducible first | exact HB.out | apply below_alloc | apply pw_below_drewN | apply below_drew1 | refine below_set ?_ GE140.out) | exact HB.out)) hb); clear HO_141000; clear HO_141001; clear HO146; clear BK140; clear HB; have HO_141000 := n0_; have HO_141001 := n1_; have HO146 := n2_; have HO149 := n3_; have BK140 := n4_; have HB := n5_; clear n0_ n1_ n2_ n3_ n4_ n5_; clear hb ho36; obtain ⟨Ao37, co37, eo37⟩ := Kd.R_slice HO146.out; subst eo37; obtain ⟨Ao38, co38, eo38⟩ := Kd.R_slice HO149.out; subst eo38) | ((with_reducible refine gate_callee (f := 25) rfl ?_); refine goesL_ (some 37) rfl rfl Tryd.func25 (by kernel_rfl) rfl #[.slice Ao37 t144.length co37, .slice Ao38 y147.length co38] rfl (by (try simp only [List.map_toArray, List.map_cons, List.map_nil]); first | done | rfl | (simp only [List.length_drop, List.length_take]; rfl)) ?_; (with_reducible refine (quarryref00_SameInts.calls kj1 _ _ t144 _ _ y147 true _ ?side1 ?side2 ?side3 ?side4 A29.out).mono ?_); (case side1 => repeat (first | exact (Kd.R_reads' HO146.out).2.2 | (with_reducible refine Kd.C_alloc ?_ _) | (with_reducible refine Kd.C_drewN ?_ _) | (with_reducible refine Kd.C_drew ?_))); (case side2 => exact (Kd.R_reads' HO146.out).2.1); (case side3 => repeat (first | exact (Kd.R_reads' HO149.out).2.2 | (with_reducible refine Kd.C_alloc ?_ _) | (with_reducible refine Kd.C_drewN ?_ _) | (with_reducible refine Kd.C_drew ?_))); (case side4 => exact (Kd.R_reads' HO149.out).2.1); rintro e w' ⟨rfl, ⟨nd, rfl⟩⟩; refine ⟨_, rfl, ?_⟩; have hcz39_0 : w35.cell? ⟨gb140, 0, none⟩ = some (.slice Ao5 t133.length co5) := (blk_cell BK140.out 0).trans rfl; have hcz39_1 : w35.cell? ⟨gb140, 1, none⟩ = some (.slice Ao7 t136.length co7) := (blk_cell BK140.out 1).trans rfl; have hfz39_0 := blk_frozen BK140.out 0; have hfz39_1 := blk_frozen BK140.out 1) | (go_at_call 34; (with_reducible refine (levels_Commas.calls _ _ t133 _ _ t136 2 0 99 t151 _ ?tabk ?side1 ?side2 ?side3 ?side4 A31.out).mono ?_); (case tabk => exact TK_.out.step (by repeat (first | (with_reducible first | exact HB.out | apply below_alloc | apply pw_below_drewN | apply below_drew1 | refine below_set ?_ GE140.out) | exact HB.out))); (case side1 => repeat (first | exact (Kd.S_reads' HO_141000.out).2.2 | (with_reducible refine Kd.C_alloc ?_ _) | (with_reducible refine Kd.C_drewN ?_ _) | (with_reducible refine Kd.C_drew ?_))); (case side2 => exact (Kd.S_reads' HO_141000.out).2.1); (case side3 => repeat (first | exact (Kd.S_reads' HO_141001.out).2.2 | (with_reducible refine Kd.C_alloc ?_ _) | (with_reducible refine Kd.C_drewN ?_ _) | (with_reducible refine Kd.C_drew ?_))); (case side4 => exact (Kd.S_reads' HO_141001.out).2.1); rintro e w40 ⟨v152, rfl, ho0, hb⟩; have n0_ := Aside0.mk (Kd.S_below (by (with_reducible repeat (first | apply Kd.S_alloc | apply Kd.S_drewN | apply Kd.S_drew)); exact HO_141000.out) hb); have n1_ := Aside0.mk (Kd.S_below (by (with_reducible repeat (first | apply Kd.S_alloc | apply Kd.S_drewN | apply Kd.S_drew)); exact HO_141001.out) hb); have n2_ := Aside0.mk (Kd.R_elder' (by (with_reducible repeat (first | apply Kd.R_alloc | apply Kd.R_drewN | apply Kd.R_drew)); exact HO146.out) (Kd.R_base ho0) hb); have n3_ := Aside0.mk (Kd.R_elder' (by (with_reducible repeat (first | apply Kd.R_alloc | apply Kd.R_drewN | apply Kd.R_drew)); exact HO149.out) (Kd.R_base ho0) hb); have n4_ := Aside0.mk (Kd.R_lower (Kd.R_new' (Kd.R_new' ho0 (Kd.R_lt (by (with_reducible repeat (first | apply Kd.R_alloc | apply Kd.R_drewN | apply Kd.R_drew)); exact HO146.out))) (Kd.R_lt (by (with_reducible repeat (first | apply Kd.R_alloc | apply Kd.R_drewN | apply Kd.R_drew)); exact HO149.out))) (below_size (by repeat (first | (with_reducible first | exact HB.out | apply below_alloc | apply pw_below_drewN | apply below_drew1 | refine below_set ?_ GE140.out) | exact HB.out)))); have n5_ := Aside0.mk (blk_below (g := gb140) (o := .cells #[.slice Ao5 t133.length co5, .slice Ao7 t136.length co7] 48 (0, 0)) (by (with_reducible repeat (first | refine blk_drewN ?_ _ | refine blk_drew ?_ | refine blk_alloc ?_ _)); exact BK140.out) hb); have n6_ := Aside0.mk (below_step (by repeat (first | (with_reducible first | exact HB.out | apply below_alloc | apply pw_below_drewN | apply below_drew1 | refine below_set ?_ GE140.out) | exact HB.out)) hb); clear HO_141000; clear HO_141001; clear HO146; clear HO149; clear BK140; clear HB; have HO_141000 := n0_; have HO_141001 := n1_; have HO146 := n2_; have HO149 := n3_; have HO153 := n4_; have BK140 := n5_; have HB := n6_; clear n0_ n1_ n2_ n3_ n4_ n5_ n6_; (try clear hb); (try clear hb2); (try clear hk); (try clear hi); (try clear ho0)) | ((with_reducible refine gate_dst (N := 42) rfl ?_); (try (refine gate_guard (by rfl) ?_; dsimp only)); refine Kd.R_lit (Kd.int .i64) _ 3 ?hg (N := 42) ?hd (xs := ([7] : List Int)) (inner := [.int .i64 7]) (ok := fun _ => True) (okp := fun _ => True) ?hr ?hp (fun _ hk => hk) trivial (Below.refl _ _) (Nat.le_refl _) (by simp) ?_; (case hd => rfl); (case hg => rfl); (case hr => first | (go_simp; done) | (go_simp; rfl)); (case hp => exact (Reps.one (show Kd.M (Kd.int .i64) _ _ _ 7 [.int .i64 7] from rfl) (Reps.none _ _))); intro v155 w41 ho42 hb hg_ hnew_; clear hg_ hnew_; (first | rw [← Ny154.out] at ho42 | (simp only [Int.reduceToNat] at ho42; rw [← Ny154.out] at ho42)); have n0_ := Aside0.mk (Kd.S_below (by (with_reducible repeat (first | apply Kd.S_alloc | apply Kd.S_drewN | apply Kd.S_drew)); exact HO_141000.out) hb); have n1_ := Aside0.mk (Kd.S_below (by (with_reducible repeat (first | apply Kd.S_alloc | apply Kd.S_drewN | apply Kd.S_drew)); exact HO_141001.out) hb); have n2_ := Aside0.mk (Kd.R_elder' (by (with_reducible repeat (first | apply Kd.R_alloc | apply Kd.R_drewN | apply Kd.R_drew)); exact HO146.out) (Kd.R_base ho42) hb); have n3_ := Aside0.mk (Kd.R_elder' (by (with_reducible repeat (first | apply Kd.R_alloc | apply Kd.R_drewN | apply Kd.R_drew)); exact HO149.out) (Kd.R_base ho42) hb); have n4_ := Aside0.mk (Kd.R_elder' (by (with_reducible repeat (first | apply Kd.R_alloc | apply Kd.R_drewN | apply Kd.R_drew)); exact HO153.out) (Kd.R_base ho42) hb); have n5_ := Aside0.mk (Kd.R_lower (Kd.R_new' (Kd.R_new' (Kd.R_new' ho42 (Kd.R_lt (by (with_reducible repeat (first | apply Kd.R_alloc | apply Kd.R_drewN | apply Kd.R_drew)); exact HO146.out))) (Kd.R_lt (by (with_reducible repeat (first | apply Kd.R_alloc | apply Kd.R_drewN | apply Kd.R_drew)); exact HO149.out))) (Kd.R_lt (by (with_reducible repeat (first | apply Kd.R_alloc | apply Kd.R_drewN | apply Kd.R_drew)); exact HO153.out))) (below_size (by repeat (first | (with_reducible first | exact HB.out | apply below_alloc | apply pw_below_drewN | apply below_drew1 | refine below_set ?_ GE140.out) | exact HB.out)))); have n6_ := Aside0.mk (blk_below (g := gb140) (o := .cells #[.slice Ao5 t133.length co5, .slice Ao7 t136.length co7] 48 (0, 0)) (by (with_reducible repeat (first | refine blk_drewN ?_ _ | refine blk_drew ?_ | refine blk_alloc ?_ _)); exact BK140.out) hb); have n7_ := Aside0.mk (below_step (by repeat (first | (with_reducible first | exact HB.out | apply below_alloc | apply pw_below_drewN | apply below_drew1 | refine below_set ?_ GE140.out) | exact HB.out)) hb); clear HO_141000; clear HO_141001; clear HO146; clear HO149; clear HO153; clear BK140; clear HB; have HO_141000 := n0_; have HO_141001 := n1_; have HO146 := n2_; have HO149 := n3_; have HO153 := n4_; have HO156 := n5_; have BK140 := n6_; have HB := n7_; clear n0_ n1_ n2_ n3_ n4_ n5_ n6_ n7_; clear hb ho42; obtain ⟨Ao43, co43, eo43⟩ := Kd.R_slice HO153.out; subst eo43; obtain ⟨Ao44, co44, eo44⟩ := Kd.R_slice HO156.out; subst eo44) | (go_at_call 25; (with_reducible refine (quarryref00_SameInts.calls kj1 _ _ t151 _ _ y154 t157 _ ?side1 ?side2 ?side3 ?side4 A32.out).mono ?_); (case side1 => repeat (first | exact (Kd.R_reads' HO153.out).2.2 | (with_reducible refine Kd.C_alloc ?_ _) | (with_reducible refine Kd.C_drewN ?_ _) | (with_reducible refine Kd.C_drew ?_))); (case side2 => exact (Kd.R_reads' HO153.out).2.1); (case side3 => repeat (first | exact (Kd.R_reads' HO156.out).2.2 | (with_reducible refine Kd.C_alloc ?_ _) | (with_reducible refine Kd.C_drewN ?_ _) | (with_reducible refine Kd.C_drew ?_))); (case side4 => exact (Kd.R_reads' HO156.out).2.1); rintro e w' ⟨rfl, ⟨nd, rfl⟩⟩))
          go_ret
          exact ⟨by first | rfl | (simp [errW_none, errW_some] <;> rfl) | (simp [*, errW_none, errW_some] <;> rfl), by repeat (first | (with_reducible first | exact HB.out | apply below_alloc | apply pw_below_drewN | apply below_drew1 | refine below_set ?_ GE140.out) | exact HB.out)⟩
        · replace c30 := Bool.eq_false_iff.mpr c30
          subst c30
          have H1 : (some false) = some r := by rw [if_neg (show ¬ (false = true) by decide)] at H; exact H
          clear H
          have H := H1
          clear H1
          obtain rfl := Option.some.inj H
          have hcz45_0 : wc.cell? ⟨gb140, 0, none⟩ = some (.slice Ao5 t133.length co5) := (blk_cell BK140.out 0).trans rfl
          have hcz45_1 : wc.cell? ⟨gb140, 1, none⟩ = some (.slice Ao7 t136.length co7) := (blk_cell BK140.out 1).trans rfl
          have hfz45_0 := blk_frozen BK140.out 0
          have hfz45_1 := blk_frozen BK140.out 1
          go_wp2_with (first | ((with_reducible refine gate_callee (f := 33) rfl ?_); refine goesL_ (some 35) rfl rfl Tryd.func33 (by kernel_rfl) rfl #[.agg #[.slice Ao5 t133.length co5, .slice Ao7 t136.length co7], .int .i64 1, .agg #[.int .i64 0, .int .i64 99]] rfl (by (try simp only [List.map_toArray, List.map_cons, List.map_nil]); first | done | rfl | (simp only [List.length_drop, List.length_take]; rfl)) ?_; (with_reducible refine (levels_Colons.calls _ _ t133 _ _ t136 1 0 99 t144 _ ?tabk ?side1 ?side2 ?side3 ?side4 A28.out).mono ?_); (case tabk => exact TK_.out.step (by repeat (first | (with_reducible first | exact HB.out | apply below_alloc | apply pw_below_drewN | apply below_drew1 | refine below_set ?_ GE140.out) | exact HB.out))); (case side1 => repeat (first | exact (Kd.S_reads' HO_141000.out).2.2 | (with_reducible refine Kd.C_alloc ?_ _) | (with_reducible refine Kd.C_drewN ?_ _) | (with_reducible refine Kd.C_drew ?_))); (case side2 => exact (Kd.S_reads' HO_141000.out).2.1); (case side3 => repeat (first | exact (Kd.S_reads' HO_141001.out).2.2 | (with_reducible refine Kd.C_alloc ?_ _) | (with_reducible refine Kd.C_drewN ?_ _) | (with_reducible refine Kd.C_drew ?_))); (case side4 => exact (Kd.S_reads' HO_141001.out).2.1); rintro e w46 ⟨v145, rfl, ho0, hb⟩; refine ⟨_, rfl, ?_⟩; have n0_ := Aside0.mk (Kd.S_below (by (with_reducible repeat (first | apply Kd.S_alloc | apply Kd.S_drewN | apply Kd.S_drew)); exact HO_141000.out) hb); have n1_ := Aside0.mk (Kd.S_below (by (with_reducible repeat (first | apply Kd.S_alloc | apply Kd.S_drewN | apply Kd.S_drew)); exact HO_141001.out) hb); have n2_ := Aside0.mk (Kd.R_lower ho0 (below_size (by repeat (first | (with_reducible first | exact HB.out | apply below_alloc | apply pw_below_drewN | apply below_drew1 | refine below_set ?_ GE140.out) | exact HB.out)))); have n3_ := Aside0.mk (blk_below (g := gb140) (o := .cells #[.slice Ao5 t133.length co5, .slice Ao7 t136.length co7] 48 (0, 0)) (by (with_reducible repeat (first | refine blk_drewN ?_ _ | refine blk_drew ?_ | refine blk_alloc ?_ _)); exact BK140.out) hb); have n4_ := Aside0.mk (below_step (by repeat (first | (with_reducible first | exact HB.out | apply below_alloc | apply pw_below_drewN | apply below_drew1 | refine below_set ?_ GE140.out) | exact HB.out)) hb); clear HO_141000; clear HO_141001; clear BK140; clear HB; have HO_141000 := n0_; have HO_141001 := n1_; have HO146 := n2_; have BK140 := n3_; have HB := n4_; clear n0_ n1_ n2_ n3_ n4_; (try clear hb); (try clear hb2); (try clear hk); (try clear hi); (try clear ho0)) | ((with_reducible refine gate_dst (N := 36) rfl ?_); (try (refine gate_guard (by rfl) ?_; dsimp only)); refine Kd.R_lit (Kd.int .i64) _ 3 ?hg (N := 36) ?hd (xs := ([4, 15] : List Int)) (inner := [.int .i64 4, .int .i64 15]) (ok := fun _ => True) (okp := fun _ => True) ?hr ?hp (fun _ hk => hk) trivial (Below.refl _ _) (Nat.le_refl _) (by simp) ?_; (case hd => rfl); (case hg => rfl); (case hr => first | (go_simp; done) | (go_simp; rfl)); (case hp => exact (Reps.one (show Kd.M (Kd.int .i64) _ _ _ 4 [.int .i64 4] from rfl) (Reps.one (show Kd.M (Kd.int .i64) _ _ _ 15 [.int .i64 15] from rfl) (Reps.none _ _)))); intro v148 w47 ho48 hb hg_ hnew_; clear hg_ hnew_; (first | rw [← Ny147.out] at ho48 | (simp only [Int.reduceToNat] at ho48; rw [← Ny147.out] at ho48)); have n0_ := Aside0.mk (Kd.S_below (by (with_reducible repeat (first | apply Kd.S_alloc | apply Kd.S_drewN | apply Kd.S_drew)); exact HO_141000.out) hb); have n1_ := Aside0.mk (Kd.S_below (by (with_reducible repeat (first | apply Kd.S_alloc | apply Kd.S_drewN | apply Kd.S_drew)); exact HO_141001.out) hb); have n2_ := Aside0.mk (Kd.R_elder' (by (with_reducible repeat (first | apply Kd.R_alloc | apply Kd.R_drewN | apply Kd.R_drew)); exact HO146.out) (Kd.R_base ho48) hb); have n3_ := Aside0.mk (Kd.R_lower (Kd.R_new' ho48 (Kd.R_lt (by (with_reducible repeat (first | apply Kd.R_alloc | apply Kd.R_drewN | apply Kd.R_drew)); exact HO146.out))) (below_size (by repeat (first | (with_reducible first | exact HB.out | apply below_alloc | apply pw_below_drewN | apply below_drew1 | refine below_set ?_ GE140.out) | exact HB.out)))); have n4_ := Aside0.mk (blk_below (g := gb140) (o := .cells #[.slice Ao5 t133.length co5, .slice Ao7 t136.length co7] 48 (0, 0)) (by (with_reducible repeat (first | refine blk_drewN ?_ _ | refine blk_drew ?_ | refine blk_alloc ?_ _)); exact BK140.out) hb); have n5_ := Aside0.mk (below_step (by repeat (first | (with_reducible first | exact HB.out | apply below_alloc | apply pw_below_drewN | apply below_drew1 | refine below_set ?_ GE140.out) | exact HB.out)) hb); clear HO_141000; clear HO_141001; clear HO146; clear BK140; clear HB; have HO_141000 := n0_; have HO_141001 := n1_; have HO146 := n2_; have HO149 := n3_; have BK140 := n4_; have HB := n5_; clear n0_ n1_ n2_ n3_ n4_ n5_; clear hb ho48; obtain ⟨Ao49, co49, eo49⟩ := Kd.R_slice HO146.out; subst eo49; obtain ⟨Ao50, co50, eo50⟩ := Kd.R_slice HO149.out; subst eo50) | ((with_reducible refine gate_callee (f := 25) rfl ?_); refine goesL_ (some 37) rfl rfl Tryd.func25 (by kernel_rfl) rfl #[.slice Ao49 t144.length co49, .slice Ao50 y147.length co50] rfl (by (try simp only [List.map_toArray, List.map_cons, List.map_nil]); first | done | rfl | (simp only [List.length_drop, List.length_take]; rfl)) ?_; (with_reducible refine (quarryref00_SameInts.calls kj1 _ _ t144 _ _ y147 false _ ?side1 ?side2 ?side3 ?side4 A29.out).mono ?_); (case side1 => repeat (first | exact (Kd.R_reads' HO146.out).2.2 | (with_reducible refine Kd.C_alloc ?_ _) | (with_reducible refine Kd.C_drewN ?_ _) | (with_reducible refine Kd.C_drew ?_))); (case side2 => exact (Kd.R_reads' HO146.out).2.1); (case side3 => repeat (first | exact (Kd.R_reads' HO149.out).2.2 | (with_reducible refine Kd.C_alloc ?_ _) | (with_reducible refine Kd.C_drewN ?_ _) | (with_reducible refine Kd.C_drew ?_))); (case side4 => exact (Kd.R_reads' HO149.out).2.1); rintro e w' ⟨rfl, ⟨nd, rfl⟩⟩; refine ⟨_, rfl, ?_⟩))
          go_ret
          exact ⟨by first | rfl | (simp [errW_none, errW_some] <;> rfl) | (simp [*, errW_none, errW_some] <;> rfl), by repeat (first | (with_reducible first | exact HB.out | apply below_alloc | apply pw_below_drewN | apply below_drew1 | refine below_set ?_ GE140.out) | exact HB.out)⟩

end Go.Proofs.YtgddljealeklkaaDoor.PL
end
