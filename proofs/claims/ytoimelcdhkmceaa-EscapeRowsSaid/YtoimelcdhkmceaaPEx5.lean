-- Written by a program (myprint.py, over the kit's print) for this claim. Not trusted: Lean checks it.
import Derived.Test.YtoimelcdhkmceaaPEx0
import Derived.Test.YtoimelcdhkmceaaPEx1
import Derived.Test.YtoimelcdhkmceaaPEx4
namespace Go.Proofs.Ytoimelcdhkmceaa.PE
open Go.RowKit Go.Proofs.YtoimelcdhkmceaaW.PrintWords Go.Proofs.YtoimelcdhkmceaaW.PrintLast Go.Proofs.YtoimelcdhkmceaaW.PrintMore
attribute [local go_sem] max2_int min2_int max_two min_two max_three min_three max_four min_four   -- for this text's walks alone
set_option linter.unusedVariables false
set_option linter.unusedSimpArgs false

/-! ### quarrylaw06_EscapeRows: function 14 -/
mutual
def quarrylaw06_EscapeRows.j0 : Nat → ByteArray → Option (Bool)
  | 0, _ => none
  | k + 1, x0 => (escape_Escaped.f x0).bind fun bt159 => (if bt159.1 = (x0.size : Int) then ((bitmap_Formed.f bt159.1 bt159.2).bind fun t164 => (quarrylaw06_EscapeRows.j1 k x0 (!t164) bt159.1 bt159.2)) else (quarrylaw06_EscapeRows.j1 k x0 true bt159.1 bt159.2))
def quarrylaw06_EscapeRows.j1 : Nat → ByteArray → Bool → Int → List Int → Option (Bool)
  | 0, _, _, _, _ => none
  | k + 1, x0, x26, x164000, x164001 => if x26 = true then (some false) else (quarrylaw06_EscapeRows.l0 k x0 0 x164000 x164001)
def quarrylaw06_EscapeRows.l0 : Nat → ByteArray → Int → Int → List Int → Option (Bool)
  | 0, _, _, _, _ => none
  | k + 1, x0, x4, x164000, x164001 => if x4 < (x0.size : Int) then ((escape_Odd.f k x0 x4).bind fun bt169 => ((bitmap_Get.f x164000 x164001 x4).bind fun t171 => (if (t171 != bt169.2) = true then (quarrylaw06_EscapeRows.j3 k x0 x4 bt169.1 bt169.2 true x164000 x164001) else (if bt169.1 < 0 then (quarrylaw06_EscapeRows.j3 k x0 x4 bt169.1 bt169.2 true x164000 x164001) else (if bt169.1 > x4 then (quarrylaw06_EscapeRows.j3 k x0 x4 bt169.1 bt169.2 true x164000 x164001) else (quarrylaw06_EscapeRows.j3 k x0 x4 bt169.1 bt169.2 (bt169.2 != ((Int.tmod (wrap64 (x4 - bt169.1)) 2) == 1)) x164000 x164001)))))) else ((escape_Odd.f k x0 (x0.size : Int)).bind fun bt165 => ((escape_Behind.f k x0 false).bind fun t167 => (if (t167 == bt165.2) = true then ((escape_Behind.f k (⟨#[92]⟩ : ByteArray) false).bind fun t168 => (some t168)) else (some false))))
def quarrylaw06_EscapeRows.j3 : Nat → ByteArray → Int → Int → Bool → Bool → Int → List Int → Option (Bool)
  | 0, _, _, _, _, _, _, _ => none
  | k + 1, x0, x4, x5, x6, x61, x164000, x164001 => if x61 = true then (some false) else (quarrylaw06_EscapeRows.l1 k x0 x4 x5 x6 x5 x164000 x164001)
def quarrylaw06_EscapeRows.l1 : Nat → ByteArray → Int → Int → Bool → Int → Int → List Int → Option (Bool)
  | 0, _, _, _, _, _, _, _ => none
  | k + 1, x0, x4, x5, x6, x7, x164000, x164001 => if x7 < x4 then (if 0 ≤ x7 then (if x7 < (x0.size : Int) then (if (bt x0 x7) = 92 then (quarrylaw06_EscapeRows.l1 k x0 x4 x5 x6 (wrap64 (x7 + 1)) x164000 x164001) else (some false)) else (none)) else (none)) else (if x5 > 0 then (if 0 ≤ (wrap64 (x5 - 1)) then (if (wrap64 (x5 - 1)) < (x0.size : Int) then (quarrylaw06_EscapeRows.j5 k x0 x4 x6 ((bt x0 (wrap64 (x5 - 1))) == 92) x164000 x164001) else (none)) else (none)) else (quarrylaw06_EscapeRows.j5 k x0 x4 x6 false x164000 x164001))
def quarrylaw06_EscapeRows.j5 : Nat → ByteArray → Int → Bool → Bool → Int → List Int → Option (Bool)
  | 0, _, _, _, _, _, _ => none
  | k + 1, x0, x4, x6, x80, x164000, x164001 => if x80 = true then (some false) else (if x6 = true then (if 0 ≤ (wrap64 (x4 - 1)) then (if (wrap64 (x4 - 1)) < (x0.size : Int) then (if (bt x0 (wrap64 (x4 - 1))) = 92 then ((bitmap_Get.f x164000 x164001 (wrap64 (x4 - 1))).bind fun t172 => (if t172 = true then (some false) else (quarrylaw06_EscapeRows.l0 k x0 (wrap64 (x4 + 1)) x164000 x164001))) else (some false)) else (none)) else (none)) else (quarrylaw06_EscapeRows.l0 k x0 (wrap64 (x4 + 1)) x164000 x164001))
end
def quarrylaw06_EscapeRows.f (k : Nat) (a0 : ByteArray) : Option (Bool) := if (a0.size : Int) > 16384 then (if 0 ≤ 16384 then (if 16384 ≤ (a0.size : Int) then (quarrylaw06_EscapeRows.j0 k (a0.extract 0 16384)) else (none)) else (none)) else (quarrylaw06_EscapeRows.j0 k a0)
theorem quarrylaw06_EscapeRows.mono_l : ∀ k, (∀ y0, LeO (quarrylaw06_EscapeRows.j0 k y0) (quarrylaw06_EscapeRows.j0 (k + 1) y0)) ∧ (∀ y0 y1 y2 y3, LeO (quarrylaw06_EscapeRows.j1 k y0 y1 y2 y3) (quarrylaw06_EscapeRows.j1 (k + 1) y0 y1 y2 y3)) ∧ (∀ y0 y1 y2 y3, LeO (quarrylaw06_EscapeRows.l0 k y0 y1 y2 y3) (quarrylaw06_EscapeRows.l0 (k + 1) y0 y1 y2 y3)) ∧ (∀ y0 y1 y2 y3 y4 y5 y6, LeO (quarrylaw06_EscapeRows.j3 k y0 y1 y2 y3 y4 y5 y6) (quarrylaw06_EscapeRows.j3 (k + 1) y0 y1 y2 y3 y4 y5 y6)) ∧ (∀ y0 y1 y2 y3 y4 y5 y6, LeO (quarrylaw06_EscapeRows.l1 k y0 y1 y2 y3 y4 y5 y6) (quarrylaw06_EscapeRows.l1 (k + 1) y0 y1 y2 y3 y4 y5 y6)) ∧ (∀ y0 y1 y2 y3 y4 y5, LeO (quarrylaw06_EscapeRows.j5 k y0 y1 y2 y3 y4 y5) (quarrylaw06_EscapeRows.j5 (k + 1) y0 y1 y2 y3 y4 y5))
  | 0 => ⟨fun _ r h => by simp [quarrylaw06_EscapeRows.j0] at h, fun _ _ _ _ r h => by simp [quarrylaw06_EscapeRows.j1] at h, fun _ _ _ _ r h => by simp [quarrylaw06_EscapeRows.l0] at h, fun _ _ _ _ _ _ _ r h => by simp [quarrylaw06_EscapeRows.j3] at h, fun _ _ _ _ _ _ _ r h => by simp [quarrylaw06_EscapeRows.l1] at h, fun _ _ _ _ _ _ r h => by simp [quarrylaw06_EscapeRows.j5] at h⟩
  | k + 1 => by
    obtain ⟨ih0, ih1, ih2, ih3, ih4, ih5⟩ := quarrylaw06_EscapeRows.mono_l k
    refine ⟨?_, ?_, ?_, ?_, ?_, ?_⟩
    · intro y0
      unfold quarrylaw06_EscapeRows.j0
      repeat' first
      | (with_reducible exact ih0 _)
      | (with_reducible exact ih1 _ _ _ _)
      | (with_reducible exact ih2 _ _ _ _)
      | (with_reducible exact ih3 _ _ _ _ _ _ _)
      | (with_reducible exact ih4 _ _ _ _ _ _ _)
      | (with_reducible exact ih5 _ _ _ _ _ _)
      | (with_reducible exact escape_Behind.mono _ _ _)
      | (with_reducible exact escape_Odd.mono _ _ _)
      | (with_reducible exact LeO.refl _)
      | (with_reducible exact LeO.none _)
      | (with_reducible refine LeO.ite ?_ ?_)
      | (with_reducible refine LeO.bind ?_ (fun _ => ?_))
      | exact ih0 _
      | exact ih1 _ _ _ _
      | exact ih2 _ _ _ _
      | exact ih3 _ _ _ _ _ _ _
      | exact ih4 _ _ _ _ _ _ _
      | exact ih5 _ _ _ _ _ _
      | exact escape_Behind.mono _ _ _
      | exact escape_Odd.mono _ _ _
      | exact LeO.none _
      | refine LeO.ite ?_ ?_
      | refine LeO.bind ?_ (fun _ => ?_)
    · intro y0 y1 y2 y3
      unfold quarrylaw06_EscapeRows.j1
      repeat' first
      | (with_reducible exact ih0 _)
      | (with_reducible exact ih1 _ _ _ _)
      | (with_reducible exact ih2 _ _ _ _)
      | (with_reducible exact ih3 _ _ _ _ _ _ _)
      | (with_reducible exact ih4 _ _ _ _ _ _ _)
      | (with_reducible exact ih5 _ _ _ _ _ _)
      | (with_reducible exact escape_Behind.mono _ _ _)
      | (with_reducible exact escape_Odd.mono _ _ _)
      | (with_reducible exact LeO.refl _)
      | (with_reducible exact LeO.none _)
      | (with_reducible refine LeO.ite ?_ ?_)
      | (with_reducible refine LeO.bind ?_ (fun _ => ?_))
      | exact ih0 _
      | exact ih1 _ _ _ _
      | exact ih2 _ _ _ _
      | exact ih3 _ _ _ _ _ _ _
      | exact ih4 _ _ _ _ _ _ _
      | exact ih5 _ _ _ _ _ _
      | exact escape_Behind.mono _ _ _
      | exact escape_Odd.mono _ _ _
      | exact LeO.none _
      | refine LeO.ite ?_ ?_
      | refine LeO.bind ?_ (fun _ => ?_)
    · intro y0 y1 y2 y3
      unfold quarrylaw06_EscapeRows.l0
      repeat' first
      | (with_reducible exact ih0 _)
      | (with_reducible exact ih1 _ _ _ _)
      | (with_reducible exact ih2 _ _ _ _)
      | (with_reducible exact ih3 _ _ _ _ _ _ _)
      | (with_reducible exact ih4 _ _ _ _ _ _ _)
      | (with_reducible exact ih5 _ _ _ _ _ _)
      | (with_reducible exact escape_Behind.mono _ _ _)
      | (with_reducible exact escape_Odd.mono _ _ _)
      | (with_reducible exact LeO.refl _)
      | (with_reducible exact LeO.none _)
      | (with_reducible refine LeO.ite ?_ ?_)
      | (with_reducible refine LeO.bind ?_ (fun _ => ?_))
      | exact ih0 _
      | exact ih1 _ _ _ _
      | exact ih2 _ _ _ _
      | exact ih3 _ _ _ _ _ _ _
      | exact ih4 _ _ _ _ _ _ _
      | exact ih5 _ _ _ _ _ _
      | exact escape_Behind.mono _ _ _
      | exact escape_Odd.mono _ _ _
      | exact LeO.none _
      | refine LeO.ite ?_ ?_
      | refine LeO.bind ?_ (fun _ => ?_)
    · intro y0 y1 y2 y3 y4 y5 y6
      unfold quarrylaw06_EscapeRows.j3
      repeat' first
      | (with_reducible exact ih0 _)
      | (with_reducible exact ih1 _ _ _ _)
      | (with_reducible exact ih2 _ _ _ _)
      | (with_reducible exact ih3 _ _ _ _ _ _ _)
      | (with_reducible exact ih4 _ _ _ _ _ _ _)
      | (with_reducible exact ih5 _ _ _ _ _ _)
      | (with_reducible exact escape_Behind.mono _ _ _)
      | (with_reducible exact escape_Odd.mono _ _ _)
      | (with_reducible exact LeO.refl _)
      | (with_reducible exact LeO.none _)
      | (with_reducible refine LeO.ite ?_ ?_)
      | (with_reducible refine LeO.bind ?_ (fun _ => ?_))
      | exact ih0 _
      | exact ih1 _ _ _ _
      | exact ih2 _ _ _ _
      | exact ih3 _ _ _ _ _ _ _
      | exact ih4 _ _ _ _ _ _ _
      | exact ih5 _ _ _ _ _ _
      | exact escape_Behind.mono _ _ _
      | exact escape_Odd.mono _ _ _
      | exact LeO.none _
      | refine LeO.ite ?_ ?_
      | refine LeO.bind ?_ (fun _ => ?_)
    · intro y0 y1 y2 y3 y4 y5 y6
      unfold quarrylaw06_EscapeRows.l1
      repeat' first
      | (with_reducible exact ih0 _)
      | (with_reducible exact ih1 _ _ _ _)
      | (with_reducible exact ih2 _ _ _ _)
      | (with_reducible exact ih3 _ _ _ _ _ _ _)
      | (with_reducible exact ih4 _ _ _ _ _ _ _)
      | (with_reducible exact ih5 _ _ _ _ _ _)
      | (with_reducible exact escape_Behind.mono _ _ _)
      | (with_reducible exact escape_Odd.mono _ _ _)
      | (with_reducible exact LeO.refl _)
      | (with_reducible exact LeO.none _)
      | (with_reducible refine LeO.ite ?_ ?_)
      | (with_reducible refine LeO.bind ?_ (fun _ => ?_))
      | exact ih0 _
      | exact ih1 _ _ _ _
      | exact ih2 _ _ _ _
      | exact ih3 _ _ _ _ _ _ _
      | exact ih4 _ _ _ _ _ _ _
      | exact ih5 _ _ _ _ _ _
      | exact escape_Behind.mono _ _ _
      | exact escape_Odd.mono _ _ _
      | exact LeO.none _
      | refine LeO.ite ?_ ?_
      | refine LeO.bind ?_ (fun _ => ?_)
    · intro y0 y1 y2 y3 y4 y5
      unfold quarrylaw06_EscapeRows.j5
      repeat' first
      | (with_reducible exact ih0 _)
      | (with_reducible exact ih1 _ _ _ _)
      | (with_reducible exact ih2 _ _ _ _)
      | (with_reducible exact ih3 _ _ _ _ _ _ _)
      | (with_reducible exact ih4 _ _ _ _ _ _ _)
      | (with_reducible exact ih5 _ _ _ _ _ _)
      | (with_reducible exact escape_Behind.mono _ _ _)
      | (with_reducible exact escape_Odd.mono _ _ _)
      | (with_reducible exact LeO.refl _)
      | (with_reducible exact LeO.none _)
      | (with_reducible refine LeO.ite ?_ ?_)
      | (with_reducible refine LeO.bind ?_ (fun _ => ?_))
      | exact ih0 _
      | exact ih1 _ _ _ _
      | exact ih2 _ _ _ _
      | exact ih3 _ _ _ _ _ _ _
      | exact ih4 _ _ _ _ _ _ _
      | exact ih5 _ _ _ _ _ _
      | exact escape_Behind.mono _ _ _
      | exact escape_Odd.mono _ _ _
      | exact LeO.none _
      | refine LeO.ite ?_ ?_
      | refine LeO.bind ?_ (fun _ => ?_)
theorem quarrylaw06_EscapeRows.mono : ∀ a0 k, LeO (quarrylaw06_EscapeRows.f k a0) (quarrylaw06_EscapeRows.f (k + 1) a0) := by
  intro a0 k
  obtain ⟨ih0, ih1, ih2, ih3, ih4, ih5⟩ := quarrylaw06_EscapeRows.mono_l k
  unfold quarrylaw06_EscapeRows.f
  repeat' first
      | (with_reducible exact ih0 _)
      | (with_reducible exact ih1 _ _ _ _)
      | (with_reducible exact ih2 _ _ _ _)
      | (with_reducible exact ih3 _ _ _ _ _ _ _)
      | (with_reducible exact ih4 _ _ _ _ _ _ _)
      | (with_reducible exact ih5 _ _ _ _ _ _)
      | (with_reducible exact escape_Behind.mono _ _ _)
      | (with_reducible exact escape_Odd.mono _ _ _)
      | (with_reducible exact LeO.refl _)
      | (with_reducible exact LeO.none _)
      | (with_reducible refine LeO.ite ?_ ?_)
      | (with_reducible refine LeO.bind ?_ (fun _ => ?_))
      | exact ih0 _
      | exact ih1 _ _ _ _
      | exact ih2 _ _ _ _
      | exact ih3 _ _ _ _ _ _ _
      | exact ih4 _ _ _ _ _ _ _
      | exact ih5 _ _ _ _ _ _
      | exact escape_Behind.mono _ _ _
      | exact escape_Odd.mono _ _ _
      | exact LeO.none _
      | refine LeO.ite ?_ ?_
      | refine LeO.bind ?_ (fun _ => ?_)
set_option maxHeartbeats 8000000 in
set_option maxRecDepth 100000 in
theorem quarrylaw06_EscapeRows.calls (k : Nat) (a0 : ByteArray) (r : Bool) (w : World) (h : quarrylaw06_EscapeRows.f k a0 = some r) :
    Calls Try.prog 14 #[.string a0] w fun e w' => e = .returned (.bool r) ∧ Below w.heap.size w w' := by
  have hu56 := Try.underlying56
  have HB := Aside0.mk (Below.refl w.heap.size w)
  have H : (if (a0.size : Int) > 16384 then (if 0 ≤ 16384 then (if 16384 ≤ (a0.size : Int) then (quarrylaw06_EscapeRows.j0 k (a0.extract 0 16384)) else (none)) else (none)) else (quarrylaw06_EscapeRows.j0 k a0)) = some r := h
  clear h
  have HC2 := Aside0.mk H
  clear H
  go_enter Try.func14, Try.ntmps14
  go_upto_if 12 with (fail)
  go_cut [0] (fun v0 wc => ∃ (kq : Nat) (x0_1 : ByteArray), v0 = .string x0_1 ∧ Aside0 (quarrylaw06_EscapeRows.j0 kq x0_1 = some r) ∧ Aside0 (kq ≤ k) ∧ Aside0 (Below w.heap.size w wc))
  case first =>
    have H := HC2.out
    clear HC2
    by_cases c3 : (a0.size : Int) > 16384
    · rw [if_pos c3] at H
      have c3b0 : decide (16384 < (a0.size : Int)) = true := decide_eq_true c3
      have c3b1 : decide (16384 < a0.size) = true := decide_eq_true (by omega)
      clear c3
      (first | rw [c3b0] | (simp only [i64_w, i32_w]; rw [c3b0]) | skip)
      by_cases c4 : 0 ≤ 16384
      · rw [if_pos c4] at H
        have c4b0 := eq_true c4
        have c4b1 : decide (0 ≤ 16384) = true := decide_eq_true c4
        clear c4
        by_cases c5 : 16384 ≤ (a0.size : Int)
        · rw [if_pos c5] at H
          have c5b0 := eq_true c5
          have c5b1 : decide (16384 ≤ (a0.size : Int)) = true := decide_eq_true c5
          clear c5
          have H' := Aside0.mk H
          clear H
          go_wp2
          go_meet
          case rel => exact ⟨_, (a0.extract 0 16384), (by first | rfl | (simp; done) | (simp [*]; done)), H', ⟨by first | omega | exact Nat.le_refl _⟩, ⟨by repeat (first | (with_reducible first | exact HB.out | apply below_alloc | apply pw_below_drewN | apply below_drew1) | exact HB.out)⟩⟩
        · rw [if_neg c5] at H
          exact absurd H (by simp)
      · rw [if_neg c4] at H
        exact absurd H (by simp)
    · rw [if_neg c3] at H
      have c3b0 : decide (16384 < (a0.size : Int)) = false := decide_eq_false c3
      have c3b1 : decide (16384 < a0.size) = false := decide_eq_false (by omega)
      clear c3
      (first | rw [c3b0] | (simp only [i64_w, i32_w]; rw [c3b0]) | skip)
      have H' := Aside0.mk H
      clear H
      go_wp2
      go_meet
      case rel => exact ⟨_, (a0), (by first | rfl | (simp; done) | (simp [*]; done)), H', ⟨by first | omega | exact Nat.le_refl _⟩, ⟨by repeat (first | (with_reducible first | exact HB.out | apply below_alloc | apply pw_below_drewN | apply below_drew1) | exact HB.out)⟩⟩
  case rest =>
    clear HC2
    try clear c1
    try clear p2
    try clear c3
    try clear c3b0
    try clear c3b1
    try clear c4
    try clear c4b0
    try clear c4b1
    try clear c5
    try clear c5b0
    try clear c5b1
    obtain ⟨kq, x0_1, rfl, HA, HJ1, HB⟩ := hcut
    cases kq with
    | zero => exact absurd HA.out (by simp [quarrylaw06_EscapeRows.j0])
    | succ kj1 =>
      have H := HA.out
      clear HA
      simp only [quarrylaw06_EscapeRows.j0] at H
      replace H := Option.bind_eq_some_iff.mp H
      obtain ⟨⟨t159, t160⟩, A60, H⟩ := H
      replace H : (if t159 = (x0_1.size : Int) then ((bitmap_Formed.f t159 t160).bind fun t164 => (quarrylaw06_EscapeRows.j1 kj1 x0_1 (!t164) t159 t160)) else (quarrylaw06_EscapeRows.j1 kj1 x0_1 true t159 t160)) = some r := H
      have A6 := Aside0.mk A60
      clear A60
      have HC7 := Aside0.mk H
      clear H
      go_upto_region 4 with (first | ((with_reducible refine gate_callee (f := 38) rfl ?_); refine goesL_ (some 16) rfl rfl Try.func38 (by kernel_rfl) rfl #[.string x0_1] rfl (by (try simp only [List.map_toArray, List.map_cons, List.map_nil]); first | done | rfl | (simp only [List.length_drop, List.length_take]; rfl)) ?_; (with_reducible refine (escape_Escaped.calls x0_1 t159 t160 _ A6.out).mono ?_); rintro e w8 ⟨v161, rfl, ho0, hb⟩; refine ⟨_, rfl, ?_⟩; have n0_ := Aside0.mk (Kd.R_lower ho0 (below_size (by repeat (first | (with_reducible first | exact HB.out | apply below_alloc | apply pw_below_drewN | apply below_drew1) | exact HB.out)))); have n1_ := Aside0.mk (below_step (by repeat (first | (with_reducible first | exact HB.out | apply below_alloc | apply pw_below_drewN | apply below_drew1) | exact HB.out)) hb); clear HB; have HO162 := n0_; have HB := n1_; clear n0_ n1_; (try clear hb); (try clear hb2); (try clear hk); (try clear hi); (try clear ho0)) | ((with_reducible refine gate_dst (N := 3) rfl ?_); refine box_event ?hg (N := 3) ?hd (cs := #[.int .i64 0, .slice none 0 0]) (t := 56) ?hr ?_; (case hd => rfl); (case hg => rfl); (case hr => first | (go_simp; done) | (go_simp; rfl)); intro gb163 hg w9 hbox hb; have n0_ := Aside0.mk (Kd.R_below (by (with_reducible repeat (first | apply Kd.R_alloc | apply Kd.R_drewN | apply Kd.R_drew)); exact HO162.out) hb); have n1_ := Aside0.mk (below_step (by repeat (first | (with_reducible first | exact HB.out | apply below_alloc | apply pw_below_drewN | apply below_drew1) | exact HB.out)) hb); have n2_ := Aside0.mk (hbox); have n3_ := Aside0.mk ((by rw [hg]; exact (below_size (by repeat (first | (with_reducible first | exact HB.out | apply below_alloc | apply pw_below_drewN | apply below_drew1) | exact HB.out))) : w.heap.size ≤ gb163)); have n4_ := Aside0.mk ((by rw [hg]; exact (below_size (by repeat (first | (with_reducible first | exact HB.out | apply below_alloc | apply pw_below_drewN | apply below_drew1) | exact HB.out))) : w.heap.size ≤ gb163)); clear HO162; clear HB; have HO162 := n0_; have HB := n1_; have BK163 := n2_; have GW163 := n3_; have GE163 := n4_; clear n0_ n1_ n2_ n3_ n4_; clear hb hbox hg; have hcz10_0 : w9.cell? ⟨gb163, 0, none⟩ = some (.int .i64 0) := (blk_cell BK163.out 0).trans rfl; have hcz10_1 : w9.cell? ⟨gb163, 1, none⟩ = some (.slice none 0 0) := (blk_cell BK163.out 1).trans rfl; have hfz10_0 := blk_frozen BK163.out 0; have hfz10_1 := blk_frozen BK163.out 1; obtain ⟨Ao11, co11, eo11⟩ := Kd.R_slice HO162.out; subst eo11))
      (try simp only [Act.put, List.setIfInBounds_toArray, List.set_cons_zero, List.set_cons_succ])
      go_cut [26] (fun v26 wc => ∃ (kq : Nat) (x26_6 : Bool), v26 = .bool x26_6 ∧ Aside0 (quarrylaw06_EscapeRows.j1 kq x0_1 x26_6 t159 t160 = some r) ∧ Aside0 (kq ≤ kj1) ∧ Aside0 (Kd.R (Kd.int .u64) 30 wc w.heap.size (fun _ => True) (.slice Ao11 t160.length co11) t160) ∧ Aside0 (wc.heap[gb163]? = some (.cells #[.int .i64 t159, (.slice Ao11 t160.length co11)] 56 (0, 0))) ∧ Aside0 (Below w.heap.size w wc))
      case first =>
        have H := HC7.out
        clear HC7
        by_cases c12 : t159 = (x0_1.size : Int)
        · rw [if_pos c12] at H
          have c12b0 : (t159 == (x0_1.size : Int)) = true := beq_iff_eq.mpr c12
          have c12b1 : (t159 != (x0_1.size : Int)) = false := bne_eq_false_iff_eq.mpr c12
          clear c12
          (first | rw [c12b0] | (simp only [i64_w, i32_w]; rw [c12b0]) | skip)
          replace H := Option.bind_eq_some_iff.mp H
          obtain ⟨t164, A130, H⟩ := H
          replace H : (quarrylaw06_EscapeRows.j1 kj1 x0_1 (!t164) t159 t160) = some r := H
          have A13 := Aside0.mk A130
          clear A130
          have H' := Aside0.mk H
          clear H
          have hcz14_0 : w9.cell? ⟨gb163, 0, none⟩ = some (.int .i64 0) := (blk_cell BK163.out 0).trans rfl
          have hcz14_1 : w9.cell? ⟨gb163, 1, none⟩ = some (.slice none 0 0) := (blk_cell BK163.out 1).trans rfl
          have hfz14_0 := blk_frozen BK163.out 0
          have hfz14_1 := blk_frozen BK163.out 1
          go_wp2_with (first | (go_at_call 42; (with_reducible refine (bitmap_Formed.calls t159 _ _ t160 t164 _ ?side1 ?side2 A13.out).mono ?_); (case side1 => refine (Kd.R_reads' (e := 30) (base := w.heap.size) (ok := fun k_ => True) (n := t160.length) (c := co11) ?_).2.2; exact (by (with_reducible repeat (first | apply Kd.R_alloc | apply Kd.R_drewN | apply Kd.R_drew)); exact (Kd.R_mono (Kd.R_far (p := ⟨gb163, 1, none⟩) (Kd.R_far (p := ⟨gb163, 0, none⟩) (Kd.R_types HO162.out BK163.out (by decide)) (fun _ hk => hk.2) (.int .i64 t159)) (fun _ hk => hk.2) (.slice Ao11 t160.length co11)) (fun _ h_ => h_.1)))); (case side2 => exact (Kd.R_reads' HO162.out).2.1); rintro e w15 ⟨rfl, hb⟩; have n0_ := Aside0.mk (Kd.R_below (by (with_reducible repeat (first | apply Kd.R_alloc | apply Kd.R_drewN | apply Kd.R_drew)); exact (Kd.R_mono (Kd.R_far (p := ⟨gb163, 1, none⟩) (Kd.R_far (p := ⟨gb163, 0, none⟩) (Kd.R_types HO162.out BK163.out (by decide)) (fun _ hk => hk.2) (.int .i64 t159)) (fun _ hk => hk.2) (.slice Ao11 t160.length co11)) (fun _ h_ => h_.1))) hb); have n1_ := Aside0.mk (blk_below (g := gb163) (o := .cells #[.int .i64 t159, .slice Ao11 t160.length co11] 56 (0, 0)) (by (with_reducible repeat (first | refine blk_drewN ?_ _ | refine blk_drew ?_ | refine blk_alloc ?_ _)); refine blk_put (cs := #[.int .i64 t159, .slice none 0 0]) ?_ 1 _ rfl; (with_reducible repeat (first | refine blk_drewN ?_ _ | refine blk_drew ?_ | refine blk_alloc ?_ _)); refine blk_put (cs := #[.int .i64 0, .slice none 0 0]) ?_ 0 _ rfl; (with_reducible repeat (first | refine blk_drewN ?_ _ | refine blk_drew ?_ | refine blk_alloc ?_ _)); exact BK163.out) hb); have n2_ := Aside0.mk (below_step (by repeat (first | (with_reducible first | exact HB.out | apply below_alloc | apply pw_below_drewN | apply below_drew1 | refine below_set ?_ GE163.out) | exact HB.out)) hb); clear HO162; clear BK163; clear HB; have HO162 := n0_; have BK163 := n1_; have HB := n2_; clear n0_ n1_ n2_; (try clear hb); (try clear hb2); (try clear hk); (try clear hi)))
          go_meet
          case rel => exact ⟨_, (!t164), (by first | rfl | (simp; done) | (simp [*]; done)), H', ⟨by have := HJ1.out; first | omega | exact Nat.le_refl _⟩, ⟨by (with_reducible repeat (first | apply Kd.R_alloc | apply Kd.R_drewN | apply Kd.R_drew)); exact HO162.out⟩, ⟨by (with_reducible repeat (first | refine blk_drewN ?_ _ | refine blk_drew ?_ | refine blk_alloc ?_ _)); exact BK163.out⟩, ⟨by repeat (first | (with_reducible first | exact HB.out | apply below_alloc | apply pw_below_drewN | apply below_drew1 | refine below_set ?_ GE163.out) | exact HB.out)⟩⟩
        · rw [if_neg c12] at H
          have c12b0 : (t159 == (x0_1.size : Int)) = false := beq_eq_false_iff_ne.mpr c12
          have c12b1 : (t159 != (x0_1.size : Int)) = true := bne_iff_ne.mpr c12
          (first | rw [c12b0] | (simp only [i64_w, i32_w]; rw [c12b0]) | skip)
          have H' := Aside0.mk H
          clear H
          have hcz16_0 : w9.cell? ⟨gb163, 0, none⟩ = some (.int .i64 0) := (blk_cell BK163.out 0).trans rfl
          have hcz16_1 : w9.cell? ⟨gb163, 1, none⟩ = some (.slice none 0 0) := (blk_cell BK163.out 1).trans rfl
          have hfz16_0 := blk_frozen BK163.out 0
          have hfz16_1 := blk_frozen BK163.out 1
          go_wp2
          go_meet
          case rel => exact ⟨_, (true), (by first | rfl | (simp; done) | (simp [*]; done)), H', ⟨by have := HJ1.out; first | omega | exact Nat.le_refl _⟩, ⟨by (with_reducible repeat (first | apply Kd.R_alloc | apply Kd.R_drewN | apply Kd.R_drew)); exact Kd.R_mono (Kd.R_far (p := ⟨gb163, 1, none⟩) (Kd.R_far (p := ⟨gb163, 0, none⟩) (Kd.R_types HO162.out BK163.out (by decide)) (fun _ hk => hk.2) (.int .i64 t159)) (fun _ hk => hk.2) (.slice Ao11 t160.length co11)) (fun _ hk => trivial)⟩, ⟨by (with_reducible repeat (first | refine blk_drewN ?_ _ | refine blk_drew ?_ | refine blk_alloc ?_ _)); refine blk_put (cs := #[.int .i64 t159, .slice none 0 0]) ?_ 1 _ rfl; (with_reducible repeat (first | refine blk_drewN ?_ _ | refine blk_drew ?_ | refine blk_alloc ?_ _)); refine blk_put (cs := #[.int .i64 0, .slice none 0 0]) ?_ 0 _ rfl; (with_reducible repeat (first | refine blk_drewN ?_ _ | refine blk_drew ?_ | refine blk_alloc ?_ _)); exact BK163.out⟩, ⟨by repeat (first | (with_reducible first | exact HB.out | apply below_alloc | apply pw_below_drewN | apply below_drew1 | refine below_set ?_ GE163.out) | exact HB.out)⟩⟩
      case rest =>
        clear HC7
        try clear c1
        try clear p2
        try clear c3
        try clear c3b0
        try clear c3b1
        try clear c4
        try clear c4b0
        try clear c4b1
        try clear c5
        try clear c5b0
        try clear c5b1
        try clear c12
        try clear c12b0
        try clear c12b1
        try clear c14
        try clear hcz10_0
        try clear hcz10_1
        try clear hcz14_0
        try clear hcz14_1
        try clear hcz16_0
        try clear hcz16_1
        try clear hfz10_0
        try clear hfz10_1
        try clear hfz14_0
        try clear hfz14_1
        try clear hfz16_0
        try clear hfz16_1
        try clear p2
        obtain ⟨kq, x26_6, rfl, HA, HJ6, HO_164001, BK163, HB⟩ := hcut
        cases kq with
        | zero => exact absurd HA.out (by simp [quarrylaw06_EscapeRows.j1])
        | succ kj6 =>
          have H := HA.out
          clear HA
          simp only [quarrylaw06_EscapeRows.j1] at H
          by_cases c17 : x26_6 = true
          · subst c17
            have H1 : (some false) = some r := by rw [if_pos rfl] at H; exact H
            clear H
            have H := H1
            clear H1
            obtain rfl := Option.some.inj H
            go_wp2
            go_ret
            exact ⟨by first | rfl | (simp [errW_none, errW_some] <;> rfl) | (simp [*, errW_none, errW_some] <;> rfl), by repeat (first | (with_reducible first | exact HB.out | apply below_alloc | apply pw_below_drewN | apply below_drew1 | refine below_set ?_ GE163.out) | exact HB.out)⟩
          · replace c17 := Bool.eq_false_iff.mpr c17
            subst c17
            have H1 : (quarrylaw06_EscapeRows.l0 kj6 x0_1 0 t159 t160) = some r := by rw [if_neg (show ¬ (false = true) by decide)] at H; exact H
            clear H
            have H := H1
            clear H1
            have H' := Aside0.mk H
            clear H
            go_wp2
            go_loopg [4] kj6 (fun kq v4 w' => ∃ (x4_3 : Int), v4 = .int .i64 x4_3 ∧ Aside0 (quarrylaw06_EscapeRows.l0 kq x0_1 x4_3 t159 t160 = some r) ∧ Aside0 (kq ≤ kj6) ∧ Aside0 (Kd.R (Kd.int .u64) 30 w' w.heap.size (fun _ => True) (.slice Ao11 t160.length co11) t160) ∧ Aside0 (w'.heap[gb163]? = some (.cells #[.int .i64 t159, (.slice Ao11 t160.length co11)] 56 (0, 0))) ∧ Aside0 (Below w.heap.size w w'))
            case atStart => exact ⟨(0), (by first | rfl | (simp; done) | (simp [*]; done)), H', ⟨Nat.le_refl _⟩, ⟨by (with_reducible repeat (first | apply Kd.R_alloc | apply Kd.R_drewN | apply Kd.R_drew)); exact HO_164001.out⟩, ⟨by (with_reducible repeat (first | refine blk_drewN ?_ _ | refine blk_drew ?_ | refine blk_alloc ?_ _)); exact BK163.out⟩, ⟨by repeat (first | (with_reducible first | exact HB.out | apply below_alloc | apply pw_below_drewN | apply below_drew1 | refine below_set ?_ GE163.out) | exact HB.out)⟩⟩
            case round =>
              clear H'
              try clear c1
              try clear p2
              try clear c3
              try clear c3b0
              try clear c3b1
              try clear c4
              try clear c4b0
              try clear c4b1
              try clear c5
              try clear c5b0
              try clear c5b1
              try clear c12
              try clear c12b0
              try clear c12b1
              try clear c14
              try clear c17
              try clear hcz10_0
              try clear hcz10_1
              try clear hcz14_0
              try clear hcz14_1
              try clear hcz16_0
              try clear hcz16_1
              try clear hfz10_0
              try clear hfz10_1
              try clear hfz14_0
              try clear hfz14_1
              try clear hfz16_0
              try clear hfz16_1
              try clear p2
              obtain ⟨x4_3, rfl, HA, HK3, HO_164001, BK163, HB⟩ := hrel
              cases gk with
              | zero => exact absurd HA.out (by simp [quarrylaw06_EscapeRows.l0])
              | succ k3 =>
                have H := HA.out
                clear HA
                simp only [quarrylaw06_EscapeRows.l0] at H
                by_cases c18 : x4_3 < (x0_1.size : Int)
                · rw [if_pos c18] at H
                  have c18b0 : decide (x4_3 < (x0_1.size : Int)) = true := decide_eq_true c18
                  clear c18
                  replace H := Option.bind_eq_some_iff.mp H
                  obtain ⟨⟨t169, t170⟩, A190, H⟩ := H
                  replace H : ((bitmap_Get.f t159 t160 x4_3).bind fun t171 => (if (t171 != t170) = true then (quarrylaw06_EscapeRows.j3 k3 x0_1 x4_3 t169 t170 true t159 t160) else (if t169 < 0 then (quarrylaw06_EscapeRows.j3 k3 x0_1 x4_3 t169 t170 true t159 t160) else (if t169 > x4_3 then (quarrylaw06_EscapeRows.j3 k3 x0_1 x4_3 t169 t170 true t159 t160) else (quarrylaw06_EscapeRows.j3 k3 x0_1 x4_3 t169 t170 (t170 != ((Int.tmod (wrap64 (x4_3 - t169)) 2) == 1)) t159 t160))))) = some r := H
                  have A19 := Aside0.mk A190
                  clear A190
                  have HC20 := Aside0.mk H
                  clear H
                  go_upto_region 10 with (first | ((with_reducible refine gate_callee (f := 15) rfl ?_); refine goesL_ (some 36) rfl rfl Try.func15 (by kernel_rfl) rfl #[.string x0_1, .int .i64 x4_3] rfl (by (try simp only [List.map_toArray, List.map_cons, List.map_nil]); first | done | rfl | (simp only [List.length_drop, List.length_take]; rfl)) ?_; (with_reducible refine (escape_Odd.calls k3 x0_1 x4_3 t169 t170 _ A19.out).mono ?_); rintro e w' ⟨rfl, ⟨nd, rfl⟩⟩; refine ⟨_, rfl, ?_⟩))
                  (try simp only [Act.put, List.setIfInBounds_toArray, List.set_cons_zero, List.set_cons_succ])
                  go_cut [61] (fun v61 wc => ∃ (kq : Nat) (x61_19 : Bool), v61 = .bool x61_19 ∧ Aside0 (quarrylaw06_EscapeRows.j3 kq x0_1 x4_3 t169 t170 x61_19 t159 t160 = some r) ∧ Aside0 (kq ≤ k3) ∧ Aside0 (Kd.R (Kd.int .u64) 30 wc w.heap.size (fun _ => True) (.slice Ao11 t160.length co11) t160) ∧ Aside0 (wc.heap[gb163]? = some (.cells #[.int .i64 t159, (.slice Ao11 t160.length co11)] 56 (0, 0))) ∧ Aside0 (Below w.heap.size w wc))
                  case first =>
                    have H := HC20.out
                    clear HC20
                    replace H := Option.bind_eq_some_iff.mp H
                    obtain ⟨t171, A210, H⟩ := H
                    replace H : (if (t171 != t170) = true then (quarrylaw06_EscapeRows.j3 k3 x0_1 x4_3 t169 t170 true t159 t160) else (if t169 < 0 then (quarrylaw06_EscapeRows.j3 k3 x0_1 x4_3 t169 t170 true t159 t160) else (if t169 > x4_3 then (quarrylaw06_EscapeRows.j3 k3 x0_1 x4_3 t169 t170 true t159 t160) else (quarrylaw06_EscapeRows.j3 k3 x0_1 x4_3 t169 t170 (t170 != ((Int.tmod (wrap64 (x4_3 - t169)) 2) == 1)) t159 t160)))) = some r := H
                    have A21 := Aside0.mk A210
                    clear A210
                    by_cases c22 : (t171 != t170) = true
                    · rw [if_pos c22] at H
                      have c22b0 : (t171 != t170) = true := c22
                      (try (have c22b1 : decide (t171 = t170) = false := by simpa using c22))
                      (try (have c22b2 : (t171 == t170) = false := by simpa using c22))
                      (try (have c22b3 : ¬ (t171 = t170) := by simpa using c22))
                      clear c22
                      (first | rw [c22b0] | (simp only [i64_w, i32_w]; rw [c22b0]) | skip)
                      have H' := Aside0.mk H
                      clear H
                      have hcz23_0 : wr.cell? ⟨gb163, 0, none⟩ = some (.int .i64 t159) := (blk_cell BK163.out 0).trans rfl
                      have hcz23_1 : wr.cell? ⟨gb163, 1, none⟩ = some (.slice Ao11 t160.length co11) := (blk_cell BK163.out 1).trans rfl
                      have hfz23_0 := blk_frozen BK163.out 0
                      have hfz23_1 := blk_frozen BK163.out 1
                      go_wp2_with (first | ((with_reducible refine gate_callee (f := 43) rfl ?_); refine goesL_ (some 41) rfl rfl Try.func43 (by kernel_rfl) rfl #[.agg #[.int .i64 t159, .slice Ao11 t160.length co11], .int .i64 x4_3] rfl (by (try simp only [List.map_toArray, List.map_cons, List.map_nil]); first | done | rfl | (simp only [List.length_drop, List.length_take]; rfl)) ?_; (with_reducible refine (bitmap_Get.calls t159 _ _ t160 x4_3 t171 _ ?side1 ?side2 A21.out).mono ?_); (case side1 => repeat (first | exact (Kd.R_reads' HO_164001.out).2.2 | (with_reducible refine Kd.C_alloc ?_ _) | (with_reducible refine Kd.C_drewN ?_ _) | (with_reducible refine Kd.C_drew ?_))); (case side2 => exact (Kd.R_reads' HO_164001.out).2.1); rintro e w24 ⟨rfl, hb⟩; refine ⟨_, rfl, ?_⟩; have n0_ := Aside0.mk (Kd.R_below (by (with_reducible repeat (first | apply Kd.R_alloc | apply Kd.R_drewN | apply Kd.R_drew)); exact HO_164001.out) hb); have n1_ := Aside0.mk (blk_below (g := gb163) (o := .cells #[.int .i64 t159, .slice Ao11 t160.length co11] 56 (0, 0)) (by (with_reducible repeat (first | refine blk_drewN ?_ _ | refine blk_drew ?_ | refine blk_alloc ?_ _)); exact BK163.out) hb); have n2_ := Aside0.mk (below_step (by repeat (first | (with_reducible first | exact HB.out | apply below_alloc | apply pw_below_drewN | apply below_drew1 | refine below_set ?_ GE163.out) | exact HB.out)) hb); clear HO_164001; clear BK163; clear HB; have HO_164001 := n0_; have BK163 := n1_; have HB := n2_; clear n0_ n1_ n2_; (try clear hb); (try clear hb2); (try clear hk); (try clear hi)))
                      go_meet
                      case rel => exact ⟨_, (true), (by first | rfl | (simp; done) | (simp [*]; done)), H', ⟨by have := HJ1.out; have := HJ6.out; have := HK3.out; first | omega | exact Nat.le_refl _⟩, ⟨by (with_reducible repeat (first | apply Kd.R_alloc | apply Kd.R_drewN | apply Kd.R_drew)); exact HO_164001.out⟩, ⟨by (with_reducible repeat (first | refine blk_drewN ?_ _ | refine blk_drew ?_ | refine blk_alloc ?_ _)); exact BK163.out⟩, ⟨by repeat (first | (with_reducible first | exact HB.out | apply below_alloc | apply pw_below_drewN | apply below_drew1 | refine below_set ?_ GE163.out) | exact HB.out)⟩⟩
                    · rw [if_neg c22] at H
                      have c22b0 : (t171 != t170) = false := by simpa using c22
                      (try (have c22b1 : decide (t171 = t170) = true := by simpa using c22))
                      (try (have c22b2 : (t171 == t170) = true := by simpa using c22))
                      clear c22
                      (first | rw [c22b0] | (simp only [i64_w, i32_w]; rw [c22b0]) | skip)
                      by_cases c25 : t169 < 0
                      · rw [if_pos c25] at H
                        have c25b0 : decide (t169 < 0) = true := decide_eq_true c25
                        clear c25
                        have H' := Aside0.mk H
                        clear H
                        have hcz26_0 : wr.cell? ⟨gb163, 0, none⟩ = some (.int .i64 t159) := (blk_cell BK163.out 0).trans rfl
                        have hcz26_1 : wr.cell? ⟨gb163, 1, none⟩ = some (.slice Ao11 t160.length co11) := (blk_cell BK163.out 1).trans rfl
                        have hfz26_0 := blk_frozen BK163.out 0
                        have hfz26_1 := blk_frozen BK163.out 1
                        go_wp2_with (first | ((with_reducible refine gate_callee (f := 43) rfl ?_); refine goesL_ (some 41) rfl rfl Try.func43 (by kernel_rfl) rfl #[.agg #[.int .i64 t159, .slice Ao11 t160.length co11], .int .i64 x4_3] rfl (by (try simp only [List.map_toArray, List.map_cons, List.map_nil]); first | done | rfl | (simp only [List.length_drop, List.length_take]; rfl)) ?_; (with_reducible refine (bitmap_Get.calls t159 _ _ t160 x4_3 t171 _ ?side1 ?side2 A21.out).mono ?_); (case side1 => repeat (first | exact (Kd.R_reads' HO_164001.out).2.2 | (with_reducible refine Kd.C_alloc ?_ _) | (with_reducible refine Kd.C_drewN ?_ _) | (with_reducible refine Kd.C_drew ?_))); (case side2 => exact (Kd.R_reads' HO_164001.out).2.1); rintro e w27 ⟨rfl, hb⟩; refine ⟨_, rfl, ?_⟩; have n0_ := Aside0.mk (Kd.R_below (by (with_reducible repeat (first | apply Kd.R_alloc | apply Kd.R_drewN | apply Kd.R_drew)); exact HO_164001.out) hb); have n1_ := Aside0.mk (blk_below (g := gb163) (o := .cells #[.int .i64 t159, .slice Ao11 t160.length co11] 56 (0, 0)) (by (with_reducible repeat (first | refine blk_drewN ?_ _ | refine blk_drew ?_ | refine blk_alloc ?_ _)); exact BK163.out) hb); have n2_ := Aside0.mk (below_step (by repeat (first | (with_reducible first | exact HB.out | apply below_alloc | apply pw_below_drewN | apply below_drew1 | refine below_set ?_ GE163.out) | exact HB.out)) hb); clear HO_164001; clear BK163; clear HB; have HO_164001 := n0_; have BK163 := n1_; have HB := n2_; clear n0_ n1_ n2_; (try clear hb); (try clear hb2); (try clear hk); (try clear hi)))
                        go_meet
                        case rel => exact ⟨_, (true), (by first | rfl | (simp; done) | (simp [*]; done)), H', ⟨by have := HJ1.out; have := HJ6.out; have := HK3.out; first | omega | exact Nat.le_refl _⟩, ⟨by (with_reducible repeat (first | apply Kd.R_alloc | apply Kd.R_drewN | apply Kd.R_drew)); exact HO_164001.out⟩, ⟨by (with_reducible repeat (first | refine blk_drewN ?_ _ | refine blk_drew ?_ | refine blk_alloc ?_ _)); exact BK163.out⟩, ⟨by repeat (first | (with_reducible first | exact HB.out | apply below_alloc | apply pw_below_drewN | apply below_drew1 | refine below_set ?_ GE163.out) | exact HB.out)⟩⟩
                      · rw [if_neg c25] at H
                        have c25b0 : decide (t169 < 0) = false := decide_eq_false c25
                        clear c25
                        by_cases c28 : t169 > x4_3
                        · rw [if_pos c28] at H
                          have c28b0 : decide (x4_3 < t169) = true := decide_eq_true c28
                          clear c28
                          have H' := Aside0.mk H
                          clear H
                          have hcz29_0 : wr.cell? ⟨gb163, 0, none⟩ = some (.int .i64 t159) := (blk_cell BK163.out 0).trans rfl
                          have hcz29_1 : wr.cell? ⟨gb163, 1, none⟩ = some (.slice Ao11 t160.length co11) := (blk_cell BK163.out 1).trans rfl
                          have hfz29_0 := blk_frozen BK163.out 0
                          have hfz29_1 := blk_frozen BK163.out 1
                          go_wp2_with (first | ((with_reducible refine gate_callee (f := 43) rfl ?_); refine goesL_ (some 41) rfl rfl Try.func43 (by kernel_rfl) rfl #[.agg #[.int .i64 t159, .slice Ao11 t160.length co11], .int .i64 x4_3] rfl (by (try simp only [List.map_toArray, List.map_cons, List.map_nil]); first | done | rfl | (simp only [List.length_drop, List.length_take]; rfl)) ?_; (with_reducible refine (bitmap_Get.calls t159 _ _ t160 x4_3 t171 _ ?side1 ?side2 A21.out).mono ?_); (case side1 => repeat (first | exact (Kd.R_reads' HO_164001.out).2.2 | (with_reducible refine Kd.C_alloc ?_ _) | (with_reducible refine Kd.C_drewN ?_ _) | (with_reducible refine Kd.C_drew ?_))); (case side2 => exact (Kd.R_reads' HO_164001.out).2.1); rintro e w30 ⟨rfl, hb⟩; refine ⟨_, rfl, ?_⟩; have n0_ := Aside0.mk (Kd.R_below (by (with_reducible repeat (first | apply Kd.R_alloc | apply Kd.R_drewN | apply Kd.R_drew)); exact HO_164001.out) hb); have n1_ := Aside0.mk (blk_below (g := gb163) (o := .cells #[.int .i64 t159, .slice Ao11 t160.length co11] 56 (0, 0)) (by (with_reducible repeat (first | refine blk_drewN ?_ _ | refine blk_drew ?_ | refine blk_alloc ?_ _)); exact BK163.out) hb); have n2_ := Aside0.mk (below_step (by repeat (first | (with_reducible first | exact HB.out | apply below_alloc | apply pw_below_drewN | apply below_drew1 | refine below_set ?_ GE163.out) | exact HB.out)) hb); clear HO_164001; clear BK163; clear HB; have HO_164001 := n0_; have BK163 := n1_; have HB := n2_; clear n0_ n1_ n2_; (try clear hb); (try clear hb2); (try clear hk); (try clear hi)))
                          go_meet
                          case rel => exact ⟨_, (true), (by first | rfl | (simp; done) | (simp [*]; done)), H', ⟨by have := HJ1.out; have := HJ6.out; have := HK3.out; first | omega | exact Nat.le_refl _⟩, ⟨by (with_reducible repeat (first | apply Kd.R_alloc | apply Kd.R_drewN | apply Kd.R_drew)); exact HO_164001.out⟩, ⟨by (with_reducible repeat (first | refine blk_drewN ?_ _ | refine blk_drew ?_ | refine blk_alloc ?_ _)); exact BK163.out⟩, ⟨by repeat (first | (with_reducible first | exact HB.out | apply below_alloc | apply pw_below_drewN | apply below_drew1 | refine below_set ?_ GE163.out) | exact HB.out)⟩⟩
                        · rw [if_neg c28] at H
                          have c28b0 : decide (x4_3 < t169) = false := decide_eq_false c28
                          clear c28
                          have H' := Aside0.mk H
                          clear H
                          have hcz31_0 : wr.cell? ⟨gb163, 0, none⟩ = some (.int .i64 t159) := (blk_cell BK163.out 0).trans rfl
                          have hcz31_1 : wr.cell? ⟨gb163, 1, none⟩ = some (.slice Ao11 t160.length co11) := (blk_cell BK163.out 1).trans rfl
                          have hfz31_0 := blk_frozen BK163.out 0
                          have hfz31_1 := blk_frozen BK163.out 1
                          go_wp2_with (first | ((with_reducible refine gate_callee (f := 43) rfl ?_); refine goesL_ (some 41) rfl rfl Try.func43 (by kernel_rfl) rfl #[.agg #[.int .i64 t159, .slice Ao11 t160.length co11], .int .i64 x4_3] rfl (by (try simp only [List.map_toArray, List.map_cons, List.map_nil]); first | done | rfl | (simp only [List.length_drop, List.length_take]; rfl)) ?_; (with_reducible refine (bitmap_Get.calls t159 _ _ t160 x4_3 t171 _ ?side1 ?side2 A21.out).mono ?_); (case side1 => repeat (first | exact (Kd.R_reads' HO_164001.out).2.2 | (with_reducible refine Kd.C_alloc ?_ _) | (with_reducible refine Kd.C_drewN ?_ _) | (with_reducible refine Kd.C_drew ?_))); (case side2 => exact (Kd.R_reads' HO_164001.out).2.1); rintro e w32 ⟨rfl, hb⟩; refine ⟨_, rfl, ?_⟩; have n0_ := Aside0.mk (Kd.R_below (by (with_reducible repeat (first | apply Kd.R_alloc | apply Kd.R_drewN | apply Kd.R_drew)); exact HO_164001.out) hb); have n1_ := Aside0.mk (blk_below (g := gb163) (o := .cells #[.int .i64 t159, .slice Ao11 t160.length co11] 56 (0, 0)) (by (with_reducible repeat (first | refine blk_drewN ?_ _ | refine blk_drew ?_ | refine blk_alloc ?_ _)); exact BK163.out) hb); have n2_ := Aside0.mk (below_step (by repeat (first | (with_reducible first | exact HB.out | apply below_alloc | apply pw_below_drewN | apply below_drew1 | refine below_set ?_ GE163.out) | exact HB.out)) hb); clear HO_164001; clear BK163; clear HB; have HO_164001 := n0_; have BK163 := n1_; have HB := n2_; clear n0_ n1_ n2_; (try clear hb); (try clear hb2); (try clear hk); (try clear hi)))
                          go_meet
                          case rel => exact ⟨_, ((t170 != ((Int.tmod (wrap64 (x4_3 - t169)) 2) == 1))), (by first | rfl | (simp; done) | (simp [*]; done)), H', ⟨by have := HJ1.out; have := HJ6.out; have := HK3.out; first | omega | exact Nat.le_refl _⟩, ⟨by (with_reducible repeat (first | apply Kd.R_alloc | apply Kd.R_drewN | apply Kd.R_drew)); exact HO_164001.out⟩, ⟨by (with_reducible repeat (first | refine blk_drewN ?_ _ | refine blk_drew ?_ | refine blk_alloc ?_ _)); exact BK163.out⟩, ⟨by repeat (first | (with_reducible first | exact HB.out | apply below_alloc | apply pw_below_drewN | apply below_drew1 | refine below_set ?_ GE163.out) | exact HB.out)⟩⟩
                  case rest =>
                    clear HC20
                    try clear c1
                    try clear c2
                    try clear p2
                    try clear c3
                    try clear c3b0
                    try clear c3b1
                    try clear c4
                    try clear c4b0
                    try clear c4b1
                    try clear c5
                    try clear c5b0
                    try clear c5b1
                    try clear p6
                    try clear c12
                    try clear c12b0
                    try clear c12b1
                    try clear c14
                    try clear c15
                    try clear c17
                    try clear c18
                    try clear c18b0
                    try clear c22
                    try clear c22b0
                    try clear c22b1
                    try clear c22b2
                    try clear c25
                    try clear c25b0
                    try clear c28
                    try clear c28b0
                    try clear hcz10_0
                    try clear hcz10_1
                    try clear hcz14_0
                    try clear hcz14_1
                    try clear hcz16_0
                    try clear hcz16_1
                    try clear hcz23_0
                    try clear hcz23_1
                    try clear hcz26_0
                    try clear hcz26_1
                    try clear hcz29_0
                    try clear hcz29_1
                    try clear hcz31_0
                    try clear hcz31_1
                    try clear hfz10_0
                    try clear hfz10_1
                    try clear hfz14_0
                    try clear hfz14_1
                    try clear hfz16_0
                    try clear hfz16_1
                    try clear hfz23_0
                    try clear hfz23_1
                    try clear hfz26_0
                    try clear hfz26_1
                    try clear hfz29_0
                    try clear hfz29_1
                    try clear hfz31_0
                    try clear hfz31_1
                    try clear p2
                    obtain ⟨kq, x61_19, rfl, HA, HJ19, HO_164001, BK163, HB⟩ := hcut
                    cases kq with
                    | zero => exact absurd HA.out (by simp [quarrylaw06_EscapeRows.j3])
                    | succ kj19 =>
                      have H := HA.out
                      clear HA
                      simp only [quarrylaw06_EscapeRows.j3] at H
                      by_cases c33 : x61_19 = true
                      · subst c33
                        have H1 : (some false) = some r := by rw [if_pos rfl] at H; exact H
                        clear H
                        have H := H1
                        clear H1
                        obtain rfl := Option.some.inj H
                        go_wp2
                        go_ret
                        exact ⟨by first | rfl | (simp [errW_none, errW_some] <;> rfl) | (simp [*, errW_none, errW_some] <;> rfl), by repeat (first | (with_reducible first | exact HB.out | apply below_alloc | apply pw_below_drewN | apply below_drew1 | refine below_set ?_ GE163.out) | exact HB.out)⟩
                      · replace c33 := Bool.eq_false_iff.mpr c33
                        subst c33
                        have H1 : (quarrylaw06_EscapeRows.l1 kj19 x0_1 x4_3 t169 t170 t169 t159 t160) = some r := by rw [if_neg (show ¬ (false = true) by decide)] at H; exact H
                        clear H
                        have H := H1
                        clear H1
                        have H' := Aside0.mk H
                        clear H
                        go_wp2
                        go_loopg [7] kj19 (fun kq v7 w' => ∃ (x7_5 : Int), v7 = .int .i64 x7_5 ∧ Aside0 (quarrylaw06_EscapeRows.l1 kq x0_1 x4_3 t169 t170 x7_5 t159 t160 = some r) ∧ Aside0 (kq ≤ kj19) ∧ Aside0 (Kd.R (Kd.int .u64) 30 w' w.heap.size (fun _ => True) (.slice Ao11 t160.length co11) t160) ∧ Aside0 (w'.heap[gb163]? = some (.cells #[.int .i64 t159, (.slice Ao11 t160.length co11)] 56 (0, 0))) ∧ Aside0 (Below w.heap.size w w'))
                        case atStart => exact ⟨(t169), (by first | rfl | (simp; done) | (simp [*]; done)), H', ⟨Nat.le_refl _⟩, ⟨by (with_reducible repeat (first | apply Kd.R_alloc | apply Kd.R_drewN | apply Kd.R_drew)); exact HO_164001.out⟩, ⟨by (with_reducible repeat (first | refine blk_drewN ?_ _ | refine blk_drew ?_ | refine blk_alloc ?_ _)); exact BK163.out⟩, ⟨by repeat (first | (with_reducible first | exact HB.out | apply below_alloc | apply pw_below_drewN | apply below_drew1 | refine below_set ?_ GE163.out) | exact HB.out)⟩⟩
                        case round =>
                          clear H'
                          try clear c1
                          try clear c2
                          try clear p2
                          try clear c3
                          try clear c3b0
                          try clear c3b1
                          try clear c4
                          try clear c4b0
                          try clear c4b1
                          try clear c5
                          try clear c5b0
                          try clear c5b1
                          try clear p6
                          try clear c12
                          try clear c12b0
                          try clear c12b1
                          try clear c14
                          try clear c15
                          try clear c17
                          try clear c18
                          try clear c18b0
                          try clear c22
                          try clear c22b0
                          try clear c22b1
                          try clear c22b2
                          try clear c25
                          try clear c25b0
                          try clear c28
                          try clear c28b0
                          try clear c33
                          try clear hcz10_0
                          try clear hcz10_1
                          try clear hcz14_0
                          try clear hcz14_1
                          try clear hcz16_0
                          try clear hcz16_1
                          try clear hcz23_0
                          try clear hcz23_1
                          try clear hcz26_0
                          try clear hcz26_1
                          try clear hcz29_0
                          try clear hcz29_1
                          try clear hcz31_0
                          try clear hcz31_1
                          try clear hfz10_0
                          try clear hfz10_1
                          try clear hfz14_0
                          try clear hfz14_1
                          try clear hfz16_0
                          try clear hfz16_1
                          try clear hfz23_0
                          try clear hfz23_1
                          try clear hfz26_0
                          try clear hfz26_1
                          try clear hfz29_0
                          try clear hfz29_1
                          try clear hfz31_0
                          try clear hfz31_1
                          try clear p2
                          try clear p6
                          obtain ⟨x7_5, rfl, HA, HK5, HO_164001, BK163, HB⟩ := hrel
                          cases gk with
                          | zero => exact absurd HA.out (by simp [quarrylaw06_EscapeRows.l1])
                          | succ k5 =>
                            have H := HA.out
                            clear HA
                            simp only [quarrylaw06_EscapeRows.l1] at H
                            by_cases c34 : x7_5 < x4_3
                            · rw [if_pos c34] at H
                              have c34b0 : decide (x7_5 < x4_3) = true := decide_eq_true c34
                              clear c34
                              by_cases c35 : 0 ≤ x7_5
                              · rw [if_pos c35] at H
                                have c35b0 : decide (0 ≤ x7_5) = true := decide_eq_true c35
                                clear c35
                                by_cases c36 : x7_5 < (x0_1.size : Int)
                                · rw [if_pos c36] at H
                                  have c36b0 : decide (x7_5 < (x0_1.size : Int)) = true := decide_eq_true c36
                                  clear c36
                                  by_cases c38 : (bt x0_1 x7_5) = 92
                                  · rw [if_pos c38] at H
                                    have c38b0 : ((bt x0_1 x7_5) == 92) = true := beq_iff_eq.mpr c38
                                    have c38b1 : ((bt x0_1 x7_5) != 92) = false := bne_eq_false_iff_eq.mpr c38
                                    clear c38
                                    have H' := Aside0.mk H
                                    clear H
                                    have p37 : 0 ≤ (x7_5 : Int) := of_decide_eq_true (by first | (with_reducible assumption) | assumption)
                                    have q37 : x7_5 < (x0_1.size : Int) := of_decide_eq_true (by first | (with_reducible assumption) | assumption)
                                    have hx37 := bt_at x0_1 x7_5
                                    replace p37 := eq_true p37
                                    replace q37 := eq_true q37
                                    go_wp2
                                    go_roundg k5
                                    case measure => have := HJ1.out; have := HJ6.out; have := HK3.out; have := HJ19.out; have := HK5.out; omega
                                    case rel => exact ⟨(wrap64 (x7_5 + 1)), (by first | rfl | (simp; done) | (simp [*]; done)), H', ⟨by have := HJ1.out; have := HJ6.out; have := HK3.out; have := HJ19.out; have := HK5.out; omega⟩, ⟨by (with_reducible repeat (first | apply Kd.R_alloc | apply Kd.R_drewN | apply Kd.R_drew)); exact HO_164001.out⟩, ⟨by (with_reducible repeat (first | refine blk_drewN ?_ _ | refine blk_drew ?_ | refine blk_alloc ?_ _)); exact BK163.out⟩, ⟨by repeat (first | (with_reducible first | exact HB.out | apply below_alloc | apply pw_below_drewN | apply below_drew1 | refine below_set ?_ GE163.out) | exact HB.out)⟩⟩
                                  · rw [if_neg c38] at H
                                    have c38b0 : ((bt x0_1 x7_5) == 92) = false := beq_eq_false_iff_ne.mpr c38
                                    have c38b1 : ((bt x0_1 x7_5) != 92) = true := bne_iff_ne.mpr c38
                                    obtain rfl := Option.some.inj H
                                    have p37 : 0 ≤ (x7_5 : Int) := of_decide_eq_true (by first | (with_reducible assumption) | assumption)
                                    have q37 : x7_5 < (x0_1.size : Int) := of_decide_eq_true (by first | (with_reducible assumption) | assumption)
                                    have hx37 := bt_at x0_1 x7_5
                                    replace p37 := eq_true p37
                                    replace q37 := eq_true q37
                                    go_wp2
                                    go_ret
                                    exact ⟨by first | rfl | (simp [errW_none, errW_some] <;> rfl) | (simp [*, errW_none, errW_some] <;> rfl), by repeat (first | (with_reducible first | exact HB.out | apply below_alloc | apply pw_below_drewN | apply below_drew1 | refine below_set ?_ GE163.out) | exact HB.out)⟩
                                · rw [if_neg c36] at H
                                  exact absurd H (by simp)
                              · rw [if_neg c35] at H
                                exact absurd H (by simp)
                            · rw [if_neg c34] at H
                              have c34b0 : decide (x7_5 < x4_3) = false := decide_eq_false c34
                              clear c34
                              have HC39 := Aside0.mk H
                              clear H
                              go_upto_region 17 with (fail)
                              go_cut [80] (fun v80 wc => ∃ (kq : Nat) (x80_38 : Bool), v80 = .bool x80_38 ∧ Aside0 (quarrylaw06_EscapeRows.j5 kq x0_1 x4_3 t170 x80_38 t159 t160 = some r) ∧ Aside0 (kq ≤ k5) ∧ Aside0 (Kd.R (Kd.int .u64) 30 wc w.heap.size (fun _ => True) (.slice Ao11 t160.length co11) t160) ∧ Aside0 (wc.heap[gb163]? = some (.cells #[.int .i64 t159, (.slice Ao11 t160.length co11)] 56 (0, 0))) ∧ Aside0 (Below w.heap.size w wc))
                              case first =>
                                have H := HC39.out
                                clear HC39
                                by_cases c40 : t169 > 0
                                · rw [if_pos c40] at H
                                  have c40b0 : decide (0 < t169) = true := decide_eq_true c40
                                  clear c40
                                  (first | rw [c40b0] | (simp only [i64_w, i32_w]; rw [c40b0]) | skip)
                                  obtain ⟨ji41, hji41⟩ : ∃ j_ : Int, (wrap64 (t169 - 1)) = j_ := ⟨_, rfl⟩
                                  replace H : (if 0 ≤ (ji41) then (if (ji41) < (x0_1.size : Int) then (quarrylaw06_EscapeRows.j5 k5 x0_1 x4_3 t170 ((bt x0_1 (ji41)) == 92) t159 t160) else (none)) else (none)) = some r := by first | (rw [hji41] at H; exact H) | (simp only [hji41] at H ⊢; exact H)
                                  have hji41w : (IntKind.i64.wrap (t169 - 1)) = ji41 := (i64_w _).trans hji41
                                  by_cases c42 : 0 ≤ (ji41)
                                  · rw [if_pos c42] at H
                                    have c42b0 : decide (0 ≤ (ji41)) = true := decide_eq_true c42
                                    clear c42
                                    by_cases c43 : (ji41) < (x0_1.size : Int)
                                    · rw [if_pos c43] at H
                                      have c43b0 : decide ((ji41) < (x0_1.size : Int)) = true := decide_eq_true c43
                                      clear c43
                                      have H' := Aside0.mk H
                                      clear H
                                      have p44 : 0 ≤ ((ji41) : Int) := of_decide_eq_true (by first | (with_reducible assumption) | assumption)
                                      have q44 : (ji41) < (x0_1.size : Int) := of_decide_eq_true (by first | (with_reducible assumption) | assumption)
                                      have hx44 := bt_at x0_1 (ji41)
                                      replace p44 := eq_true p44
                                      replace q44 := eq_true q44
                                      go_wp2
                                      go_meet
                                      case rel => exact ⟨_, (((bt x0_1 (ji41)) == 92)), (by first | rfl | (simp; done) | (simp only [← hji41] <;> (first | rfl | simp)) | (simp [*]; done)), H', ⟨by have := HJ1.out; have := HJ6.out; have := HK3.out; have := HJ19.out; have := HK5.out; first | omega | exact Nat.le_refl _⟩, ⟨by (with_reducible repeat (first | apply Kd.R_alloc | apply Kd.R_drewN | apply Kd.R_drew)); exact HO_164001.out⟩, ⟨by (with_reducible repeat (first | refine blk_drewN ?_ _ | refine blk_drew ?_ | refine blk_alloc ?_ _)); exact BK163.out⟩, ⟨by repeat (first | (with_reducible first | exact HB.out | apply below_alloc | apply pw_below_drewN | apply below_drew1 | refine below_set ?_ GE163.out) | exact HB.out)⟩⟩
                                    · rw [if_neg c43] at H
                                      exact absurd H (by simp)
                                  · rw [if_neg c42] at H
                                    exact absurd H (by simp)
                                · rw [if_neg c40] at H
                                  have c40b0 : decide (0 < t169) = false := decide_eq_false c40
                                  clear c40
                                  (first | rw [c40b0] | (simp only [i64_w, i32_w]; rw [c40b0]) | skip)
                                  have H' := Aside0.mk H
                                  clear H
                                  go_wp2
                                  go_meet
                                  case rel => exact ⟨_, (false), (by first | rfl | (simp; done) | (simp [*]; done)), H', ⟨by have := HJ1.out; have := HJ6.out; have := HK3.out; have := HJ19.out; have := HK5.out; first | omega | exact Nat.le_refl _⟩, ⟨by (with_reducible repeat (first | apply Kd.R_alloc | apply Kd.R_drewN | apply Kd.R_drew)); exact HO_164001.out⟩, ⟨by (with_reducible repeat (first | refine blk_drewN ?_ _ | refine blk_drew ?_ | refine blk_alloc ?_ _)); exact BK163.out⟩, ⟨by repeat (first | (with_reducible first | exact HB.out | apply below_alloc | apply pw_below_drewN | apply below_drew1 | refine below_set ?_ GE163.out) | exact HB.out)⟩⟩
                              case rest =>
                                clear HC39
                                try clear c1
                                try clear c2
                                try clear p2
                                try clear c3
                                try clear c3b0
                                try clear c3b1
                                try clear p3
                                try clear q3
                                try clear hx3
                                try clear c4
                                try clear c4b0
                                try clear c4b1
                                try clear p4
                                try clear q4
                                try clear hx4
                                try clear c5
                                try clear c5b0
                                try clear c5b1
                                try clear p6
                                try clear c12
                                try clear c12b0
                                try clear c12b1
                                try clear c14
                                try clear c15
                                try clear c17
                                try clear c18
                                try clear c18b0
                                try clear c22
                                try clear c22b0
                                try clear c22b1
                                try clear c22b2
                                try clear c25
                                try clear c25b0
                                try clear c28
                                try clear c28b0
                                try clear c33
                                try clear c34
                                try clear c34b0
                                try clear c35
                                try clear c35b0
                                try clear c36
                                try clear c36b0
                                try clear p37
                                try clear q37
                                try clear hx37
                                try clear c38
                                try clear c38b0
                                try clear c38b1
                                try clear c40
                                try clear c40b0
                                try clear c42
                                try clear c42b0
                                try clear c43
                                try clear c43b0
                                try clear p44
                                try clear q44
                                try clear hx44
                                try clear hcz10_0
                                try clear hcz10_1
                                try clear hcz14_0
                                try clear hcz14_1
                                try clear hcz16_0
                                try clear hcz16_1
                                try clear hcz23_0
                                try clear hcz23_1
                                try clear hcz26_0
                                try clear hcz26_1
                                try clear hcz29_0
                                try clear hcz29_1
                                try clear hcz31_0
                                try clear hcz31_1
                                try clear hfz10_0
                                try clear hfz10_1
                                try clear hfz14_0
                                try clear hfz14_1
                                try clear hfz16_0
                                try clear hfz16_1
                                try clear hfz23_0
                                try clear hfz23_1
                                try clear hfz26_0
                                try clear hfz26_1
                                try clear hfz29_0
                                try clear hfz29_1
                                try clear hfz31_0
                                try clear hfz31_1
                                try clear p2
                                try clear p37
                                try clear p44
                                try clear p6
                                try clear q37
                                try clear q44
                                obtain ⟨kq, x80_38, rfl, HA, HJ38, HO_164001, BK163, HB⟩ := hcut
                                cases kq with
                                | zero => exact absurd HA.out (by simp [quarrylaw06_EscapeRows.j5])
                                | succ kj38 =>
                                  have H := HA.out
                                  clear HA
                                  simp only [quarrylaw06_EscapeRows.j5] at H
                                  by_cases c45 : x80_38 = true
                                  · subst c45
                                    have H1 : (some false) = some r := by rw [if_pos rfl] at H; exact H
                                    clear H
                                    have H := H1
                                    clear H1
                                    obtain rfl := Option.some.inj H
                                    go_wp2
                                    go_ret
                                    exact ⟨by first | rfl | (simp [errW_none, errW_some] <;> rfl) | (simp [*, errW_none, errW_some] <;> rfl), by repeat (first | (with_reducible first | exact HB.out | apply below_alloc | apply pw_below_drewN | apply below_drew1 | refine below_set ?_ GE163.out) | exact HB.out)⟩
                                  · replace c45 := Bool.eq_false_iff.mpr c45
                                    subst c45
                                    have H1 : (if t170 = true then (if 0 ≤ (wrap64 (x4_3 - 1)) then (if (wrap64 (x4_3 - 1)) < (x0_1.size : Int) then (if (bt x0_1 (wrap64 (x4_3 - 1))) = 92 then ((bitmap_Get.f t159 t160 (wrap64 (x4_3 - 1))).bind fun t172 => (if t172 = true then (some false) else (quarrylaw06_EscapeRows.l0 kj38 x0_1 (wrap64 (x4_3 + 1)) t159 t160))) else (some false)) else (none)) else (none)) else (quarrylaw06_EscapeRows.l0 kj38 x0_1 (wrap64 (x4_3 + 1)) t159 t160)) = some r := by rw [if_neg (show ¬ (false = true) by decide)] at H; exact H
                                    clear H
                                    have H := H1
                                    clear H1
                                    by_cases c46 : t170 = true
                                    · subst c46
                                      have H1 : (if 0 ≤ (wrap64 (x4_3 - 1)) then (if (wrap64 (x4_3 - 1)) < (x0_1.size : Int) then (if (bt x0_1 (wrap64 (x4_3 - 1))) = 92 then ((bitmap_Get.f t159 t160 (wrap64 (x4_3 - 1))).bind fun t172 => (if t172 = true then (some false) else (quarrylaw06_EscapeRows.l0 kj38 x0_1 (wrap64 (x4_3 + 1)) t159 t160))) else (some false)) else (none)) else (none)) = some r := by rw [if_pos rfl] at H; exact H
                                      clear H
                                      have H := H1
                                      clear H1
                                      obtain ⟨ji47, hji47⟩ : ∃ j_ : Int, (wrap64 (x4_3 - 1)) = j_ := ⟨_, rfl⟩
                                      replace H : (if 0 ≤ (ji47) then (if (ji47) < (x0_1.size : Int) then (if (bt x0_1 (ji47)) = 92 then ((bitmap_Get.f t159 t160 (ji47)).bind fun t172 => (if t172 = true then (some false) else (quarrylaw06_EscapeRows.l0 kj38 x0_1 (wrap64 (x4_3 + 1)) t159 t160))) else (some false)) else (none)) else (none)) = some r := by first | (rw [hji47] at H; exact H) | (simp only [hji47] at H ⊢; exact H)
                                      have hji47w : (IntKind.i64.wrap (x4_3 - 1)) = ji47 := (i64_w _).trans hji47
                                      by_cases c48 : 0 ≤ (ji47)
                                      · rw [if_pos c48] at H
                                        have c48b0 : decide (0 ≤ (ji47)) = true := decide_eq_true c48
                                        clear c48
                                        by_cases c49 : (ji47) < (x0_1.size : Int)
                                        · rw [if_pos c49] at H
                                          have c49b0 : decide ((ji47) < (x0_1.size : Int)) = true := decide_eq_true c49
                                          clear c49
                                          by_cases c51 : (bt x0_1 (ji47)) = 92
                                          · rw [if_pos c51] at H
                                            have c51b0 : ((bt x0_1 (ji47)) == 92) = true := beq_iff_eq.mpr c51
                                            have c51b1 : ((bt x0_1 (ji47)) != 92) = false := bne_eq_false_iff_eq.mpr c51
                                            clear c51
                                            replace H := Option.bind_eq_some_iff.mp H
                                            obtain ⟨t172, A520, H⟩ := H
                                            replace H : (if t172 = true then (some false) else (quarrylaw06_EscapeRows.l0 kj38 x0_1 (wrap64 (x4_3 + 1)) t159 t160)) = some r := H
                                            have A52 := Aside0.mk A520
                                            clear A520
                                            by_cases c53 : t172 = true
                                            · subst c53
                                              have H1 : (some false) = some r := by rw [if_pos rfl] at H; exact H
                                              clear H
                                              have H := H1
                                              clear H1
                                              obtain rfl := Option.some.inj H
                                              have p50 : 0 ≤ ((ji47) : Int) := of_decide_eq_true (by first | (with_reducible assumption) | assumption)
                                              have q50 : (ji47) < (x0_1.size : Int) := of_decide_eq_true (by first | (with_reducible assumption) | assumption)
                                              have hx50 := bt_at x0_1 (ji47)
                                              replace p50 := eq_true p50
                                              replace q50 := eq_true q50
                                              have hcz54_0 : wc.cell? ⟨gb163, 0, none⟩ = some (.int .i64 t159) := (blk_cell BK163.out 0).trans rfl
                                              have hcz54_1 : wc.cell? ⟨gb163, 1, none⟩ = some (.slice Ao11 t160.length co11) := (blk_cell BK163.out 1).trans rfl
                                              have hfz54_0 := blk_frozen BK163.out 0
                                              have hfz54_1 := blk_frozen BK163.out 1
                                              go_wp2_with (first | (go_at_call 43; (with_reducible refine (bitmap_Get.calls t159 _ _ t160 ji47 true _ ?side1 ?side2 A52.out).mono ?_); (case side1 => repeat (first | exact (Kd.R_reads' HO_164001.out).2.2 | (with_reducible refine Kd.C_alloc ?_ _) | (with_reducible refine Kd.C_drewN ?_ _) | (with_reducible refine Kd.C_drew ?_))); (case side2 => exact (Kd.R_reads' HO_164001.out).2.1); rintro e w55 ⟨rfl, hb⟩; have n0_ := Aside0.mk (Kd.R_below (by (with_reducible repeat (first | apply Kd.R_alloc | apply Kd.R_drewN | apply Kd.R_drew)); exact HO_164001.out) hb); have n1_ := Aside0.mk (blk_below (g := gb163) (o := .cells #[.int .i64 t159, .slice Ao11 t160.length co11] 56 (0, 0)) (by (with_reducible repeat (first | refine blk_drewN ?_ _ | refine blk_drew ?_ | refine blk_alloc ?_ _)); exact BK163.out) hb); have n2_ := Aside0.mk (below_step (by repeat (first | (with_reducible first | exact HB.out | apply below_alloc | apply pw_below_drewN | apply below_drew1 | refine below_set ?_ GE163.out) | exact HB.out)) hb); clear HO_164001; clear BK163; clear HB; have HO_164001 := n0_; have BK163 := n1_; have HB := n2_; clear n0_ n1_ n2_; (try clear hb); (try clear hb2); (try clear hk); (try clear hi)))
                                              go_ret
                                              exact ⟨by first | rfl | (simp [errW_none, errW_some] <;> rfl) | (simp only [← hji47]; first | rfl | (simp [errW_none, errW_some] <;> rfl)) | (simp [*, errW_none, errW_some] <;> rfl), by repeat (first | (with_reducible first | exact HB.out | apply below_alloc | apply pw_below_drewN | apply below_drew1 | refine below_set ?_ GE163.out) | exact HB.out)⟩
                                            · replace c53 := Bool.eq_false_iff.mpr c53
                                              subst c53
                                              have H1 : (quarrylaw06_EscapeRows.l0 kj38 x0_1 (wrap64 (x4_3 + 1)) t159 t160) = some r := by rw [if_neg (show ¬ (false = true) by decide)] at H; exact H
                                              clear H
                                              have H := H1
                                              clear H1
                                              have H' := Aside0.mk H
                                              clear H
                                              have p50 : 0 ≤ ((ji47) : Int) := of_decide_eq_true (by first | (with_reducible assumption) | assumption)
                                              have q50 : (ji47) < (x0_1.size : Int) := of_decide_eq_true (by first | (with_reducible assumption) | assumption)
                                              have hx50 := bt_at x0_1 (ji47)
                                              replace p50 := eq_true p50
                                              replace q50 := eq_true q50
                                              have hcz56_0 : wc.cell? ⟨gb163, 0, none⟩ = some (.int .i64 t159) := (blk_cell BK163.out 0).trans rfl
                                              have hcz56_1 : wc.cell? ⟨gb163, 1, none⟩ = some (.slice Ao11 t160.length co11) := (blk_cell BK163.out 1).trans rfl
                                              have hfz56_0 := blk_frozen BK163.out 0
                                              have hfz56_1 := blk_frozen BK163.out 1
                                              go_wp2_with (first | (go_at_call 43; (with_reducible refine (bitmap_Get.calls t159 _ _ t160 ji47 false _ ?side1 ?side2 A52.out).mono ?_); (case side1 => repeat (first | exact (Kd.R_reads' HO_164001.out).2.2 | (with_reducible refine Kd.C_alloc ?_ _) | (with_reducible refine Kd.C_drewN ?_ _) | (with_reducible refine Kd.C_drew ?_))); (case side2 => exact (Kd.R_reads' HO_164001.out).2.1); rintro e w57 ⟨rfl, hb⟩; have n0_ := Aside0.mk (Kd.R_below (by (with_reducible repeat (first | apply Kd.R_alloc | apply Kd.R_drewN | apply Kd.R_drew)); exact HO_164001.out) hb); have n1_ := Aside0.mk (blk_below (g := gb163) (o := .cells #[.int .i64 t159, .slice Ao11 t160.length co11] 56 (0, 0)) (by (with_reducible repeat (first | refine blk_drewN ?_ _ | refine blk_drew ?_ | refine blk_alloc ?_ _)); exact BK163.out) hb); have n2_ := Aside0.mk (below_step (by repeat (first | (with_reducible first | exact HB.out | apply below_alloc | apply pw_below_drewN | apply below_drew1 | refine below_set ?_ GE163.out) | exact HB.out)) hb); clear HO_164001; clear BK163; clear HB; have HO_164001 := n0_; have BK163 := n1_; have HB := n2_; clear n0_ n1_ n2_; (try clear hb); (try clear hb2); (try clear hk); (try clear hi)))
                                              go_roundg kj38
                                              case measure => have := HJ1.out; have := HJ6.out; have := HK3.out; have := HJ19.out; have := HK5.out; have := HJ38.out; omega
                                              case rel => exact ⟨(wrap64 (x4_3 + 1)), (by first | rfl | (simp; done) | (simp [*]; done)), H', ⟨by have := HJ1.out; have := HJ6.out; have := HK3.out; have := HJ19.out; have := HK5.out; have := HJ38.out; omega⟩, ⟨by (with_reducible repeat (first | apply Kd.R_alloc | apply Kd.R_drewN | apply Kd.R_drew)); exact HO_164001.out⟩, ⟨by (with_reducible repeat (first | refine blk_drewN ?_ _ | refine blk_drew ?_ | refine blk_alloc ?_ _)); exact BK163.out⟩, ⟨by repeat (first | (with_reducible first | exact HB.out | apply below_alloc | apply pw_below_drewN | apply below_drew1 | refine below_set ?_ GE163.out) | exact HB.out)⟩⟩
                                          · rw [if_neg c51] at H
                                            have c51b0 : ((bt x0_1 (ji47)) == 92) = false := beq_eq_false_iff_ne.mpr c51
                                            have c51b1 : ((bt x0_1 (ji47)) != 92) = true := bne_iff_ne.mpr c51
                                            obtain rfl := Option.some.inj H
                                            have p50 : 0 ≤ ((ji47) : Int) := of_decide_eq_true (by first | (with_reducible assumption) | assumption)
                                            have q50 : (ji47) < (x0_1.size : Int) := of_decide_eq_true (by first | (with_reducible assumption) | assumption)
                                            have hx50 := bt_at x0_1 (ji47)
                                            replace p50 := eq_true p50
                                            replace q50 := eq_true q50
                                            go_wp2
                                            go_ret
                                            exact ⟨by first | rfl | (simp [errW_none, errW_some] <;> rfl) | (simp only [← hji47]; first | rfl | (simp [errW_none, errW_some] <;> rfl)) | (simp [*, errW_none, errW_some] <;> rfl), by repeat (first | (with_reducible first | exact HB.out | apply below_alloc | apply pw_below_drewN | apply below_drew1 | refine below_set ?_ GE163.out) | exact HB.out)⟩
                                        · rw [if_neg c49] at H
                                          exact absurd H (by simp)
                                      · rw [if_neg c48] at H
                                        exact absurd H (by simp)
                                    · replace c46 := Bool.eq_false_iff.mpr c46
                                      subst c46
                                      have H1 : (quarrylaw06_EscapeRows.l0 kj38 x0_1 (wrap64 (x4_3 + 1)) t159 t160) = some r := by rw [if_neg (show ¬ (false = true) by decide)] at H; exact H
                                      clear H
                                      have H := H1
                                      clear H1
                                      have H' := Aside0.mk H
                                      clear H
                                      go_wp2
                                      go_roundg kj38
                                      case measure => have := HJ1.out; have := HJ6.out; have := HK3.out; have := HJ19.out; have := HK5.out; have := HJ38.out; omega
                                      case rel => exact ⟨(wrap64 (x4_3 + 1)), (by first | rfl | (simp; done) | (simp [*]; done)), H', ⟨by have := HJ1.out; have := HJ6.out; have := HK3.out; have := HJ19.out; have := HK5.out; have := HJ38.out; omega⟩, ⟨by (with_reducible repeat (first | apply Kd.R_alloc | apply Kd.R_drewN | apply Kd.R_drew)); exact HO_164001.out⟩, ⟨by (with_reducible repeat (first | refine blk_drewN ?_ _ | refine blk_drew ?_ | refine blk_alloc ?_ _)); exact BK163.out⟩, ⟨by repeat (first | (with_reducible first | exact HB.out | apply below_alloc | apply pw_below_drewN | apply below_drew1 | refine below_set ?_ GE163.out) | exact HB.out)⟩⟩
                · rw [if_neg c18] at H
                  have c18b0 : decide (x4_3 < (x0_1.size : Int)) = false := decide_eq_false c18
                  clear c18
                  replace H := Option.bind_eq_some_iff.mp H
                  obtain ⟨⟨t165, t166⟩, A580, H⟩ := H
                  replace H : ((escape_Behind.f k3 x0_1 false).bind fun t167 => (if (t167 == t166) = true then ((escape_Behind.f k3 (⟨#[92]⟩ : ByteArray) false).bind fun t168 => (some t168)) else (some false))) = some r := H
                  have A58 := Aside0.mk A580
                  clear A580
                  replace H := Option.bind_eq_some_iff.mp H
                  obtain ⟨t167, A590, H⟩ := H
                  replace H : (if (t167 == t166) = true then ((escape_Behind.f k3 (⟨#[92]⟩ : ByteArray) false).bind fun t168 => (some t168)) else (some false)) = some r := H
                  have A59 := Aside0.mk A590
                  clear A590
                  by_cases c60 : (t167 == t166) = true
                  · rw [if_pos c60] at H
                    have c60b0 : (t167 == t166) = true := c60
                    (try (have c60b1 : decide (t167 = t166) = true := by simpa using c60))
                    (try (have c60b2 : (t167 == t166) = true := by simpa using c60))
                    clear c60
                    replace H := Option.bind_eq_some_iff.mp H
                    obtain ⟨t168, A610, H⟩ := H
                    replace H : (some t168) = some r := H
                    have A61 := Aside0.mk A610
                    clear A610
                    obtain rfl := Option.some.inj H
                    go_wp2_with (first | ((with_reducible refine gate_callee (f := 15) rfl ?_); refine goesL_ (some 99) rfl rfl Try.func15 (by kernel_rfl) rfl #[.string x0_1, .int .i64 (x0_1.size : Int)] rfl (by (try simp only [List.map_toArray, List.map_cons, List.map_nil]); first | done | rfl | (simp only [List.length_drop, List.length_take]; rfl)) ?_; (with_reducible refine (escape_Odd.calls k3 x0_1 (x0_1.size : Int) t165 t166 _ A58.out).mono ?_); rintro e w' ⟨rfl, ⟨nd, rfl⟩⟩; refine ⟨_, rfl, ?_⟩) | ((with_reducible refine gate_callee (f := 17) rfl ?_); refine goesL_ (some 103) rfl rfl Try.func17 (by kernel_rfl) rfl #[.string x0_1, .bool false] rfl (by (try simp only [List.map_toArray, List.map_cons, List.map_nil]); first | done | rfl | (simp only [List.length_drop, List.length_take]; rfl)) ?_; (with_reducible refine (escape_Behind.calls k3 x0_1 false t167 _ A59.out).mono ?_); rintro e w' ⟨rfl, ⟨nd, rfl⟩⟩; refine ⟨_, rfl, ?_⟩) | (go_at_call 17; (with_reducible refine (escape_Behind.calls k3 (⟨#[92]⟩ : ByteArray) false t168 _ A61.out).mono ?_); rintro e w' ⟨rfl, ⟨nd, rfl⟩⟩))
                    go_ret
                    exact ⟨by first | rfl | (simp [errW_none, errW_some] <;> rfl) | (simp [*, errW_none, errW_some] <;> rfl), by repeat (first | (with_reducible first | exact HB.out | apply below_alloc | apply pw_below_drewN | apply below_drew1 | refine below_set ?_ GE163.out) | exact HB.out)⟩
                  · rw [if_neg c60] at H
                    have c60b0 : (t167 == t166) = false := by simpa using c60
                    (try (have c60b1 : decide (t167 = t166) = false := by simpa using c60))
                    (try (have c60b2 : (t167 == t166) = false := by simpa using c60))
                    (try (have c60b3 : ¬ (t167 = t166) := by simpa using c60))
                    clear c60
                    obtain rfl := Option.some.inj H
                    go_wp2_with (first | ((with_reducible refine gate_callee (f := 15) rfl ?_); refine goesL_ (some 99) rfl rfl Try.func15 (by kernel_rfl) rfl #[.string x0_1, .int .i64 (x0_1.size : Int)] rfl (by (try simp only [List.map_toArray, List.map_cons, List.map_nil]); first | done | rfl | (simp only [List.length_drop, List.length_take]; rfl)) ?_; (with_reducible refine (escape_Odd.calls k3 x0_1 (x0_1.size : Int) t165 t166 _ A58.out).mono ?_); rintro e w' ⟨rfl, ⟨nd, rfl⟩⟩; refine ⟨_, rfl, ?_⟩) | ((with_reducible refine gate_callee (f := 17) rfl ?_); refine goesL_ (some 103) rfl rfl Try.func17 (by kernel_rfl) rfl #[.string x0_1, .bool false] rfl (by (try simp only [List.map_toArray, List.map_cons, List.map_nil]); first | done | rfl | (simp only [List.length_drop, List.length_take]; rfl)) ?_; (with_reducible refine (escape_Behind.calls k3 x0_1 false t167 _ A59.out).mono ?_); rintro e w' ⟨rfl, ⟨nd, rfl⟩⟩; refine ⟨_, rfl, ?_⟩))
                    go_ret
                    exact ⟨by first | rfl | (simp [errW_none, errW_some] <;> rfl) | (simp [*, errW_none, errW_some] <;> rfl), by repeat (first | (with_reducible first | exact HB.out | apply below_alloc | apply pw_below_drewN | apply below_drew1 | refine below_set ?_ GE163.out) | exact HB.out)⟩

/-- THE ONE PURE STATEMENT of quarrylaw06_EscapeRows: yours. -/
def quarrylaw06_EscapeRows.Pure : Prop := ∀ (a0 : ByteArray), a0.size ≤ 140737488351232 → ∃ k, quarrylaw06_EscapeRows.f k a0 = some true
theorem quarrylaw06_EscapeRows.walk (P : quarrylaw06_EscapeRows.Pure) (a0 : ByteArray) (w : World) (w0 : a0.size ≤ 140737488351232) :
    Calls Try.prog 14 #[.string a0] w fun e w' => e = .returned (.bool true) ∧ Below w.heap.size w w' := by
  obtain ⟨k, h⟩ := P a0 w0
  refine (quarrylaw06_EscapeRows.calls k a0 true w h).mono ?_
  rintro e w' ⟨rfl, hd⟩
  exact ⟨rfl, hd⟩

end Go.Proofs.Ytoimelcdhkmceaa.PE
