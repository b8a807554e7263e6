-- Written by a program (myprint.py, over the kit's print) for this claim. Not trusted: Lean checks it.
import Derived.Test.YtoimelcdhkmceabPJx0
namespace Go.Proofs.Ytoimelcdhkmceab.PJ
open Go.RowKit Go.Proofs.YtoimelcdhkmceabW.PrintWords Go.Proofs.YtoimelcdhkmceabW.PrintLast Go.Proofs.YtoimelcdhkmceabW.PrintMore
attribute [local go_sem] max2_int min2_int max_two min_two max_three min_three max_four min_four   -- for this text's walks alone
set_option linter.unusedVariables false
set_option linter.unusedSimpArgs false

/-! ### escape_Odd: function 7 -/
mutual
def escape_Odd.j0 : Nat → ByteArray → Int → Bool → Option (Int × Bool)
  | 0, _, _, _ => none
  | k + 1, x0, x1, x14 => if x14 = true then (some (0, false)) else (escape_Odd.l0 k x0 x1 x1)
def escape_Odd.l0 : Nat → ByteArray → Int → Int → Option (Int × Bool)
  | 0, _, _, _ => none
  | k + 1, x0, x1, x6 => if x6 > 0 then (if 0 ≤ (wrap64 (x6 - 1)) then (if (wrap64 (x6 - 1)) < (x0.size : Int) then (if (bt x0 (wrap64 (x6 - 1))) = 92 then (escape_Odd.l0 k x0 x1 (wrap64 (x6 - 1))) else (some (x6, ((Int.tmod (wrap64 (x1 - x6)) 2) == 1)))) else (none)) else (none)) else (some (x6, ((Int.tmod (wrap64 (x1 - x6)) 2) == 1)))
end
def escape_Odd.f (k : Nat) (a0 : ByteArray) (a1 : Int) : Option (Int × Bool) := if a1 < 0 then (escape_Odd.j0 k a0 a1 true) else (escape_Odd.j0 k a0 a1 (decide (a1 > (a0.size : Int))))
theorem escape_Odd.mono_l : ∀ k, (∀ y0 y1 y2, LeO (escape_Odd.j0 k y0 y1 y2) (escape_Odd.j0 (k + 1) y0 y1 y2)) ∧ (∀ y0 y1 y2, LeO (escape_Odd.l0 k y0 y1 y2) (escape_Odd.l0 (k + 1) y0 y1 y2))
  | 0 => ⟨fun _ _ _ r h => by simp [escape_Odd.j0] at h, fun _ _ _ r h => by simp [escape_Odd.l0] at h⟩
  | k + 1 => by
    obtain ⟨ih0, ih1⟩ := escape_Odd.mono_l k
    refine ⟨?_, ?_⟩
    · intro y0 y1 y2
      unfold escape_Odd.j0
      repeat' first
      | (with_reducible exact ih0 _ _ _)
      | (with_reducible exact ih1 _ _ _)
      | (with_reducible exact LeO.refl _)
      | (with_reducible exact LeO.none _)
      | (with_reducible refine LeO.ite ?_ ?_)
      | (with_reducible refine LeO.bind ?_ (fun _ => ?_))
      | exact ih0 _ _ _
      | exact ih1 _ _ _
      | exact LeO.none _
      | refine LeO.ite ?_ ?_
      | refine LeO.bind ?_ (fun _ => ?_)
    · intro y0 y1 y2
      unfold escape_Odd.l0
      repeat' first
      | (with_reducible exact ih0 _ _ _)
      | (with_reducible exact ih1 _ _ _)
      | (with_reducible exact LeO.refl _)
      | (with_reducible exact LeO.none _)
      | (with_reducible refine LeO.ite ?_ ?_)
      | (with_reducible refine LeO.bind ?_ (fun _ => ?_))
      | exact ih0 _ _ _
      | exact ih1 _ _ _
      | exact LeO.none _
      | refine LeO.ite ?_ ?_
      | refine LeO.bind ?_ (fun _ => ?_)
theorem escape_Odd.mono : ∀ a0 a1 k, LeO (escape_Odd.f k a0 a1) (escape_Odd.f (k + 1) a0 a1) := by
  intro a0 a1 k
  obtain ⟨ih0, ih1⟩ := escape_Odd.mono_l k
  unfold escape_Odd.f
  repeat' first
      | (with_reducible exact ih0 _ _ _)
      | (with_reducible exact ih1 _ _ _)
      | (with_reducible exact LeO.refl _)
      | (with_reducible exact LeO.none _)
      | (with_reducible refine LeO.ite ?_ ?_)
      | (with_reducible refine LeO.bind ?_ (fun _ => ?_))
      | exact ih0 _ _ _
      | exact ih1 _ _ _
      | exact LeO.none _
      | refine LeO.ite ?_ ?_
      | refine LeO.bind ?_ (fun _ => ?_)
set_option maxHeartbeats 8000000 in
set_option maxRecDepth 100000 in
theorem escape_Odd.calls (k : Nat) (a0 : ByteArray) (a1 : Int) (r1 : Int) (r2 : Bool) (w : World) (h : escape_Odd.f k a0 a1 = some (r1, r2)) :
    Calls Try.prog 7 #[.string a0, .int .i64 a1] w fun e w' => e = .returned (.tuple #[.int .i64 r1, .bool r2]) ∧ Drawn0 w w' := by
  have H : (if a1 < 0 then (escape_Odd.j0 k a0 a1 true) else (escape_Odd.j0 k a0 a1 (decide (a1 > (a0.size : Int))))) = some (r1, r2) := h
  clear h
  have HC3 := Aside0.mk H
  clear H
  go_enter Try.func7, Try.ntmps7
  go_upto_region 1 with (fail)
  go_cut [14] (fun v14 wc => ∃ (kq : Nat) (x14_2 : Bool), v14 = .bool x14_2 ∧ Aside0 (escape_Odd.j0 kq a0 a1 x14_2 = some (r1, r2)) ∧ Aside0 (kq ≤ k) ∧ Drawn0 w wc)
  case first =>
    have H := HC3.out
    clear HC3
    by_cases c4 : a1 < 0
    · rw [if_pos c4] at H
      have c4b0 : decide (a1 < 0) = true := decide_eq_true c4
      clear c4
      (first | rw [c4b0] | (simp only [i64_w, i32_w]; rw [c4b0]) | skip)
      have H' := Aside0.mk H
      clear H
      go_wp2
      go_meet
      case rel => exact ⟨_, (true), (by first | rfl | (simp; done) | (simp [*]; done)), H', ⟨by first | omega | exact Nat.le_refl _⟩, by repeat (first | exact Drawn0.refl _ | apply Drawn0.step)⟩
    · rw [if_neg c4] at H
      have c4b0 : decide (a1 < 0) = false := decide_eq_false c4
      clear c4
      (first | rw [c4b0] | (simp only [i64_w, i32_w]; rw [c4b0]) | skip)
      have H' := Aside0.mk H
      clear H
      go_wp2
      go_meet
      case rel => exact ⟨_, (decide (a1 > (a0.size : Int))), (by first | rfl | (simp; done) | (simp [*]; done)), H', ⟨by first | omega | exact Nat.le_refl _⟩, by repeat (first | exact Drawn0.refl _ | apply Drawn0.step)⟩
  case rest =>
    clear HC3
    try clear p2
    try clear c4
    try clear c4b0
    obtain ⟨kq, x14_2, rfl, HA, HJ2, ⟨mc2, rfl⟩⟩ := hcut
    cases kq with
    | zero => exact absurd HA.out (by simp [escape_Odd.j0])
    | succ kj2 =>
      have H := HA.out
      clear HA
      simp only [escape_Odd.j0] at H
      by_cases c5 : x14_2 = true
      · subst c5
        have H1 : (some (0, false)) = some (r1, r2) := by rw [if_pos rfl] at H; exact H
        clear H
        have H := H1
        clear H1
        simp only [Option.some.injEq, Prod.mk.injEq] at H
        obtain ⟨rfl, rfl⟩ := H
        go_wp2
        go_ret2
        exact ⟨by first | rfl | (simp; done) | (simp [*]; done), by repeat (first | exact Drawn0.refl _ | apply Drawn0.step)⟩
      · replace c5 := Bool.eq_false_iff.mpr c5
        subst c5
        have H1 : (escape_Odd.l0 kj2 a0 a1 a1) = some (r1, r2) := by rw [if_neg (show ¬ (false = true) by decide)] at H; exact H
        clear H
        have H := H1
        clear H1
        have H' := Aside0.mk H
        clear H
        go_wp2
        go_loopg [6] kj2 (fun kq v6 w' => ∃ (x6_2 : Int), v6 = .int .i64 x6_2 ∧ Aside0 (escape_Odd.l0 kq a0 a1 x6_2 = some (r1, r2)) ∧ Aside0 (kq ≤ kj2) ∧ Drawn0 w w')
        case atStart => exact ⟨(a1), (by first | rfl | (simp; done) | (simp [*]; done)), H', ⟨Nat.le_refl _⟩, by repeat (first | exact Drawn0.refl _ | apply Drawn0.step)⟩
        case round =>
          clear H'
          try clear c2
          try clear p2
          try clear c4
          try clear c4b0
          try clear c5
          try clear p2
          obtain ⟨x6_2, rfl, HA, HK2, ⟨m2, rfl⟩⟩ := hrel
          cases gk with
          | zero => exact absurd HA.out (by simp [escape_Odd.l0])
          | succ k2 =>
            have H := HA.out
            clear HA
            simp only [escape_Odd.l0] at H
            by_cases c6 : x6_2 > 0
            · rw [if_pos c6] at H
              have c6b0 : decide (0 < x6_2) = true := decide_eq_true c6
              clear c6
              obtain ⟨ji7, hji7⟩ : ∃ j_ : Int, (wrap64 (x6_2 - 1)) = j_ := ⟨_, rfl⟩
              replace H : (if 0 ≤ (ji7) then (if (ji7) < (a0.size : Int) then (if (bt a0 (ji7)) = 92 then (escape_Odd.l0 k2 a0 a1 ji7) else (some (x6_2, ((Int.tmod (wrap64 (a1 - x6_2)) 2) == 1)))) else (none)) else (none)) = some (r1, r2) := by first | (rw [hji7] at H; exact H) | (simp only [hji7] at H ⊢; exact H)
              have hji7w : (IntKind.i64.wrap (x6_2 - 1)) = ji7 := (i64_w _).trans hji7
              by_cases c8 : 0 ≤ (ji7)
              · rw [if_pos c8] at H
                have c8b0 : decide (0 ≤ (ji7)) = true := decide_eq_true c8
                clear c8
                by_cases c9 : (ji7) < (a0.size : Int)
                · rw [if_pos c9] at H
                  have c9b0 : decide ((ji7) < (a0.size : Int)) = true := decide_eq_true c9
                  clear c9
                  by_cases c11 : (bt a0 (ji7)) = 92
                  · rw [if_pos c11] at H
                    have c11b0 : ((bt a0 (ji7)) == 92) = true := beq_iff_eq.mpr c11
                    have c11b1 : ((bt a0 (ji7)) != 92) = false := bne_eq_false_iff_eq.mpr c11
                    clear c11
                    have H' := Aside0.mk H
                    clear H
                    have p10 : 0 ≤ ((ji7) : Int) := of_decide_eq_true (by first | (with_reducible assumption) | assumption)
                    have q10 : (ji7) < (a0.size : Int) := of_decide_eq_true (by first | (with_reducible assumption) | assumption)
                    have hx10 := bt_at a0 (ji7)
                    replace p10 := eq_true p10
                    replace q10 := eq_true q10
                    go_wp2
                    go_roundg k2
                    case measure => have := HJ2.out; have := HK2.out; omega
                    case rel => exact ⟨(ji7), (by first | rfl | (simp; done) | (simp only [← hji7] <;> (first | rfl | simp)) | (simp [*]; done)), H', ⟨by have := HJ2.out; have := HK2.out; omega⟩, by repeat (first | exact Drawn0.refl _ | apply Drawn0.step)⟩
                  · rw [if_neg c11] at H
                    have c11b0 : ((bt a0 (ji7)) == 92) = false := beq_eq_false_iff_ne.mpr c11
                    have c11b1 : ((bt a0 (ji7)) != 92) = true := bne_iff_ne.mpr c11
                    simp only [Option.some.injEq, Prod.mk.injEq] at H
                    obtain ⟨rfl, rfl⟩ := H
                    have p10 : 0 ≤ ((ji7) : Int) := of_decide_eq_true (by first | (with_reducible assumption) | assumption)
                    have q10 : (ji7) < (a0.size : Int) := of_decide_eq_true (by first | (with_reducible assumption) | assumption)
                    have hx10 := bt_at a0 (ji7)
                    replace p10 := eq_true p10
                    replace q10 := eq_true q10
                    go_wp2
                    go_ret2
                    exact ⟨by first | rfl | (simp; done) | (simp only [← hji7] <;> (first | rfl | simp)) | (simp [*]; done), by repeat (first | exact Drawn0.refl _ | apply Drawn0.step)⟩
                · rw [if_neg c9] at H
                  exact absurd H (by simp)
              · rw [if_neg c8] at H
                exact absurd H (by simp)
            · rw [if_neg c6] at H
              have c6b0 : decide (0 < x6_2) = false := decide_eq_false c6
              clear c6
              simp only [Option.some.injEq, Prod.mk.injEq] at H
              obtain ⟨rfl, rfl⟩ := H
              go_wp2
              go_ret2
              exact ⟨by first | rfl | (simp; done) | (simp [*]; done), by repeat (first | exact Drawn0.refl _ | apply Drawn0.step)⟩

/-! ### escape_Behind: function 4 -/
def escape_Behind.f (k : Nat) (a0 : ByteArray) (a1 : Bool) : Option (Bool) := (escape_Odd.f k a0 (a0.size : Int)).bind fun bt101 => (if bt101.1 = 0 then (if a1 = true then (some (!bt101.2)) else (some bt101.2)) else (some bt101.2))
theorem escape_Behind.mono : ∀ a0 a1 k, LeO (escape_Behind.f k a0 a1) (escape_Behind.f (k + 1) a0 a1) := by
  intro a0 a1 k
  unfold escape_Behind.f
  repeat' first
      | (with_reducible exact escape_Odd.mono _ _ _)
      | (with_reducible exact LeO.refl _)
      | (with_reducible exact LeO.none _)
      | (with_reducible refine LeO.ite ?_ ?_)
      | (with_reducible refine LeO.bind ?_ (fun _ => ?_))
      | exact escape_Odd.mono _ _ _
      | exact LeO.none _
      | refine LeO.ite ?_ ?_
      | refine LeO.bind ?_ (fun _ => ?_)
set_option maxHeartbeats 8000000 in
set_option maxRecDepth 100000 in
theorem escape_Behind.calls (k : Nat) (a0 : ByteArray) (a1 : Bool) (r : Bool) (w : World) (h : escape_Behind.f k a0 a1 = some r) :
    Calls Try.prog 4 #[.string a0, .bool a1] w fun e w' => e = .returned (.bool r) ∧ Drawn0 w w' := by
  have H : ((escape_Odd.f k a0 (a0.size : Int)).bind fun bt101 => (if bt101.1 = 0 then (if a1 = true then (some (!bt101.2)) else (some bt101.2)) else (some bt101.2))) = some r := h
  clear h
  replace H := Option.bind_eq_some_iff.mp H
  obtain ⟨⟨t101, t102⟩, A30, H⟩ := H
  replace H : (if t101 = 0 then (if a1 = true then (some (!t102)) else (some t102)) else (some t102)) = some r := H
  have A3 := Aside0.mk A30
  clear A30
  by_cases c4 : t101 = 0
  · rw [if_pos c4] at H
    have c4b0 : (t101 == 0) = true := beq_iff_eq.mpr c4
    have c4b1 : (t101 != 0) = false := bne_eq_false_iff_eq.mpr c4
    clear c4
    by_cases c5 : a1 = true
    · subst c5
      have H1 : (some (!t102)) = some r := by rw [if_pos rfl] at H; exact H
      clear H
      have H := H1
      clear H1
      obtain rfl := Option.some.inj H
      go_enter Try.func4, Try.ntmps4
      go_wp2_with (first | ((with_reducible refine gate_callee (f := 7) rfl ?_); refine goesL_ (some 11) rfl rfl Try.func7 (by kernel_rfl) rfl #[.string a0, .int .i64 (a0.size : Int)] rfl (by (try simp only [List.map_toArray, List.map_cons, List.map_nil]); first | done | rfl | (simp only [List.length_drop, List.length_take]; rfl)) ?_; (with_reducible refine (escape_Odd.calls k a0 (a0.size : Int) t101 t102 _ A3.out).mono ?_); rintro e w' ⟨rfl, ⟨nd, rfl⟩⟩; refine ⟨_, rfl, ?_⟩))
      go_ret
      exact ⟨by first | rfl | (simp; done) | (simp [*]; done), by repeat (first | exact Drawn0.refl _ | apply Drawn0.step)⟩
    · replace c5 := Bool.eq_false_iff.mpr c5
      subst c5
      have H1 : (some t102) = some r := by rw [if_neg (show ¬ (false = true) by decide)] at H; exact H
      clear H
      have H := H1
      clear H1
      obtain rfl := Option.some.inj H
      go_enter Try.func4, Try.ntmps4
      go_wp2_with (first | ((with_reducible refine gate_callee (f := 7) rfl ?_); refine goesL_ (some 11) rfl rfl Try.func7 (by kernel_rfl) rfl #[.string a0, .int .i64 (a0.size : Int)] rfl (by (try simp only [List.map_toArray, List.map_cons, List.map_nil]); first | done | rfl | (simp only [List.length_drop, List.length_take]; rfl)) ?_; (with_reducible refine (escape_Odd.calls k a0 (a0.size : Int) t101 t102 _ A3.out).mono ?_); rintro e w' ⟨rfl, ⟨nd, rfl⟩⟩; refine ⟨_, rfl, ?_⟩))
      go_ret
      exact ⟨by first | rfl | (simp; done) | (simp [*]; done), by repeat (first | exact Drawn0.refl _ | apply Drawn0.step)⟩
  · rw [if_neg c4] at H
    have c4b0 : (t101 == 0) = false := beq_eq_false_iff_ne.mpr c4
    have c4b1 : (t101 != 0) = true := bne_iff_ne.mpr c4
    obtain rfl := Option.some.inj H
    go_enter Try.func4, Try.ntmps4
    go_wp2_with (first | ((with_reducible refine gate_callee (f := 7) rfl ?_); refine goesL_ (some 11) rfl rfl Try.func7 (by kernel_rfl) rfl #[.string a0, .int .i64 (a0.size : Int)] rfl (by (try simp only [List.map_toArray, List.map_cons, List.map_nil]); first | done | rfl | (simp only [List.length_drop, List.length_take]; rfl)) ?_; (with_reducible refine (escape_Odd.calls k a0 (a0.size : Int) t101 t102 _ A3.out).mono ?_); rintro e w' ⟨rfl, ⟨nd, rfl⟩⟩; refine ⟨_, rfl, ?_⟩))
    go_ret
    exact ⟨by first | rfl | (simp; done) | (simp [*]; done), by repeat (first | exact Drawn0.refl _ | apply Drawn0.step)⟩

/-! ### block_Blocks: function 8 -/
open Go.Proofs.YtoimelcdhkmceabQ Go.Proofs.YtoimelcdhkmceabM in
set_option maxHeartbeats 4000000 in
set_option maxRecDepth 100000 in
theorem block_Blocks.calls (s : ByteArray) (pad : Int) (w : World) :
    Calls Try.prog 8 #[.string s, .int .u8 pad] w fun e w' => ∃ g1 g2 : Nat, e = .returned (.func (.func 12) #[] #[.pointer (some ⟨g1, 0, none⟩), .pointer (some ⟨g2, 0, none⟩)]) ∧
      w.heap.size ≤ g1 ∧ w.heap.size ≤ g2 ∧ Blk w' g1 #[.string s] 9 ∧ Blk w' g2 #[.int .u8 pad] 5 ∧ BelowH w w' := by
  have HB := BelowH.refl w
  go_enter Try.func8, Try.ntmps8
  go_wp2_with (first | ((with_reducible refine gate_dst (N := 2) rfl ?_); refine ev_alloc HB rfl (#[.string s]) 9 ?hr ?_; (case hr => first | (go_simp; done) | (go_simp; rfl)); intro g1 w1 G_g1 GE_g1 B_g1 HBn K_g1; clear HB; have HB := HBn; clear HBn) | ((with_reducible refine gate_dst (N := 3) rfl ?_); refine ev_alloc HB rfl (#[.int .u8 pad]) 5 ?hr ?_; (case hr => first | (go_simp; done) | (go_simp; rfl)); intro g2 w2 G_g2 GE_g2 B_g2 HBn K_g2; clear HB; have HB := HBn; clear HBn))
  go_ret
  exact ⟨g1, g2, rfl, GE_g1.out, GE_g2.out, B_g1.below K_g2.out, B_g2, HB⟩


/-! ### lanes_Load: function 14 -/
open Go.Proofs.YtoimelcdhkmceabQ Go.Proofs.YtoimelcdhkmceabM in
set_option maxHeartbeats 4000000 in
set_option maxRecDepth 100000 in
theorem lanes_Load.calls (f : Nat → Int) (hf : ∀ i, 0 ≤ f i ∧ f i < 256) (w : World) :
    Calls Try.prog 14 #[.agg (arrA 8 f)] w fun e w' => e = .returned (.int .u64 (loadN f 8 : Nat)) ∧ Below w.heap.size w w' := by
  have HB := BelowH.refl w
  have HF := Aside0.mk fun i => hf i
  clear hf
  go_enter Try.func14, Try.ntmps14
  go_wp2_with (first
    | ((with_reducible refine gate_dst (N := 1) rfl ?_); refine ev_alloc HB rfl (arrA 8 f) 44 ?hr ?_; (case hr => first | (go_simp; done) | (go_simp; rfl)); intro g1 w1 G_g1 GE_g1 B_g1 HBn K_g1; clear HB; have HB := HBn; clear HBn))
  go_loopw [3, 6] (fun v3 v6 wr => ∃ i : Nat, i ≤ 8 ∧ v6 = .int .i64 i ∧ v3 = .int .u64 (loadN f i : Nat) ∧ Blk wr g1 (arrA 8 f) 44 ∧ BelowH w wr) (fun _ v6 _ => 8 - (intOf v6).toNat)
  case atStart => exact ⟨0, by omega, rfl, rfl, B_g1, HB⟩
  case round =>
    clear B_g1 HB
    obtain ⟨i, hi, rfl, rfl, B1, HB⟩ := hrel
    by_cases hlt : i < 8
    · have hc := B1.cell (arrA_get 8 f hlt)
      have h1 : (i : Int) < 8 := by omega
      go_wp2
      go_quiet (fail)
      go_wp2
      go_roundw
      case rel =>
        refine ⟨i + 1, by omega, by go_num, ?_, B1.drewN _, HB.drewN _⟩
        rw [load_step f HF.out hlt]
      case measure => simp [intOf]; omega
    · go_wp2
      go_ret
      obtain rfl : i = 8 := by omega
      exact ⟨rfl, HB.out⟩


/-! ### lanes_Fill: function 19 -/
def lanes_Fill.f (a0 : Int) : Option (Int) := some (IntKind.u64.wrap (72340172838076673 * (IntKind.u64.wrap (a0))))
set_option maxHeartbeats 8000000 in
set_option maxRecDepth 100000 in
theorem lanes_Fill.calls (a0 : Int) (r : Int) (w : World) (h : lanes_Fill.f a0 = some r) :
    Calls Try.prog 19 #[.int .u8 a0] w fun e w' => e = .returned (.int .u64 r) ∧ Drawn0 w w' := by
  have H : (some (IntKind.u64.wrap (72340172838076673 * (IntKind.u64.wrap (a0))))) = some r := h
  clear h
  obtain rfl := Option.some.inj H
  go_enter Try.func19, Try.ntmps19
  go_wp2
  go_ret
  exact ⟨by first | rfl | (simp; done) | (simp [*]; done), by repeat (first | exact Drawn0.refl _ | apply Drawn0.step)⟩

/-! ### lanes_tops: function 20 -/
def lanes_tops.f (a0 : Int) : Option (Int) := some (((IntKind.u64.wrap (((Go.bits .and .u64 a0 9259542123273814144) / 128) * 72624976668147840)) / 72057594037927936) % 256)
set_option maxHeartbeats 8000000 in
set_option maxRecDepth 100000 in
theorem lanes_tops.calls (a0 : Int) (r : Int) (w : World) (h : lanes_tops.f a0 = some r) :
    Calls Try.prog 20 #[.int .u64 a0] w fun e w' => e = .returned (.int .u8 r) ∧ Drawn0 w w' := by
  have H : (some (((IntKind.u64.wrap (((Go.bits .and .u64 a0 9259542123273814144) / 128) * 72624976668147840)) / 72057594037927936) % 256)) = some r := h
  clear h
  obtain rfl := Option.some.inj H
  go_enter Try.func20, Try.ntmps20
  go_wp2
  go_ret
  exact ⟨by first | rfl | (simp; done) | (simp [*]; done), by repeat (first | exact Drawn0.refl _ | apply Drawn0.step)⟩

/-! ### lanes_Equal: function 15 -/
open Go.Proofs.YtoimelcdhkmceabQ Go.Proofs.YtoimelcdhkmceabM in
set_option maxHeartbeats 4000000 in
set_option maxRecDepth 100000 in
theorem lanes_Equal.calls (f : Nat → Int) (hf : ∀ i, 0 ≤ f i ∧ f i < 256) (c : Int) (h0 : 0 ≤ c) (h1 : c < 256) (w : World) :
    Calls Try.prog 15 #[.int .u64 (loadN f 8 : Nat), .int .u8 c] w fun e w' => e = .returned (.int .u8 (wordN (fun j => decide (f j = c)) 8 : Nat)) ∧ Drawn0 w w' := by
  have E := Aside0.mk (equal_lanes f hf c h0 h1)
  clear hf h0 h1
  obtain ⟨x, hx⟩ : ∃ x : Int, x = ((loadN f 8 : Nat) : Int) := ⟨_, rfl⟩
  rw [← hx] at E ⊢
  clear hx
  go_enter Try.func15, Try.ntmps15
  go_wp2_with (first
    | (go_at_call 19; refine (lanes_Fill.calls c _ _ rfl).mono ?_; rintro e w' ⟨rfl, ⟨nd, rfl⟩⟩)
    | (go_at_call 20; refine (lanes_tops.calls _ _ _ rfl).mono ?_; rintro e w' ⟨rfl, ⟨nd2, rfl⟩⟩))
  go_ret
  refine ⟨?_, ?_⟩
  · rw [← E.out]; rfl
  · repeat (first | exact Drawn0.refl _ | apply Drawn0.step)


/-! ### block_Equal: function 9 -/
open Go.Proofs.YtoimelcdhkmceabQ Go.Proofs.YtoimelcdhkmceabM in
theorem size8' (f : Nat → Int) : (Try.prog.info? 44).map (·.size) = some (arrA 8 f).size := by
  rw [arrA_size]
  kernel_rfl
open Go.Proofs.YtoimelcdhkmceabQ Go.Proofs.YtoimelcdhkmceabM in
set_option maxHeartbeats 4000000 in
set_option maxRecDepth 100000 in
theorem block_Equal.calls (f : Nat → Int) (hf : ∀ i, 0 ≤ f i ∧ f i < 256) (c : Int) (h0 : 0 ≤ c) (h1 : c < 256) (w : World) :
    Calls Try.prog 9 #[.agg (blkA f), .int .u8 c] w fun e w' => e = .returned (.int .u64 (iv (word fun j => decide (f j = c)))) ∧ Below w.heap.size w w' := by
  have HB := BelowH.refl w
  have HF := Aside0.mk fun i => hf i
  have H0 := Aside0.mk h0
  have H1 := Aside0.mk h1
  clear hf h0 h1
  go_enter Try.func9, Try.ntmps9
  go_wp2_with (first | ((with_reducible refine gate_dst (N := 2) rfl ?_); refine ev_alloc HB rfl (blkA f) 34 ?hr ?_; (case hr => first | (go_simp; done) | (go_simp; rfl)); intro g1 w1 G_g1 GE_g1 B_g1 HBn K_g1; clear HB; have HB := HBn; clear HBn))
  go_loopw [5, 6] (fun v5 v6 wr => ∃ i : Nat, i ≤ 8 ∧ v6 = .int .i64 (8 * (i : Int)) ∧ v5 = .int .u64 (wordN (fun j => decide (f j = c)) (8 * i) : Nat) ∧ Blk wr g1 (blkA f) 34 ∧ BelowH w wr) (fun _ v6 _ => 64 - (intOf v6).toNat)
  case atStart => exact ⟨0, by omega, rfl, rfl, B_g1, HB⟩
  case round =>
    clear B_g1 HB
    obtain ⟨i, hi, rfl, rfl, B1, HB⟩ := hrel
    by_cases hlt : i < 8
    · have k1 : 8 * (i : Int) < 64 := by omega
      have KI := Aside0.mk hlt
      have K2 : Aside0 (∀ j, j < 8 → (blkA f)[8 * i + j]? = some (.int .u8 (f (8 * i + j)))) := ⟨fun j hj => blkA_get f (by omega)⟩
      have K3 : Aside0 (∀ j, 0 ≤ f (8 * i + j) ∧ f (8 * i + j) < 256) := ⟨fun j => HF.out _⟩
      go_wp2_with (first
        | ((with_reducible refine gate_dst (N := 15) rfl ?_); refine ev_sliceArr rfl 34 _ _ _ rfl g1 (8 * i) (8 * i + 8) 64 _ _ 5 rfl rfl rfl (by omega) (by omega) Try.underlying34 (by kernel_rfl) (by omega) (by omega) (by omega) ?_)
        | ((with_reducible refine gate_dst (N := 16) rfl ?_); refine ev_arrayAt rfl 44 _ rfl ⟨g1, 8 * i, none⟩ _ _ 8 5 rfl Try.underlying44 (by omega) ?_)
        | ((with_reducible refine gate_dst (N := 17) rfl ?_); refine ev_load_mid rfl 44 _ rfl g1 (8 * i) rfl (arrA 8 fun j => f (8 * i + j)) (fun j hj => by rw [arrA_size] at hj; rw [blk_cell B1.out, K2.out j hj, arrA_get 8 _ hj]) Try.underlying44 (size8' _) ?_)
        | (go_at_call 14; refine (lanes_Load.calls _ K3.out _).mono ?_; rintro e w2 ⟨rfl, hb2⟩; have B2 := B1.below hb2; have HB2 := HB.step hb2; clear hb2)
        | (go_at_call 15; refine (lanes_Equal.calls _ K3.out c H0.out H1.out _).mono ?_; rintro e w3 ⟨rfl, ⟨nd, rfl⟩⟩))
      go_roundw
      case rel =>
        refine ⟨i + 1, by omega, by simp; omega, ?_, B2.drewN _, HB2.drewN _⟩
        rw [← eight_step _ KI.out]
      case measure => simp [intOf]; omega
    · obtain rfl : i = 8 := by omega
      go_wp2
      go_ret
      exact ⟨by rw [iv_word]; rfl, HB.out⟩


/-! ### words_Escaped: function 10 -/
def words_Escaped.f (a0 : Int) (a1 : Bool) : Option (Int × Bool) := if a1 = true then (some (Go.bits .xor .u64 (Go.bits .xor .u64 (IntKind.u64.wrap ((Go.bits .or .u64 (IntKind.u64.wrap ((Go.bits .andNot .u64 a0 1) * 2)) 12297829382473034410) - (Go.bits .andNot .u64 a0 1))) 12297829382473034410) (Go.bits .or .u64 a0 1), (((Go.bits .and .u64 (Go.bits .xor .u64 (IntKind.u64.wrap ((Go.bits .or .u64 (IntKind.u64.wrap ((Go.bits .andNot .u64 a0 1) * 2)) 12297829382473034410) - (Go.bits .andNot .u64 a0 1))) 12297829382473034410) a0) / 9223372036854775808) != 0))) else (some (Go.bits .xor .u64 (Go.bits .xor .u64 (IntKind.u64.wrap ((Go.bits .or .u64 (IntKind.u64.wrap ((Go.bits .andNot .u64 a0 0) * 2)) 12297829382473034410) - (Go.bits .andNot .u64 a0 0))) 12297829382473034410) (Go.bits .or .u64 a0 0), (((Go.bits .and .u64 (Go.bits .xor .u64 (IntKind.u64.wrap ((Go.bits .or .u64 (IntKind.u64.wrap ((Go.bits .andNot .u64 a0 0) * 2)) 12297829382473034410) - (Go.bits .andNot .u64 a0 0))) 12297829382473034410) a0) / 9223372036854775808) != 0)))
set_option maxHeartbeats 8000000 in
set_option maxRecDepth 100000 in
theorem words_Escaped.calls (a0 : Int) (a1 : Bool) (r1 : Int) (r2 : Bool) (w : World) (h : words_Escaped.f a0 a1 = some (r1, r2)) :
    Calls Try.prog 10 #[.int .u64 a0, .bool a1] w fun e w' => e = .returned (.tuple #[.int .u64 r1, .bool r2]) ∧ Drawn0 w w' := by
  have H : (if a1 = true then (some (Go.bits .xor .u64 (Go.bits .xor .u64 (IntKind.u64.wrap ((Go.bits .or .u64 (IntKind.u64.wrap ((Go.bits .andNot .u64 a0 1) * 2)) 12297829382473034410) - (Go.bits .andNot .u64 a0 1))) 12297829382473034410) (Go.bits .or .u64 a0 1), (((Go.bits .and .u64 (Go.bits .xor .u64 (IntKind.u64.wrap ((Go.bits .or .u64 (IntKind.u64.wrap ((Go.bits .andNot .u64 a0 1) * 2)) 12297829382473034410) - (Go.bits .andNot .u64 a0 1))) 12297829382473034410) a0) / 9223372036854775808) != 0))) else (some (Go.bits .xor .u64 (Go.bits .xor .u64 (IntKind.u64.wrap ((Go.bits .or .u64 (IntKind.u64.wrap ((Go.bits .andNot .u64 a0 0) * 2)) 12297829382473034410) - (Go.bits .andNot .u64 a0 0))) 12297829382473034410) (Go.bits .or .u64 a0 0), (((Go.bits .and .u64 (Go.bits .xor .u64 (IntKind.u64.wrap ((Go.bits .or .u64 (IntKind.u64.wrap ((Go.bits .andNot .u64 a0 0) * 2)) 12297829382473034410) - (Go.bits .andNot .u64 a0 0))) 12297829382473034410) a0) / 9223372036854775808) != 0)))) = some (r1, r2) := h
  clear h
  by_cases c3 : a1 = true
  · subst c3
    have H1 : (some (Go.bits .xor .u64 (Go.bits .xor .u64 (IntKind.u64.wrap ((Go.bits .or .u64 (IntKind.u64.wrap ((Go.bits .andNot .u64 a0 1) * 2)) 12297829382473034410) - (Go.bits .andNot .u64 a0 1))) 12297829382473034410) (Go.bits .or .u64 a0 1), (((Go.bits .and .u64 (Go.bits .xor .u64 (IntKind.u64.wrap ((Go.bits .or .u64 (IntKind.u64.wrap ((Go.bits .andNot .u64 a0 1) * 2)) 12297829382473034410) - (Go.bits .andNot .u64 a0 1))) 12297829382473034410) a0) / 9223372036854775808) != 0))) = some (r1, r2) := by rw [if_pos rfl] at H; exact H
    clear H
    have H := H1
    clear H1
    simp only [Option.some.injEq, Prod.mk.injEq] at H
    obtain ⟨rfl, rfl⟩ := H
    go_enter Try.func10, Try.ntmps10
    go_wp2
    go_ret2
    exact ⟨by first | rfl | (simp; done) | (simp [*]; done), by repeat (first | exact Drawn0.refl _ | apply Drawn0.step)⟩
  · replace c3 := Bool.eq_false_iff.mpr c3
    subst c3
    have H1 : (some (Go.bits .xor .u64 (Go.bits .xor .u64 (IntKind.u64.wrap ((Go.bits .or .u64 (IntKind.u64.wrap ((Go.bits .andNot .u64 a0 0) * 2)) 12297829382473034410) - (Go.bits .andNot .u64 a0 0))) 12297829382473034410) (Go.bits .or .u64 a0 0), (((Go.bits .and .u64 (Go.bits .xor .u64 (IntKind.u64.wrap ((Go.bits .or .u64 (IntKind.u64.wrap ((Go.bits .andNot .u64 a0 0) * 2)) 12297829382473034410) - (Go.bits .andNot .u64 a0 0))) 12297829382473034410) a0) / 9223372036854775808) != 0))) = some (r1, r2) := by rw [if_neg (show ¬ (false = true) by decide)] at H; exact H
    clear H
    have H := H1
    clear H1
    simp only [Option.some.injEq, Prod.mk.injEq] at H
    obtain ⟨rfl, rfl⟩ := H
    go_enter Try.func10, Try.ntmps10
    go_wp2
    go_ret2
    exact ⟨by first | rfl | (simp; done) | (simp [*]; done), by repeat (first | exact Drawn0.refl _ | apply Drawn0.step)⟩

/-! ### block_filled: function 18 -/
open Go.Proofs.YtoimelcdhkmceabQ Go.Proofs.YtoimelcdhkmceabM in
theorem size64 : (Try.prog.info? 34).map (·.size) = some (blkA fun _ => 0).size := by kernel_rfl
open Go.Proofs.YtoimelcdhkmceabQ Go.Proofs.YtoimelcdhkmceabM in
theorem size64' (f : Nat → Int) : (Try.prog.info? 34).map (·.size) = some (blkA f).size := by rw [size64, blkA_size, blkA_size]
open Go.Proofs.YtoimelcdhkmceabQ Go.Proofs.YtoimelcdhkmceabM in
set_option maxHeartbeats 4000000 in
set_option maxRecDepth 100000 in
theorem block_filled.calls (x : Int) (w : World) :
    Calls Try.prog 18 #[.int .u8 x] w fun e w' => e = .returned (.agg (blkA fun _ => x)) ∧ Below w.heap.size w w' := by
  have HB := BelowH.refl w
  go_enter Try.func18, Try.ntmps18
  go_wp2_with (first | ((with_reducible refine gate_dst (N := 2) rfl ?_); refine ev_alloc HB rfl (blkA fun _ => 0) 34 ?hr ?_; (case hr => (rw [← blkA_zero]; go_simp; rfl)); intro g0 w1 G_g0 GE_g0 B_g0 HBn K_g0; clear HB; have HB := HBn; clear HBn) | ((with_reducible refine gate_dst (N := 3) rfl ?_); refine ev_alloc HB rfl (blkA fun _ => 0) 34 ?hr ?_; (case hr => (rw [← blkA_zero]; go_simp; rfl)); intro g1 w2 G_g1 GE_g1 B_g1 HBn K_g1; clear HB; have HB := HBn; clear HBn))
  have B0 := B_g0.below K_g1.out
  have NE := Aside0.mk (show g0 ≠ g1 by have := B_g0.lt; have := G_g1.out; omega)
  go_loopw [5] (fun v wr => ∃ i : Nat, i ≤ 64 ∧ v = .int .i64 i ∧ Blk wr g1 (blkA fun j => if j < i then x else 0) 34 ∧ Blk wr g0 (blkA fun _ => 0) 34 ∧ BelowH w wr) (fun v _ => 64 - (intOf v).toNat)
  case atStart => exact ⟨0, by omega, rfl, by simpa using B_g1, B0, HB⟩
  case round =>
    clear B0 B_g1 B_g0 HB
    obtain ⟨i, hi, rfl, B1, B0, HB⟩ := hrel
    by_cases hlt : i < 64
    · have hc := B1.cell (blkA_get _ hlt)
      have hf := B1.frozen i
      go_wp2
      go_roundw
      case rel =>
        refine ⟨i + 1, by omega, by go_num, ?_, B0.far NE.out _ _, HB.set GE_g1.out _ _⟩
        exact (B1.set i (.int .u8 x)).eqA (blkA_set hlt (by simp) (fun j hj => by
          by_cases h : j < i
          · rw [if_pos h, if_pos (by omega)]
          · rw [if_neg h, if_neg (by omega)]))
      case measure => simp [intOf]; omega
    · have E : Blk wr g1 (blkA fun _ => x) 34 := B1.eqA (blkA_congr fun j hj => by rw [if_pos (by omega)])
      clear B1
      go_wp2_with (first | ((with_reducible refine gate_dst (N := 12) rfl ?_); refine ev_load E rfl 34 _ rfl rfl Try.underlying34 (size64' _) ?_) | ((with_reducible refine gate_ (Op.store 34 (.tmp 2) (.tmp 12)) rfl ?_); refine ev_store HB B0 GE_g0 rfl 34 _ _ rfl rfl rfl (size64' _) (by rw [blkA_size, blkA_size]) (blkA_one _) ?_; intro w3 B3 HBn K_w3; clear HB; have HB := HBn; clear HBn))
      refine bodyPost_ret (results_cell_row rfl _ _ g0 34 _ (0, 0) _ rfl B3.out Try.underlying34 rfl (size64' _)) rfl ?_
      exact ⟨rfl, HB.out⟩


/-! ### block_Cut: function 13 -/
open Go.Proofs.YtoimelcdhkmceabQ Go.Proofs.YtoimelcdhkmceabM in
set_option maxHeartbeats 4000000 in
set_option maxRecDepth 100000 in
theorem block_Cut.calls_out (s : ByteArray) (at_ pad : Int) (w : World) (h : at_ < 0 ∨ (s.size : Int) ≤ at_) :
    Calls Try.prog 13 #[.string s, .int .i64 at_, .int .u8 pad] w fun e w' => e = .returned (.tuple #[.agg (blkA (cutF s at_ pad)), .int .i64 0]) ∧ Below w.heap.size w w' := by
  have HB := BelowH.refl w
  have E : (blkA fun _ => pad) = blkA (cutF s at_ pad) := blkA_congr fun i _ => by unfold cutF; rw [if_neg (by omega)]
  have HE := Aside0.mk E
  clear E
  rcases h with h | h
  · go_enter Try.func13, Try.ntmps13
    go_wp2_with (first | ((with_reducible refine gate_dst (N := 6) rfl ?_); refine ev_alloc HB rfl (blkA fun _ => 0) 34 ?hr ?_; (case hr => (rw [← blkA_zero]; go_simp; rfl)); intro g0 w1 G_g0 GE_g0 B_g0 HBn K_g0; clear HB; have HB := HBn; clear HBn) | (go_at_call 18; refine (block_filled.calls pad _).mono ?_; rintro e w2 ⟨rfl, hb2⟩; have B2 := B_g0.below hb2; have HB2 := HB.step hb2; clear HB; have HB := HB2; clear HB2 hb2) | ((with_reducible refine gate_ (Op.store 34 (.tmp 6) (.tmp 19)) rfl ?_); refine ev_store HB B2 GE_g0 rfl 34 _ _ rfl rfl rfl (size64' _) (by rw [blkA_size, blkA_size]) (blkA_one _) ?_; intro w3 B3 HBn K_w3; clear HB; have HB := HBn; clear HBn))
    refine bodyPost_ret (results_row_tmp rfl _ _ g0 34 _ _ rfl B3 Try.underlying34 rfl (size64' _)) rfl ?_
    exact ⟨by rw [HE.out]; rfl, HB.out⟩
  · by_cases h0 : at_ < 0
    · omega
    go_enter Try.func13, Try.ntmps13
    go_wp2_with (first | ((with_reducible refine gate_dst (N := 6) rfl ?_); refine ev_alloc HB rfl (blkA fun _ => 0) 34 ?hr ?_; (case hr => (rw [← blkA_zero]; go_simp; rfl)); intro g0 w1 G_g0 GE_g0 B_g0 HBn K_g0; clear HB; have HB := HBn; clear HBn) | (go_at_call 18; refine (block_filled.calls pad _).mono ?_; rintro e w2 ⟨rfl, hb2⟩; have B2 := B_g0.below hb2; have HB2 := HB.step hb2; clear HB; have HB := HB2; clear HB2 hb2) | ((with_reducible refine gate_ (Op.store 34 (.tmp 6) (.tmp 19)) rfl ?_); refine ev_store HB B2 GE_g0 rfl 34 _ _ rfl rfl rfl (size64' _) (by rw [blkA_size, blkA_size]) (blkA_one _) ?_; intro w3 B3 HBn K_w3; clear HB; have HB := HBn; clear HBn))
    refine bodyPost_ret (results_row_tmp rfl _ _ g0 34 _ _ rfl B3 Try.underlying34 rfl (size64' _)) rfl ?_
    exact ⟨by rw [HE.out]; rfl, HB.out⟩
open Go.Proofs.YtoimelcdhkmceabQ Go.Proofs.YtoimelcdhkmceabM in
set_option maxHeartbeats 4000000 in
set_option maxRecDepth 100000 in
theorem block_Cut.calls_full (s : ByteArray) (at_ pad : Int) (w : World) (hs : s.size ≤ 281474976702464) (h0 : 0 ≤ at_) (h1 : at_ + 64 ≤ s.size) :
    Calls Try.prog 13 #[.string s, .int .i64 at_, .int .u8 pad] w fun e w' => e = .returned (.tuple #[.agg (blkA (cutF s at_ pad)), .int .i64 64]) ∧ Below w.heap.size w w' := by
  obtain ⟨n, rfl⟩ : ∃ n : Nat, at_ = n := ⟨at_.toNat, by omega⟩
  have HB := BelowH.refl w
  have d1 : ¬ ((n : Int) < 0) := by omega
  have d2 : ¬ ((s.size : Int) ≤ n) := by omega
  have d3 : (64 : Int) ≤ (s.size : Int) - n := by omega
  have H1 := Aside0.mk h1
  have EX := Aside0.mk (show ∀ j : Nat, j < 64 → bt (s.extract n (n + 64)) (j : Int) = cutF s n pad j by
    intro j hj
    unfold cutF
    rw [if_pos (by omega), bt_extract s n (n + 64) j (by omega) (by omega)]
    norm_cast)
  have EZ : (s.extract n (n + 64)).size = 64 := by rw [ByteArray.size_extract]; omega
  have HZ := Aside0.mk EZ
  clear EZ
  go_enter Try.func13, Try.ntmps13
  go_wp2_with (first
    | ((with_reducible refine gate_dst (N := 6) rfl ?_); refine ev_alloc HB rfl (blkA fun _ => 0) 34 ?hr ?_; (case hr => (rw [← blkA_zero]; go_simp; rfl)); intro g0 w1 G_g0 GE_g0 B_g0 HBn K_g0; clear HB; have HB := HBn; clear HBn)
    | ((with_reducible refine gate_dst (N := 30) rfl ?_); refine ev_bytes HB rfl 9 45 _ rfl _ 64 HZ.out rfl Try.underlying9 Try.underlying45 Try.underlying5 ?_; intro g2 cap w2 G_g2 HBn K_g2 C2; clear HB; have HB := HBn; clear HBn)
    | ((with_reducible refine gate_dst (N := 31) rfl ?_); refine ev_arrayAt rfl 34 _ rfl ⟨g2, 0, none⟩ 64 cap 64 5 rfl Try.underlying34 (Nat.le_refl _) ?_)
    | ((with_reducible refine gate_dst (N := 32) rfl ?_); refine ev_load_mid rfl 34 _ rfl g2 0 rfl (blkA (cutF s n pad)) (fun j hj => by rw [blkA_size] at hj; rw [Nat.zero_add, C2.out j hj, blkA_get _ hj, EX.out j hj]) Try.underlying34 (size64' _) ?_; have B2 := B_g0.below K_g2.out)
    | ((with_reducible refine gate_ (Op.store 34 (.tmp 6) (.tmp 32)) rfl ?_); refine ev_store HB B2 GE_g0 rfl 34 _ _ rfl rfl rfl (size64' _) (by rw [blkA_size, blkA_size]) (blkA_one _) ?_; intro w3 B3 HBn K_w3; clear HB; have HB := HBn; clear HBn))
  refine bodyPost_ret (results_row_tmp rfl _ _ g0 34 _ _ rfl B3 Try.underlying34 rfl (size64' _)) rfl ?_
  exact ⟨rfl, HB.out⟩
open Go.Proofs.YtoimelcdhkmceabQ Go.Proofs.YtoimelcdhkmceabM in
set_option maxHeartbeats 4000000 in
set_option maxRecDepth 100000 in
theorem block_Cut.calls_part (s : ByteArray) (at_ pad : Int) (w : World) (hs : s.size ≤ 281474976702464) (h0 : 0 ≤ at_) (h1 : at_ < s.size) (h2 : s.size < at_ + 64) :
    Calls Try.prog 13 #[.string s, .int .i64 at_, .int .u8 pad] w fun e w' => e = .returned (.tuple #[.agg (blkA (cutF s at_ pad)), .int .i64 (s.size - at_)]) ∧ Below w.heap.size w w' := by
  obtain ⟨n, rfl⟩ : ∃ n : Nat, at_ = n := ⟨at_.toNat, by omega⟩
  have HB := BelowH.refl w
  have d1 : ¬ ((n : Int) < 0) := by omega
  have d2 : ¬ ((s.size : Int) ≤ n) := by omega
  have d3 : ¬ ((64 : Int) ≤ (s.size : Int) - n) := by omega
  have d4 : (n : Int) ≤ s.size := by omega
  have d5 : n ≤ s.size := by omega
  go_enter Try.func13, Try.ntmps13
  go_wp2_with (first
    | ((with_reducible refine gate_dst (N := 6) rfl ?_); refine ev_alloc HB rfl (blkA fun _ => 0) 34 ?hr ?_; (case hr => (rw [← blkA_zero]; go_simp; rfl)); intro g0 w1 G_g0 GE_g0 B_g0 HBn K_g0; clear HB; have HB := HBn; clear HBn)
    | (go_at_call 18; refine (block_filled.calls pad _).mono ?_; rintro e w2 ⟨rfl, hb2⟩; have B2 := B_g0.below hb2; have HB2 := HB.step hb2; clear HB; have HB := HB2; clear HB2 hb2)
    | ((with_reducible refine gate_dst (N := 8) rfl ?_); refine ev_alloc HB rfl (blkA fun _ => 0) 34 ?hr ?_; (case hr => (rw [← blkA_zero]; go_simp; rfl)); intro g8 w3 G_g8 GE_g8 B_g8 HBn K_g8; clear HB; have HB := HBn; clear HBn)
    | ((with_reducible refine gate_ (Op.store 34 (.tmp 8) (.tmp 34)) rfl ?_); refine ev_store HB B_g8 GE_g8 rfl 34 _ _ rfl rfl rfl (size64' _) (by rw [blkA_size, blkA_size]) (blkA_one _) ?_; intro w4 B8 HBn K_w4; clear HB; have HB := HBn; clear HBn))
  have NE := Aside0.mk (show g0 ≠ g8 by have := B2.lt; have := G_g8.out; omega)
  go_still_tail 4, (by kernel_rfl)
  change wpList _ _ _ _ _ w4.drew
  have B8' := B8.drew
  have HB' := HB.drew
  have B0 := (((B2.below K_g8.out).other K_w4 NE.out).drew)
  have EZ := Aside0.mk (show (s.extract n s.size).size = s.size - n by rw [ByteArray.size_extract]; omega)
  clear HB
  go_wp2_with (first
    | ((with_reducible refine gate_dst (N := 39) rfl ?_); refine ev_copy64 HB' B8' GE_g8 rfl _ _ 45 9 5 rfl _ (s.size - n) EZ.out (by omega) rfl rfl Try.underlying45 (by kernel_rfl) ?_; intro w5 B9 HB K_w5)
    | ((with_reducible refine gate_dst (N := 40) rfl ?_); refine ev_load B9 rfl 34 _ rfl rfl Try.underlying34 (size64' _) ?_)
    | ((with_reducible refine gate_ (Op.store 34 (.tmp 6) (.tmp 40)) rfl ?_); have B1 := B0.other K_w5 NE.out; refine ev_store HB B1 GE_g0 rfl 34 _ _ rfl rfl rfl (size64' _) (by rw [blkA_size, blkA_size]) (blkA_one _) ?_; intro w6 B6 HBn K_w6; clear HB; have HB := HBn; clear HBn))
  have E : (blkA fun j => if j < s.size - n then bt (s.extract n s.size) (j : Int) else pad) = blkA (cutF s n pad) := blkA_congr fun j hj => by
    unfold cutF
    by_cases h : j < s.size - n
    · rw [if_pos h, if_pos (by omega), bt_extract s n s.size j (by omega) (by omega)]
      norm_cast
    · rw [if_neg h, if_neg (by omega)]
  refine bodyPost_ret (results_row_tmp rfl _ _ g0 34 _ _ rfl B6 Try.underlying34 rfl (size64' _)) rfl ?_
  refine ⟨?_, HB.out⟩
  rw [E, show (s.size : Int) - n = ((s.size - n : Nat) : Int) by omega]
  rfl
open Go.Proofs.YtoimelcdhkmceabQ Go.Proofs.YtoimelcdhkmceabM in
theorem block_Cut.calls (s : ByteArray) (at_ pad : Int) (w : World) (hs : s.size ≤ 281474976702464) :
    Calls Try.prog 13 #[.string s, .int .i64 at_, .int .u8 pad] w fun e w' => e = .returned (.tuple #[.agg (blkA (cutF s at_ pad)), .int .i64 (cutN s at_)]) ∧ Below w.heap.size w w' := by
  unfold cutN
  by_cases h : at_ < 0 ∨ (s.size : Int) ≤ at_
  · rw [if_pos h]
    exact block_Cut.calls_out s at_ pad w h
  · rw [if_neg h]
    by_cases h2 : 64 ≤ (s.size : Int) - at_
    · rw [if_pos h2]
      exact block_Cut.calls_full s at_ pad w hs (by omega) (by omega)
    · rw [if_neg h2]
      exact block_Cut.calls_part s at_ pad w hs (by omega) (by omega) (by omega)


/-! ### block_Blocks_1: function 12 -/
section
open Go.Proofs.YtoimelcdhkmceabQ Go.Proofs.YtoimelcdhkmceabM Go.Shelf
attribute [local go_sem] Oper.semAt_some
/-- What Blocks tells of the k-th block. -/
def blkEnc (s : ByteArray) (pad : Int) (k : Nat) : Array Value := #[.int .i64 (64 * (k : Int)), .agg (blkA (cutF s (64 * (k : Int)) pad))]
set_option maxHeartbeats 4000000 in
set_option maxRecDepth 100000 in
theorem block_Blocks_1.walk (F : Fence) (HF : Aside0 (F = Fence.wide)) (n : Nat) (hn : 3 ≤ n) (l g1 g2 : Nat) (s : ByteArray) (pad : Int) (hs : s.size ≤ 281474976702464) (J Jx : List (Fin (nwords s.size)) → World → Prop) (W0 : World)
    (hJ : ∀ pre A B, J pre A → Below A.heap.size A B → J pre B)
    (hY : ∀ pre x W, J pre W → pre.length < nwords s.size → YieldAt F (n - 1) Try.prog l (blkEnc s pad x.val) W fun e W' =>
      (e = .returned (.bool true) ∧ J (pre ++ [x]) W' ∧ Keep2 g1 g2 W W') ∨ (e = .returned (.bool false) ∧ Jx (pre ++ [x]) W'))
    (B1 : Blk W0 g1 #[.string s] 9) (B2 : Blk W0 g2 #[.int .u8 pad] 5) (h0 : J [] W0) :
    CallsIn F n Try.prog 12 #[.func (.yield l) #[] #[], .pointer (some ⟨g1, 0, none⟩), .pointer (some ⟨g2, 0, none⟩)] W0 fun e W' => (∃ v, e = .returned v) ∧
      ((∃ ys, ys = List.finRange (nwords s.size) ∧ J ys W') ∨ (∃ pre, pre <+: List.finRange (nwords s.size) ∧ Jx pre W')) := by
  have HJ := Aside0.mk hJ
  have HY := Aside0.mk hY
  have HJ0 := Aside0.mk h0
  clear hJ hY h0
  have f0 := wide_fn HF 13
  have n1 : 1 ≤ n := by omega
  have n2 : 1 ≤ n - 1 := by omega
  have hro := wide_round HF
  refine callsIn_of_wp Try.func12 rfl (wide_fn HF _) ?_ (wide_round HF)
  simp only [Try.ntmps12, List.size_toArray, List.length_cons, List.length_nil, Nat.reduceAdd, Nat.reduceSub, Array.replicate_succ, Array.replicate_zero, List.push_toArray, List.append_toArray, List.nil_append, List.cons_append]
  gi_wp2
  gi_loopw [4] (fun v wr => ∃ k : Nat, v = .int .i64 (64 * (k : Int)) ∧ Aside0 (k ≤ nwords s.size) ∧ Aside0 (J ((List.finRange (nwords s.size)).take k) wr) ∧ Blk wr g1 #[.string s] 9 ∧ Blk wr g2 #[.int .u8 pad] 5) (fun v _ => 64 * nwords s.size - (intOf v).toNat)
  case atStart => exact ⟨0, rfl, ⟨Nat.zero_le _⟩, HJ0, B1, B2⟩
  case round =>
    clear B1 B2 HJ0
    obtain ⟨k, rfl, HK, HJk, B1, B2⟩ := hrel
    have c1 := B1.cell (i := 0) rfl
    have c2 := B2.cell (i := 0) rfl
    have HB := BelowH.refl wr
    by_cases hlt : 64 * (k : Int) < s.size
    · have K1 : Aside0 (64 * (k : Int) < s.size) := ⟨hlt⟩
      have KN : Aside0 (k < nwords s.size) := ⟨by unfold nwords; omega⟩
      have KT := Aside0.mk (finRange_take (nwords s.size) k KN.out)
      gi_wp2_with (first
        | (gi_at_call 13; refine (callsIn_of HF (block_Cut.calls s (64 * (k : Int)) pad _ hs)).mono ?_; rintro e w3 ⟨rfl, hb3⟩; have D1 := B1.below hb3; have D2 := B2.below hb3; have HB3 := HB.step hb3; clear hb3)
        | ((with_reducible refine gate_dstIn (N := 5) rfl ?_); refine ev_allocIn HB3 rfl rfl (blkA fun _ => 0) 34 ?hr ?_; (case hr => (rw [← blkA_zero]; go_simp; rfl)); intro g5 w4 G_g5 GE_g5 B_g5 HB4 K_g5 KO5; have E1 := D1.below K_g5.out; have E2 := D2.below K_g5.out)
        | ((with_reducible refine gate_In (Op.store 34 (.tmp 5) (.tmp 18)) rfl ?_); refine ev_storeIn HB4 B_g5 GE_g5 rfl 34 _ _ rfl rfl rfl (size64' _) (by rw [blkA_size, blkA_size]) (blkA_one _) ?_; intro w5 B5 HB5 K_w5 KO_w5; have N1 := Aside0.mk (show g1 ≠ g5 by have := D1.lt; have := G_g5.out; omega); have N2 := Aside0.mk (show g2 ≠ g5 by have := D2.lt; have := G_g5.out; omega); have F1 := E1.other K_w5 N1.out; have F2 := E2.other K_w5 N2.out)
        | ((with_reducible refine gate_dstIn (N := 22) rfl ?_); refine ev_loadIn B5 rfl 34 _ rfl rfl Try.underlying34 (size64' _) ?_; have HJ5 := Aside0.mk (HJ.out _ _ _ HJk.out HB5.out); obtain ⟨fn, tmps, assign, body, hy, hR⟩ := HY.out ((List.finRange (nwords s.size)).take k) ⟨k, KN.out⟩ _ HJ5.out (by rw [List.length_take, List.length_finRange]; have := KN.out; omega); have HR := Aside0.mk hR; clear hR; dsimp only [blkEnc] at hy))
      refine HR.out.mono ?_
      rintro e W6 (⟨rfl, hJ6, hk6⟩ | ⟨rfl, hJx6⟩)
      · have G1 : Blk W6 g1 #[.string s] 9 := ⟨hk6.1.trans F1.out⟩
        have G2 : Blk W6 g2 #[.int .u8 pad] 5 := ⟨hk6.2.1.trans F2.out⟩
        have HJ6 := Aside0.mk (show J ((List.finRange (nwords s.size)).take (k + 1)) W6 by rw [KT.out]; exact hJ6)
        clear hJ6 hk6
        gi_wp2
        go_roundw
        case rel => exact ⟨k + 1, by simp; omega, ⟨by unfold nwords; have := K1.out; omega⟩, HJ6, G1, G2⟩
        case measure => simp [intOf, nwords]; have := K1.out; omega
      · have HJ6 := Aside0.mk hJx6
        clear hJx6
        gi_wp2
        refine bodyPost_ret (results_none rfl _ _ _) rfl ?_
        refine ⟨⟨_, rfl⟩, .inr ⟨_, ?_, HJ6.out⟩⟩
        rw [← KT.out]
        exact List.take_prefix _ _
    · have EK : k = nwords s.size := by
        have h1 := HK.out
        unfold nwords at *
        omega
      have HE := Aside0.mk EK
      clear EK
      gi_wp2
      go_end0
      have h := HJk.out
      rw [HE.out, List.take_of_length_le (by rw [List.length_finRange]; exact Nat.le_refl _)] at h
      exact ⟨⟨_, rfl⟩, .inl h⟩
/-- What Blocks hands back tells the blocks, in order. -/
theorem block_Blocks_1.stops (F : Fence) (HF : Aside0 (F = Fence.wide)) (n : Nat) (hn : 3 ≤ n) (g1 g2 : Nat) (s : ByteArray) (pad : Int) (hs : s.size ≤ 281474976702464) (w : World)
    (B1 : Blk w g1 #[.string s] 9) (B2 : Blk w g2 #[.int .u8 pad] 5) :
    SeqStopsK F n Try.prog 12 #[.pointer (some ⟨g1, 0, none⟩), .pointer (some ⟨g2, 0, none⟩)] (fun x : Fin (nwords s.size) => blkEnc s pad x.val) (Keep2 g1 g2) (fun ys => ys = List.finRange (nwords s.size)) (fun pre => pre <+: List.finRange (nwords s.size)) (nwords s.size) w := by
  intro l J Jx W hW hJ _ hY h0
  exact block_Blocks_1.walk F HF n hn l g1 g2 s pad hs J Jx W
    (fun pre A B hA hb => hJ pre A B none hA ⟨hb.os, hb.tape, hb.output, hb.size, fun k hk _ => hb.block k hk⟩ (fun r e => by cases e))
    hY (B1.below hW) (B2.below hW) h0
end


end Go.Proofs.Ytoimelcdhkmceab.PJ
