-- Written by a program (myprint.py, over the kit's print) for this claim. Not trusted: Lean checks it.
import Derived.Test.YtehjddmocckjgaaMh
import Derived.Test.YtehjddmocckjgaaPKKx0
import Derived.Test.YtehjddmocckjgaaPKKx5
import Derived.Test.YtehjddmocckjgaaPKKx7
namespace Go.Proofs.Ytehjddmocckjgaa.PKK
attribute [local go_sem] Go.Proofs.YtehjddmocckjgaaM.fieldBits0 Go.Proofs.YtehjddmocckjgaaM.fieldBits1
open Go.RowKit Go.Proofs.YtehjddmocckjgaaW.PrintWords Go.Proofs.YtehjddmocckjgaaW.PrintLast Go.Proofs.YtehjddmocckjgaaW.PrintMore
attribute [local go_sem] max2_int min2_int max_two min_two max_three min_three max_four min_four   -- for this text's walks alone
set_option linter.unusedVariables false
set_option linter.unusedSimpArgs false

/-! ### quarryref08_Kind: function 10 -/
def quarryref08_Kind.j0 : Nat → ByteArray → Int → Bool → Option (Int)
  | 0, _, _, _ => none
  | k + 1, x0, x1, x13 => if x13 = true then (some 0) else ((quarryref08_Bytes.f k x0).bind fun t192 => ((quarryref08_begins.f t192 x1).bind fun t195 => (if t195 = true then (if 0 ≤ x1 then (if x1 < (t192.length : Int) then (if (rd t192 x1) = 6 then (some 119) else (if x1 < (x0.size : Int) then (some (bt x0 x1)) else (none))) else (none)) else (none)) else (some 0))))
def quarryref08_Kind.f (k : Nat) (a0 : ByteArray) (a1 : Int) : Option (Int) := if a1 < 0 then (quarryref08_Kind.j0 k a0 a1 true) else (quarryref08_Kind.j0 k a0 a1 (decide (a1 ≥ (a0.size : Int))))
theorem quarryref08_Kind.mono_l : ∀ k, (∀ y0 y1 y2, LeO (quarryref08_Kind.j0 k y0 y1 y2) (quarryref08_Kind.j0 (k + 1) y0 y1 y2))
  | 0 => fun _ _ _ r h => by simp [quarryref08_Kind.j0] at h
  | k + 1 => by
    have ih0 := quarryref08_Kind.mono_l k
    · intro y0 y1 y2
      unfold quarryref08_Kind.j0
      repeat' first
      | (with_reducible exact ih0 _ _ _)
      | (with_reducible exact quarryref08_Bytes.mono _ _)
      | (with_reducible exact LeO.refl _)
      | (with_reducible exact LeO.none _)
      | (with_reducible refine LeO.ite ?_ ?_)
      | (with_reducible refine LeO.bind ?_ (fun _ => ?_))
      | exact ih0 _ _ _
      | exact quarryref08_Bytes.mono _ _
      | exact LeO.none _
      | refine LeO.ite ?_ ?_
      | refine LeO.bind ?_ (fun _ => ?_)
theorem quarryref08_Kind.mono : ∀ a0 a1 k, LeO (quarryref08_Kind.f k a0 a1) (quarryref08_Kind.f (k + 1) a0 a1) := by
  intro a0 a1 k
  have ih0 := quarryref08_Kind.mono_l k
  unfold quarryref08_Kind.f
  repeat' first
      | (with_reducible exact ih0 _ _ _)
      | (with_reducible exact quarryref08_Bytes.mono _ _)
      | (with_reducible exact LeO.refl _)
      | (with_reducible exact LeO.none _)
      | (with_reducible refine LeO.ite ?_ ?_)
      | (with_reducible refine LeO.bind ?_ (fun _ => ?_))
      | exact ih0 _ _ _
      | exact quarryref08_Bytes.mono _ _
      | exact LeO.none _
      | refine LeO.ite ?_ ?_
      | refine LeO.bind ?_ (fun _ => ?_)
set_option maxHeartbeats 8000000 in
set_option maxRecDepth 100000 in
theorem quarryref08_Kind.calls (k : Nat) (a0 : ByteArray) (a1 : Int) (r : Int) (w : World) (h : quarryref08_Kind.f k a0 a1 = some r) :
    Calls Try.prog 10 #[.string a0, .int .i64 a1] w fun e w' => e = .returned (.int .u8 r) ∧ Below w.heap.size w w' := by
  have HB := Aside0.mk (Below.refl w.heap.size w)
  have H : (if a1 < 0 then (quarryref08_Kind.j0 k a0 a1 true) else (quarryref08_Kind.j0 k a0 a1 (decide (a1 ≥ (a0.size : Int))))) = some r := h
  clear h
  have HC3 := Aside0.mk H
  clear H
  go_enter Try.func10, Try.ntmps10
  go_upto_region 1 with (fail)
  go_cut [13] (fun v13 wc => ∃ (kq : Nat) (x13_2 : Bool), v13 = .bool x13_2 ∧ Aside0 (quarryref08_Kind.j0 kq a0 a1 x13_2 = some r) ∧ Aside0 (kq ≤ k) ∧ Aside0 (Below w.heap.size w wc))
  case first =>
    have H := HC3.out
    clear HC3
    by_cases c4 : a1 < 0
    · rw [if_pos c4] at H
      have c4b0 : decide (a1 < 0) = true := decide_eq_true c4
      clear c4
      (first | rw [c4b0] | (simp only [i64_w, i32_w]; rw [c4b0]) | skip)
      have H' := Aside0.mk H
      clear H
      go_wp2
      go_meet
      case rel => exact ⟨_, (true), (by first | rfl | (simp; done) | (simp [*]; done)), H', ⟨by first | omega | exact Nat.le_refl _⟩, ⟨by repeat (first | (with_reducible first | exact HB.out | apply below_alloc | apply pw_below_drewN | apply below_drew1) | exact HB.out)⟩⟩
    · rw [if_neg c4] at H
      have c4b0 : decide (a1 < 0) = false := decide_eq_false c4
      clear c4
      (first | rw [c4b0] | (simp only [i64_w, i32_w]; rw [c4b0]) | skip)
      have H' := Aside0.mk H
      clear H
      go_wp2
      go_meet
      case rel => exact ⟨_, (decide (a1 ≥ (a0.size : Int))), (by first | rfl | (simp; done) | (simp [*]; done)), H', ⟨by first | omega | exact Nat.le_refl _⟩, ⟨by repeat (first | (with_reducible first | exact HB.out | apply below_alloc | apply pw_below_drewN | apply below_drew1) | exact HB.out)⟩⟩
  case rest =>
    clear HC3
    try clear c1
    try clear p2
    try clear c4
    try clear c4b0
    obtain ⟨kq, x13_2, rfl, HA, HJ2, HB⟩ := hcut
    cases kq with
    | zero => exact absurd HA.out (by simp [quarryref08_Kind.j0])
    | succ kj2 =>
      have H := HA.out
      clear HA
      simp only [quarryref08_Kind.j0] at H
      by_cases c5 : x13_2 = true
      · subst c5
        have H1 : (some 0) = some r := by rw [if_pos rfl] at H; exact H
        clear H
        have H := H1
        clear H1
        obtain rfl := Option.some.inj H
        go_wp2
        go_ret
        exact ⟨by first | rfl | (simp [errW_none, errW_some] <;> rfl) | (simp [*, errW_none, errW_some] <;> rfl), by repeat (first | (with_reducible first | exact HB.out | apply below_alloc | apply pw_below_drewN | apply below_drew1) | exact HB.out)⟩
      · replace c5 := Bool.eq_false_iff.mpr c5
        subst c5
        have H1 : ((quarryref08_Bytes.f kj2 a0).bind fun t192 => ((quarryref08_begins.f t192 a1).bind fun t195 => (if t195 = true then (if 0 ≤ a1 then (if a1 < (t192.length : Int) then (if (rd t192 a1) = 6 then (some 119) else (if a1 < (a0.size : Int) then (some (bt a0 a1)) else (none))) else (none)) else (none)) else (some 0)))) = some r := by rw [if_neg (show ¬ (false = true) by decide)] at H; exact H
        clear H
        have H := H1
        clear H1
        replace H := Option.bind_eq_some_iff.mp H
        obtain ⟨t192, A60, H⟩ := H
        replace H : ((quarryref08_begins.f t192 a1).bind fun t195 => (if t195 = true then (if 0 ≤ a1 then (if a1 < (t192.length : Int) then (if (rd t192 a1) = 6 then (some 119) else (if a1 < (a0.size : Int) then (some (bt a0 a1)) else (none))) else (none)) else (none)) else (some 0))) = some r := H
        have A6 := Aside0.mk A60
        clear A60
        replace H := Option.bind_eq_some_iff.mp H
        obtain ⟨t195, A70, H⟩ := H
        replace H : (if t195 = true then (if 0 ≤ a1 then (if a1 < (t192.length : Int) then (if (rd t192 a1) = 6 then (some 119) else (if a1 < (a0.size : Int) then (some (bt a0 a1)) else (none))) else (none)) else (none)) else (some 0)) = some r := H
        have A7 := Aside0.mk A70
        clear A70
        by_cases c8 : t195 = true
        · subst c8
          have H1 : (if 0 ≤ a1 then (if a1 < (t192.length : Int) then (if (rd t192 a1) = 6 then (some 119) else (if a1 < (a0.size : Int) then (some (bt a0 a1)) else (none))) else (none)) else (none)) = some r := by rw [if_pos rfl] at H; exact H
          clear H
          have H := H1
          clear H1
          by_cases c9 : 0 ≤ a1
          · rw [if_pos c9] at H
            have c9b0 : decide (0 ≤ a1) = true := decide_eq_true c9
            clear c9
            by_cases c10 : a1 < (t192.length : Int)
            · rw [if_pos c10] at H
              have c10b0 : decide (a1 < (t192.length : Int)) = true := decide_eq_true c10
              clear c10
              by_cases c11 : (rd t192 a1) = 6
              · rw [if_pos c11] at H
                have c11b0 : ((rd t192 a1) == 6) = true := beq_iff_eq.mpr c11
                have c11b1 : ((rd t192 a1) != 6) = false := bne_eq_false_iff_eq.mpr c11
                clear c11
                obtain rfl := Option.some.inj H
                go_wp2_with (first | ((with_reducible refine gate_callee (f := 14) rfl ?_); refine goesL_ (some 15) rfl rfl Try.func14 (by kernel_rfl) rfl #[.string a0] rfl (by (try simp only [List.map_toArray, List.map_cons, List.map_nil]); first | done | rfl | (simp only [List.length_drop, List.length_take]; rfl)) ?_; (with_reducible refine (quarryref08_Bytes.calls kj2 a0 t192 _ A6.out).mono ?_); rintro e w12 ⟨v193, rfl, ho0, hb⟩; refine ⟨_, rfl, ?_⟩; have n0_ := Aside0.mk (Kd.R_lower ho0 (below_size (by repeat (first | (with_reducible first | exact HB.out | apply below_alloc | apply pw_below_drewN | apply below_drew1) | exact HB.out)))); have n1_ := Aside0.mk (below_step (by repeat (first | (with_reducible first | exact HB.out | apply below_alloc | apply pw_below_drewN | apply below_drew1) | exact HB.out)) hb); clear HB; have HO194 := n0_; have HB := n1_; clear n0_ n1_; (try clear hb); (try clear hb2); (try clear hk); (try clear hi); (try clear ho0); obtain ⟨Ao13, co13, eo13⟩ := Kd.R_slice HO194.out; subst eo13) | ((with_reducible refine gate_callee (f := 17) rfl ?_); refine goesL_ (some 18) rfl rfl Try.func17 (by kernel_rfl) rfl #[.slice Ao13 t192.length co13, .int .i64 a1] rfl (by (try simp only [List.map_toArray, List.map_cons, List.map_nil]); first | done | rfl | (simp only [List.length_drop, List.length_take]; rfl)) ?_; (with_reducible refine (quarryref08_begins.calls _ _ t192 a1 true _ ?side1 ?side2 A7.out).mono ?_); (case side1 => repeat (first | exact (Kd.R_reads' HO194.out).2.2 | (with_reducible refine Kd.C_alloc ?_ _) | (with_reducible refine Kd.C_drewN ?_ _) | (with_reducible refine Kd.C_drew ?_))); (case side2 => exact (Kd.R_reads' HO194.out).2.1); rintro e w' ⟨rfl, ⟨nd, rfl⟩⟩; refine ⟨_, rfl, ?_⟩; have p196 : 0 ≤ (a1 : Int) := of_decide_eq_true (by first | (with_reducible assumption) | assumption); have q196 : a1 < (t192.length : Int) := of_decide_eq_true (by first | (with_reducible assumption) | assumption); obtain ⟨ad196, e196, hx196_0⟩ := Kd.at_int (Kd.R_reads' HO194.out).2.2 a1 p196 q196; cases e196; replace p196 := eq_true p196; replace q196 := eq_true q196))
                go_ret
                exact ⟨by first | rfl | (simp [errW_none, errW_some] <;> rfl) | (simp [*, errW_none, errW_some] <;> rfl), by repeat (first | (with_reducible first | exact HB.out | apply below_alloc | apply pw_below_drewN | apply below_drew1) | exact HB.out)⟩
              · rw [if_neg c11] at H
                have c11b0 : ((rd t192 a1) == 6) = false := beq_eq_false_iff_ne.mpr c11
                have c11b1 : ((rd t192 a1) != 6) = true := bne_iff_ne.mpr c11
                by_cases c14 : a1 < (a0.size : Int)
                · rw [if_pos c14] at H
                  have c14b0 : decide (a1 < (a0.size : Int)) = true := decide_eq_true c14
                  clear c14
                  obtain rfl := Option.some.inj H
                  go_wp2_with (first | ((with_reducible refine gate_callee (f := 14) rfl ?_); refine goesL_ (some 15) rfl rfl Try.func14 (by kernel_rfl) rfl #[.string a0] rfl (by (try simp only [List.map_toArray, List.map_cons, List.map_nil]); first | done | rfl | (simp only [List.length_drop, List.length_take]; rfl)) ?_; (with_reducible refine (quarryref08_Bytes.calls kj2 a0 t192 _ A6.out).mono ?_); rintro e w16 ⟨v193, rfl, ho0, hb⟩; refine ⟨_, rfl, ?_⟩; have n0_ := Aside0.mk (Kd.R_lower ho0 (below_size (by repeat (first | (with_reducible first | exact HB.out | apply below_alloc | apply pw_below_drewN | apply below_drew1) | exact HB.out)))); have n1_ := Aside0.mk (below_step (by repeat (first | (with_reducible first | exact HB.out | apply below_alloc | apply pw_below_drewN | apply below_drew1) | exact HB.out)) hb); clear HB; have HO194 := n0_; have HB := n1_; clear n0_ n1_; (try clear hb); (try clear hb2); (try clear hk); (try clear hi); (try clear ho0); obtain ⟨Ao17, co17, eo17⟩ := Kd.R_slice HO194.out; subst eo17) | ((with_reducible refine gate_callee (f := 17) rfl ?_); refine goesL_ (some 18) rfl rfl Try.func17 (by kernel_rfl) rfl #[.slice Ao17 t192.length co17, .int .i64 a1] rfl (by (try simp only [List.map_toArray, List.map_cons, List.map_nil]); first | done | rfl | (simp only [List.length_drop, List.length_take]; rfl)) ?_; (with_reducible refine (quarryref08_begins.calls _ _ t192 a1 true _ ?side1 ?side2 A7.out).mono ?_); (case side1 => repeat (first | exact (Kd.R_reads' HO194.out).2.2 | (with_reducible refine Kd.C_alloc ?_ _) | (with_reducible refine Kd.C_drewN ?_ _) | (with_reducible refine Kd.C_drew ?_))); (case side2 => exact (Kd.R_reads' HO194.out).2.1); rintro e w' ⟨rfl, ⟨nd, rfl⟩⟩; refine ⟨_, rfl, ?_⟩; have p196 : 0 ≤ (a1 : Int) := of_decide_eq_true (by first | (with_reducible assumption) | assumption); have q196 : a1 < (t192.length : Int) := of_decide_eq_true (by first | (with_reducible assumption) | assumption); obtain ⟨ad196, e196, hx196_0⟩ := Kd.at_int (Kd.R_reads' HO194.out).2.2 a1 p196 q196; cases e196; replace p196 := eq_true p196; replace q196 := eq_true q196; have p15 : 0 ≤ (a1 : Int) := of_decide_eq_true (by first | (with_reducible assumption) | assumption); have q15 : a1 < (a0.size : Int) := of_decide_eq_true (by first | (with_reducible assumption) | assumption); have hx15 := bt_at a0 a1; replace p15 := eq_true p15; replace q15 := eq_true q15))
                  go_ret
                  exact ⟨by first | rfl | (simp [errW_none, errW_some] <;> rfl) | (simp [*, errW_none, errW_some] <;> rfl), by repeat (first | (with_reducible first | exact HB.out | apply below_alloc | apply pw_below_drewN | apply below_drew1) | exact HB.out)⟩
                · rw [if_neg c14] at H
                  exact absurd H (by simp)
            · rw [if_neg c10] at H
              exact absurd H (by simp)
          · rw [if_neg c9] at H
            exact absurd H (by simp)
        · replace c8 := Bool.eq_false_iff.mpr c8
          subst c8
          have H1 : (some 0) = some r := by rw [if_neg (show ¬ (false = true) by decide)] at H; exact H
          clear H
          have H := H1
          clear H1
          obtain rfl := Option.some.inj H
          go_wp2_with (first | ((with_reducible refine gate_callee (f := 14) rfl ?_); refine goesL_ (some 15) rfl rfl Try.func14 (by kernel_rfl) rfl #[.string a0] rfl (by (try simp only [List.map_toArray, List.map_cons, List.map_nil]); first | done | rfl | (simp only [List.length_drop, List.length_take]; rfl)) ?_; (with_reducible refine (quarryref08_Bytes.calls kj2 a0 t192 _ A6.out).mono ?_); rintro e w18 ⟨v193, rfl, ho0, hb⟩; refine ⟨_, rfl, ?_⟩; have n0_ := Aside0.mk (Kd.R_lower ho0 (below_size (by repeat (first | (with_reducible first | exact HB.out | apply below_alloc | apply pw_below_drewN | apply below_drew1) | exact HB.out)))); have n1_ := Aside0.mk (below_step (by repeat (first | (with_reducible first | exact HB.out | apply below_alloc | apply pw_below_drewN | apply below_drew1) | exact HB.out)) hb); clear HB; have HO194 := n0_; have HB := n1_; clear n0_ n1_; (try clear hb); (try clear hb2); (try clear hk); (try clear hi); (try clear ho0); obtain ⟨Ao19, co19, eo19⟩ := Kd.R_slice HO194.out; subst eo19) | ((with_reducible refine gate_callee (f := 17) rfl ?_); refine goesL_ (some 18) rfl rfl Try.func17 (by kernel_rfl) rfl #[.slice Ao19 t192.length co19, .int .i64 a1] rfl (by (try simp only [List.map_toArray, List.map_cons, List.map_nil]); first | done | rfl | (simp only [List.length_drop, List.length_take]; rfl)) ?_; (with_reducible refine (quarryref08_begins.calls _ _ t192 a1 false _ ?side1 ?side2 A7.out).mono ?_); (case side1 => repeat (first | exact (Kd.R_reads' HO194.out).2.2 | (with_reducible refine Kd.C_alloc ?_ _) | (with_reducible refine Kd.C_drewN ?_ _) | (with_reducible refine Kd.C_drew ?_))); (case side2 => exact (Kd.R_reads' HO194.out).2.1); rintro e w' ⟨rfl, ⟨nd, rfl⟩⟩; refine ⟨_, rfl, ?_⟩))
          go_ret
          exact ⟨by first | rfl | (simp [errW_none, errW_some] <;> rfl) | (simp [*, errW_none, errW_some] <;> rfl), by repeat (first | (with_reducible first | exact HB.out | apply below_alloc | apply pw_below_drewN | apply below_drew1) | exact HB.out)⟩

/-! ### quarrylaw08_MarksKinds: function 4 -/
def quarrylaw08_MarksKinds.j0 : Nat → ByteArray → Int → Bool → Option (Bool)
  | 0, _, _, _ => none
  | k + 1, x0, x1, x18 => if x18 = true then (some false) else ((marks_Kind.f k x0 x1).bind fun t201 => ((quarryref08_Kind.f k x0 x1).bind fun t202 => (some (t201 == t202))))
def quarrylaw08_MarksKinds.f (k : Nat) (a0 : ByteArray) (a1 : Int) : Option (Bool) := (marks_Kind.f k (⟨#[123, 34, 97, 32, 98, 34, 32, 58, 32, 91, 49, 44, 116, 114, 117, 101, 93, 125]⟩ : ByteArray) 1).bind fun t197 => (if t197 = 34 then ((marks_Kind.f k (⟨#[123, 34, 97, 32, 98, 34, 32, 58, 32, 91, 49, 44, 116, 114, 117, 101, 93, 125]⟩ : ByteArray) 12).bind fun t198 => (if t198 = 119 then ((marks_Kind.f k (⟨#[123, 34, 97, 32, 98, 34, 32, 58, 32, 91, 49, 44, 116, 114, 117, 101, 93, 125]⟩ : ByteArray) 7).bind fun t199 => (if t199 = 58 then ((marks_Kind.f k (⟨#[123, 34, 97, 32, 98, 34, 32, 58, 32, 91, 49, 44, 116, 114, 117, 101, 93, 125]⟩ : ByteArray) 5).bind fun t200 => (quarrylaw08_MarksKinds.j0 k a0 a1 (t200 != 0))) else (quarrylaw08_MarksKinds.j0 k a0 a1 true))) else (quarrylaw08_MarksKinds.j0 k a0 a1 true))) else (quarrylaw08_MarksKinds.j0 k a0 a1 true))
theorem quarrylaw08_MarksKinds.mono_l : ∀ k, (∀ y0 y1 y2, LeO (quarrylaw08_MarksKinds.j0 k y0 y1 y2) (quarrylaw08_MarksKinds.j0 (k + 1) y0 y1 y2))
  | 0 => fun _ _ _ r h => by simp [quarrylaw08_MarksKinds.j0] at h
  | k + 1 => by
    have ih0 := quarrylaw08_MarksKinds.mono_l k
    · intro y0 y1 y2
      unfold quarrylaw08_MarksKinds.j0
      repeat' first
      | (with_reducible exact ih0 _ _ _)
      | (with_reducible exact marks_Kind.mono _ _ _)
      | (with_reducible exact quarryref08_Kind.mono _ _ _)
      | (with_reducible exact LeO.refl _)
      | (with_reducible exact LeO.none _)
      | (with_reducible refine LeO.ite ?_ ?_)
      | (with_reducible refine LeO.bind ?_ (fun _ => ?_))
      | exact ih0 _ _ _
      | exact marks_Kind.mono _ _ _
      | exact quarryref08_Kind.mono _ _ _
      | exact LeO.none _
      | refine LeO.ite ?_ ?_
      | refine LeO.bind ?_ (fun _ => ?_)
theorem quarrylaw08_MarksKinds.mono : ∀ a0 a1 k, LeO (quarrylaw08_MarksKinds.f k a0 a1) (quarrylaw08_MarksKinds.f (k + 1) a0 a1) := by
  intro a0 a1 k
  have ih0 := quarrylaw08_MarksKinds.mono_l k
  unfold quarrylaw08_MarksKinds.f
  repeat' first
      | (with_reducible exact ih0 _ _ _)
      | (with_reducible exact marks_Kind.mono _ _ _)
      | (with_reducible exact quarryref08_Kind.mono _ _ _)
      | (with_reducible exact LeO.refl _)
      | (with_reducible exact LeO.none _)
      | (with_reducible refine LeO.ite ?_ ?_)
      | (with_reducible refine LeO.bind ?_ (fun _ => ?_))
      | exact ih0 _ _ _
      | exact marks_Kind.mono _ _ _
      | exact quarryref08_Kind.mono _ _ _
      | exact LeO.none _
      | refine LeO.ite ?_ ?_
      | refine LeO.bind ?_ (fun _ => ?_)
set_option maxHeartbeats 8000000 in
set_option maxRecDepth 100000 in
theorem quarrylaw08_MarksKinds.calls (k : Nat) (a0 : ByteArray) (a1 : Int) (r : Bool) (w : World) (h : quarrylaw08_MarksKinds.f k a0 a1 = some r) :
    Calls Try.prog 4 #[.string a0, .int .i64 a1] w fun e w' => e = .returned (.bool r) ∧ Below w.heap.size w w' := by
  have HB := Aside0.mk (Below.refl w.heap.size w)
  have H : ((marks_Kind.f k (⟨#[123, 34, 97, 32, 98, 34, 32, 58, 32, 91, 49, 44, 116, 114, 117, 101, 93, 125]⟩ : ByteArray) 1).bind fun t197 => (if t197 = 34 then ((marks_Kind.f k (⟨#[123, 34, 97, 32, 98, 34, 32, 58, 32, 91, 49, 44, 116, 114, 117, 101, 93, 125]⟩ : ByteArray) 12).bind fun t198 => (if t198 = 119 then ((marks_Kind.f k (⟨#[123, 34, 97, 32, 98, 34, 32, 58, 32, 91, 49, 44, 116, 114, 117, 101, 93, 125]⟩ : ByteArray) 7).bind fun t199 => (if t199 = 58 then ((marks_Kind.f k (⟨#[123, 34, 97, 32, 98, 34, 32, 58, 32, 91, 49, 44, 116, 114, 117, 101, 93, 125]⟩ : ByteArray) 5).bind fun t200 => (quarrylaw08_MarksKinds.j0 k a0 a1 (t200 != 0))) else (quarrylaw08_MarksKinds.j0 k a0 a1 true))) else (quarrylaw08_MarksKinds.j0 k a0 a1 true))) else (quarrylaw08_MarksKinds.j0 k a0 a1 true))) = some r := h
  clear h
  have HC3 := Aside0.mk H
  clear H
  go_enter Try.func4, Try.ntmps4
  go_upto_region 1 with (fail)
  go_cut [18] (fun v18 wc => ∃ (kq : Nat) (x18_2 : Bool), v18 = .bool x18_2 ∧ Aside0 (quarrylaw08_MarksKinds.j0 kq a0 a1 x18_2 = some r) ∧ Aside0 (kq ≤ k) ∧ Aside0 (Below w.heap.size w wc))
  case first =>
    have H := HC3.out
    clear HC3
    replace H := Option.bind_eq_some_iff.mp H
    obtain ⟨t197, A40, H⟩ := H
    replace H : (if t197 = 34 then ((marks_Kind.f k (⟨#[123, 34, 97, 32, 98, 34, 32, 58, 32, 91, 49, 44, 116, 114, 117, 101, 93, 125]⟩ : ByteArray) 12).bind fun t198 => (if t198 = 119 then ((marks_Kind.f k (⟨#[123, 34, 97, 32, 98, 34, 32, 58, 32, 91, 49, 44, 116, 114, 117, 101, 93, 125]⟩ : ByteArray) 7).bind fun t199 => (if t199 = 58 then ((marks_Kind.f k (⟨#[123, 34, 97, 32, 98, 34, 32, 58, 32, 91, 49, 44, 116, 114, 117, 101, 93, 125]⟩ : ByteArray) 5).bind fun t200 => (quarrylaw08_MarksKinds.j0 k a0 a1 (t200 != 0))) else (quarrylaw08_MarksKinds.j0 k a0 a1 true))) else (quarrylaw08_MarksKinds.j0 k a0 a1 true))) else (quarrylaw08_MarksKinds.j0 k a0 a1 true)) = some r := H
    have A4 := Aside0.mk A40
    clear A40
    by_cases c5 : t197 = 34
    · rw [if_pos c5] at H
      have c5b0 : (t197 == 34) = true := beq_iff_eq.mpr c5
      have c5b1 : (t197 != 34) = false := bne_eq_false_iff_eq.mpr c5
      clear c5
      (first | rw [c5b0] | (simp only [i64_w, i32_w]; rw [c5b0]) | skip)
      replace H := Option.bind_eq_some_iff.mp H
      obtain ⟨t198, A60, H⟩ := H
      replace H : (if t198 = 119 then ((marks_Kind.f k (⟨#[123, 34, 97, 32, 98, 34, 32, 58, 32, 91, 49, 44, 116, 114, 117, 101, 93, 125]⟩ : ByteArray) 7).bind fun t199 => (if t199 = 58 then ((marks_Kind.f k (⟨#[123, 34, 97, 32, 98, 34, 32, 58, 32, 91, 49, 44, 116, 114, 117, 101, 93, 125]⟩ : ByteArray) 5).bind fun t200 => (quarrylaw08_MarksKinds.j0 k a0 a1 (t200 != 0))) else (quarrylaw08_MarksKinds.j0 k a0 a1 true))) else (quarrylaw08_MarksKinds.j0 k a0 a1 true)) = some r := H
      have A6 := Aside0.mk A60
      clear A60
      by_cases c7 : t198 = 119
      · rw [if_pos c7] at H
        have c7b0 : (t198 == 119) = true := beq_iff_eq.mpr c7
        have c7b1 : (t198 != 119) = false := bne_eq_false_iff_eq.mpr c7
        clear c7
        replace H := Option.bind_eq_some_iff.mp H
        obtain ⟨t199, A80, H⟩ := H
        replace H : (if t199 = 58 then ((marks_Kind.f k (⟨#[123, 34, 97, 32, 98, 34, 32, 58, 32, 91, 49, 44, 116, 114, 117, 101, 93, 125]⟩ : ByteArray) 5).bind fun t200 => (quarrylaw08_MarksKinds.j0 k a0 a1 (t200 != 0))) else (quarrylaw08_MarksKinds.j0 k a0 a1 true)) = some r := H
        have A8 := Aside0.mk A80
        clear A80
        by_cases c9 : t199 = 58
        · rw [if_pos c9] at H
          have c9b0 : (t199 == 58) = true := beq_iff_eq.mpr c9
          have c9b1 : (t199 != 58) = false := bne_eq_false_iff_eq.mpr c9
          clear c9
          replace H := Option.bind_eq_some_iff.mp H
          obtain ⟨t200, A100, H⟩ := H
          replace H : (quarrylaw08_MarksKinds.j0 k a0 a1 (t200 != 0)) = some r := H
          have A10 := Aside0.mk A100
          clear A100
          have H' := Aside0.mk H
          clear H
          have tk0_ : True := trivial
          have tk1_ : True := trivial
          have tk2_ : True := trivial
          go_wp2_with (first | ((with_reducible refine gate_callee (f := 9) rfl ?_); refine goesL_ (some 5) rfl rfl Try.func9 (by kernel_rfl) rfl #[.string (⟨#[123, 34, 97, 32, 98, 34, 32, 58, 32, 91, 49, 44, 116, 114, 117, 101, 93, 125]⟩ : ByteArray), .int .i64 1] rfl (by (try simp only [List.map_toArray, List.map_cons, List.map_nil]); first | done | rfl | (simp only [List.length_drop, List.length_take]; rfl)) ?_; (with_reducible refine (marks_Kind.calls k (⟨#[123, 34, 97, 32, 98, 34, 32, 58, 32, 91, 49, 44, 116, 114, 117, 101, 93, 125]⟩ : ByteArray) 1 t197 _ A4.out).mono ?_); rintro e w11 ⟨rfl, hb⟩; refine ⟨_, rfl, ?_⟩; have n0_ := Aside0.mk (below_step (by repeat (first | (with_reducible first | exact HB.out | apply below_alloc | apply pw_below_drewN | apply below_drew1) | exact HB.out)) hb); clear HB; have HB := n0_; clear n0_; (try clear hb); (try clear hb2); (try clear hk); (try clear hi)) | (go_at_call 9; replace tk0_ := tk0_; (with_reducible refine (marks_Kind.calls k (⟨#[123, 34, 97, 32, 98, 34, 32, 58, 32, 91, 49, 44, 116, 114, 117, 101, 93, 125]⟩ : ByteArray) 12 t198 _ A6.out).mono ?_); rintro e w12 ⟨rfl, hb⟩; have n0_ := Aside0.mk (below_step (by repeat (first | (with_reducible first | exact HB.out | apply below_alloc | apply pw_below_drewN | apply below_drew1) | exact HB.out)) hb); clear HB; have HB := n0_; clear n0_; (try clear hb); (try clear hb2); (try clear hk); (try clear hi); clear tk0_) | (go_at_call 9; replace tk1_ := tk1_; (with_reducible refine (marks_Kind.calls k (⟨#[123, 34, 97, 32, 98, 34, 32, 58, 32, 91, 49, 44, 116, 114, 117, 101, 93, 125]⟩ : ByteArray) 7 t199 _ A8.out).mono ?_); rintro e w13 ⟨rfl, hb⟩; have n0_ := Aside0.mk (below_step (by repeat (first | (with_reducible first | exact HB.out | apply below_alloc | apply pw_below_drewN | apply below_drew1) | exact HB.out)) hb); clear HB; have HB := n0_; clear n0_; (try clear hb); (try clear hb2); (try clear hk); (try clear hi); clear tk1_) | (go_at_call 9; replace tk2_ := tk2_; (with_reducible refine (marks_Kind.calls k (⟨#[123, 34, 97, 32, 98, 34, 32, 58, 32, 91, 49, 44, 116, 114, 117, 101, 93, 125]⟩ : ByteArray) 5 t200 _ A10.out).mono ?_); rintro e w14 ⟨rfl, hb⟩; have n0_ := Aside0.mk (below_step (by repeat (first | (with_reducible first | exact HB.out | apply below_alloc | apply pw_below_drewN | apply below_drew1) | exact HB.out)) hb); clear HB; have HB := n0_; clear n0_; (try clear hb); (try clear hb2); (try clear hk); (try clear hi); clear tk2_))
          go_meet
          case rel => exact ⟨_, ((t200 != 0)), (by first | rfl | (simp; done) | (simp [*]; done)), H', ⟨by first | omega | exact Nat.le_refl _⟩, ⟨by repeat (first | (with_reducible first | exact HB.out | apply below_alloc | apply pw_below_drewN | apply below_drew1) | exact HB.out)⟩⟩
        · rw [if_neg c9] at H
          have c9b0 : (t199 == 58) = false := beq_eq_false_iff_ne.mpr c9
          have c9b1 : (t199 != 58) = true := bne_iff_ne.mpr c9
          have H' := Aside0.mk H
          clear H
          have tk0_ : True := trivial
          have tk1_ : True := trivial
          go_wp2_with (first | ((with_reducible refine gate_callee (f := 9) rfl ?_); refine goesL_ (some 5) rfl rfl Try.func9 (by kernel_rfl) rfl #[.string (⟨#[123, 34, 97, 32, 98, 34, 32, 58, 32, 91, 49, 44, 116, 114, 117, 101, 93, 125]⟩ : ByteArray), .int .i64 1] rfl (by (try simp only [List.map_toArray, List.map_cons, List.map_nil]); first | done | rfl | (simp only [List.length_drop, List.length_take]; rfl)) ?_; (with_reducible refine (marks_Kind.calls k (⟨#[123, 34, 97, 32, 98, 34, 32, 58, 32, 91, 49, 44, 116, 114, 117, 101, 93, 125]⟩ : ByteArray) 1 t197 _ A4.out).mono ?_); rintro e w15 ⟨rfl, hb⟩; refine ⟨_, rfl, ?_⟩; have n0_ := Aside0.mk (below_step (by repeat (first | (with_reducible first | exact HB.out | apply below_alloc | apply pw_below_drewN | apply below_drew1) | exact HB.out)) hb); clear HB; have HB := n0_; clear n0_; (try clear hb); (try clear hb2); (try clear hk); (try clear hi)) | (go_at_call 9; replace tk0_ := tk0_; (with_reducible refine (marks_Kind.calls k (⟨#[123, 34, 97, 32, 98, 34, 32, 58, 32, 91, 49, 44, 116, 114, 117, 101, 93, 125]⟩ : ByteArray) 12 t198 _ A6.out).mono ?_); rintro e w16 ⟨rfl, hb⟩; have n0_ := Aside0.mk (below_step (by repeat (first | (with_reducible first | exact HB.out | apply below_alloc | apply pw_below_drewN | apply below_drew1) | exact HB.out)) hb); clear HB; have HB := n0_; clear n0_; (try clear hb); (try clear hb2); (try clear hk); (try clear hi); clear tk0_) | (go_at_call 9; replace tk1_ := tk1_; (with_reducible refine (marks_Kind.calls k (⟨#[123, 34, 97, 32, 98, 34, 32, 58, 32, 91, 49, 44, 116, 114, 117, 101, 93, 125]⟩ : ByteArray) 7 t199 _ A8.out).mono ?_); rintro e w17 ⟨rfl, hb⟩; have n0_ := Aside0.mk (below_step (by repeat (first | (with_reducible first | exact HB.out | apply below_alloc | apply pw_below_drewN | apply below_drew1) | exact HB.out)) hb); clear HB; have HB := n0_; clear n0_; (try clear hb); (try clear hb2); (try clear hk); (try clear hi); clear tk1_))
          go_meet
          case rel => exact ⟨_, (true), (by first | rfl | (simp; done) | (simp [*]; done)), H', ⟨by first | omega | exact Nat.le_refl _⟩, ⟨by repeat (first | (with_reducible first | exact HB.out | apply below_alloc | apply pw_below_drewN | apply below_drew1) | exact HB.out)⟩⟩
      · rw [if_neg c7] at H
        have c7b0 : (t198 == 119) = false := beq_eq_false_iff_ne.mpr c7
        have c7b1 : (t198 != 119) = true := bne_iff_ne.mpr c7
        have H' := Aside0.mk H
        clear H
        go_wp2_with (first | ((with_reducible refine gate_callee (f := 9) rfl ?_); refine goesL_ (some 5) rfl rfl Try.func9 (by kernel_rfl) rfl #[.string (⟨#[123, 34, 97, 32, 98, 34, 32, 58, 32, 91, 49, 44, 116, 114, 117, 101, 93, 125]⟩ : ByteArray), .int .i64 1] rfl (by (try simp only [List.map_toArray, List.map_cons, List.map_nil]); first | done | rfl | (simp only [List.length_drop, List.length_take]; rfl)) ?_; (with_reducible refine (marks_Kind.calls k (⟨#[123, 34, 97, 32, 98, 34, 32, 58, 32, 91, 49, 44, 116, 114, 117, 101, 93, 125]⟩ : ByteArray) 1 t197 _ A4.out).mono ?_); rintro e w18 ⟨rfl, hb⟩; refine ⟨_, rfl, ?_⟩; have n0_ := Aside0.mk (below_step (by repeat (first | (with_reducible first | exact HB.out | apply below_alloc | apply pw_below_drewN | apply below_drew1) | exact HB.out)) hb); clear HB; have HB := n0_; clear n0_; (try clear hb); (try clear hb2); (try clear hk); (try clear hi)) | (go_at_call 9; (with_reducible refine (marks_Kind.calls k (⟨#[123, 34, 97, 32, 98, 34, 32, 58, 32, 91, 49, 44, 116, 114, 117, 101, 93, 125]⟩ : ByteArray) 12 t198 _ A6.out).mono ?_); rintro e w19 ⟨rfl, hb⟩; have n0_ := Aside0.mk (below_step (by repeat (first | (with_reducible first | exact HB.out | apply below_alloc | apply pw_below_drewN | apply below_drew1) | exact HB.out)) hb); clear HB; have HB := n0_; clear n0_; (try clear hb); (try clear hb2); (try clear hk); (try clear hi)))
        go_meet
        case rel => exact ⟨_, (true), (by first | rfl | (simp; done) | (simp [*]; done)), H', ⟨by first | omega | exact Nat.le_refl _⟩, ⟨by repeat (first | (with_reducible first | exact HB.out | apply below_alloc | apply pw_below_drewN | apply below_drew1) | exact HB.out)⟩⟩
    · rw [if_neg c5] at H
      have c5b0 : (t197 == 34) = false := beq_eq_false_iff_ne.mpr c5
      have c5b1 : (t197 != 34) = true := bne_iff_ne.mpr c5
      (first | rw [c5b0] | (simp only [i64_w, i32_w]; rw [c5b0]) | skip)
      have H' := Aside0.mk H
      clear H
      go_wp2_with (first | ((with_reducible refine gate_callee (f := 9) rfl ?_); refine goesL_ (some 5) rfl rfl Try.func9 (by kernel_rfl) rfl #[.string (⟨#[123, 34, 97, 32, 98, 34, 32, 58, 32, 91, 49, 44, 116, 114, 117, 101, 93, 125]⟩ : ByteArray), .int .i64 1] rfl (by (try simp only [List.map_toArray, List.map_cons, List.map_nil]); first | done | rfl | (simp only [List.length_drop, List.length_take]; rfl)) ?_; (with_reducible refine (marks_Kind.calls k (⟨#[123, 34, 97, 32, 98, 34, 32, 58, 32, 91, 49, 44, 116, 114, 117, 101, 93, 125]⟩ : ByteArray) 1 t197 _ A4.out).mono ?_); rintro e w20 ⟨rfl, hb⟩; refine ⟨_, rfl, ?_⟩; have n0_ := Aside0.mk (below_step (by repeat (first | (with_reducible first | exact HB.out | apply below_alloc | apply pw_below_drewN | apply below_drew1) | exact HB.out)) hb); clear HB; have HB := n0_; clear n0_; (try clear hb); (try clear hb2); (try clear hk); (try clear hi)))
      go_meet
      case rel => exact ⟨_, (true), (by first | rfl | (simp; done) | (simp [*]; done)), H', ⟨by first | omega | exact Nat.le_refl _⟩, ⟨by repeat (first | (with_reducible first | exact HB.out | apply below_alloc | apply pw_below_drewN | apply below_drew1) | exact HB.out)⟩⟩
  case rest =>
    clear HC3
    try clear p2
    try clear c4
    try clear c5
    try clear c5b0
    try clear c5b1
    try clear c7
    try clear c7b0
    try clear c7b1
    try clear c9
    try clear c9b0
    try clear c9b1
    obtain ⟨kq, x18_2, rfl, HA, HJ2, HB⟩ := hcut
    cases kq with
    | zero => exact absurd HA.out (by simp [quarrylaw08_MarksKinds.j0])
    | succ kj2 =>
      have H := HA.out
      clear HA
      simp only [quarrylaw08_MarksKinds.j0] at H
      by_cases c21 : x18_2 = true
      · subst c21
        have H1 : (some false) = some r := by rw [if_pos rfl] at H; exact H
        clear H
        have H := H1
        clear H1
        obtain rfl := Option.some.inj H
        go_wp2
        go_ret
        exact ⟨by first | rfl | (simp [errW_none, errW_some] <;> rfl) | (simp [*, errW_none, errW_some] <;> rfl), by repeat (first | (with_reducible first | exact HB.out | apply below_alloc | apply pw_below_drewN | apply below_drew1) | exact HB.out)⟩
      · replace c21 := Bool.eq_false_iff.mpr c21
        subst c21
        have H1 : ((marks_Kind.f kj2 a0 a1).bind fun t201 => ((quarryref08_Kind.f kj2 a0 a1).bind fun t202 => (some (t201 == t202)))) = some r := by rw [if_neg (show ¬ (false = true) by decide)] at H; exact H
        clear H
        have H := H1
        clear H1
        replace H := Option.bind_eq_some_iff.mp H
        obtain ⟨t201, A220, H⟩ := H
        replace H : ((quarryref08_Kind.f kj2 a0 a1).bind fun t202 => (some (t201 == t202))) = some r := H
        have A22 := Aside0.mk A220
        clear A220
        replace H := Option.bind_eq_some_iff.mp H
        obtain ⟨t202, A230, H⟩ := H
        replace H : (some (t201 == t202)) = some r := H
        have A23 := Aside0.mk A230
        clear A230
        obtain rfl := Option.some.inj H
        go_wp2_with (first | ((with_reducible refine gate_callee (f := 9) rfl ?_); refine goesL_ (some 21) rfl rfl Try.func9 (by kernel_rfl) rfl #[.string a0, .int .i64 a1] rfl (by (try simp only [List.map_toArray, List.map_cons, List.map_nil]); first | done | rfl | (simp only [List.length_drop, List.length_take]; rfl)) ?_; (with_reducible refine (marks_Kind.calls kj2 a0 a1 t201 _ A22.out).mono ?_); rintro e w24 ⟨rfl, hb⟩; refine ⟨_, rfl, ?_⟩; have n0_ := Aside0.mk (below_step (by repeat (first | (with_reducible first | exact HB.out | apply below_alloc | apply pw_below_drewN | apply below_drew1) | exact HB.out)) hb); clear HB; have HB := n0_; clear n0_; (try clear hb); (try clear hb2); (try clear hk); (try clear hi)) | ((with_reducible refine gate_callee (f := 10) rfl ?_); refine goesL_ (some 24) rfl rfl Try.func10 (by kernel_rfl) rfl #[.string a0, .int .i64 a1] rfl (by (try simp only [List.map_toArray, List.map_cons, List.map_nil]); first | done | rfl | (simp only [List.length_drop, List.length_take]; rfl)) ?_; (with_reducible refine (quarryref08_Kind.calls kj2 a0 a1 t202 _ A23.out).mono ?_); rintro e w25 ⟨rfl, hb⟩; refine ⟨_, rfl, ?_⟩; have n0_ := Aside0.mk (below_step (by repeat (first | (with_reducible first | exact HB.out | apply below_alloc | apply pw_below_drewN | apply below_drew1) | exact HB.out)) hb); clear HB; have HB := n0_; clear n0_; (try clear hb); (try clear hb2); (try clear hk); (try clear hi)))
        go_ret
        exact ⟨by first | rfl | (simp [errW_none, errW_some] <;> rfl) | (simp [*, errW_none, errW_some] <;> rfl), by repeat (first | (with_reducible first | exact HB.out | apply below_alloc | apply pw_below_drewN | apply below_drew1) | exact HB.out)⟩

/-- THE ONE PURE STATEMENT of quarrylaw08_MarksKinds: yours. -/
def quarrylaw08_MarksKinds.Pure : Prop := ∀ (a0 : ByteArray) (a1 : Int), a0.size ≤ 140737488351232 → (Lit.int .i64 a1).wf = true → ∃ k, quarrylaw08_MarksKinds.f k a0 a1 = some true
theorem quarrylaw08_MarksKinds.walk (P : quarrylaw08_MarksKinds.Pure) (a0 : ByteArray) (a1 : Int) (w : World) (w0 : a0.size ≤ 140737488351232) (w1 : (Lit.int .i64 a1).wf = true) :
    Calls Try.prog 4 #[.string a0, .int .i64 a1] w fun e w' => e = .returned (.bool true) ∧ Below w.heap.size w w' := by
  obtain ⟨k, h⟩ := P a0 a1 w0 w1
  refine (quarrylaw08_MarksKinds.calls k a0 a1 true w h).mono ?_
  rintro e w' ⟨rfl, hd⟩
  exact ⟨rfl, hd⟩

end Go.Proofs.Ytehjddmocckjgaa.PKK
