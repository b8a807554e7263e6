/- Parts of a claim (TC), packed by a program (pack.py) out of the texts that it names. -/
import Derived.Test.YtfihkkjkifkemaaDoorCards
import Derived.Test.YtfihkkjkifkemaaDoorTie
import Derived.WalkKit
import Derived.ProofKit
import Derived.OpenShut
import Derived.ShutString
import Derived.ChangeOld
import Derived.Below
import Derived.SizedLaws
import Derived.Deep.DeepHandedRow
import Derived.Lib.LaidTab
import Derived.Test.YtfihkkjkifkemaaDoorTC4
-- PSx11
section
namespace Go.Proofs.YtfihkkjkifkemaaDoor.PS
attribute [local go_sem] Go.Proofs.YtfihkkjkifkemaaDoorM.fieldBits0 Go.Proofs.YtfihkkjkifkemaaDoorM.fieldBits1
open Go.Proofs.YtfihkkjkifkemaaDoorM (TabOk)
open Go.RowKit Go.Proofs.YtfihkkjkifkemaaDoorW.PrintWords Go.Proofs.YtfihkkjkifkemaaDoorW.PrintLast Go.Proofs.YtfihkkjkifkemaaDoorW.PrintMore
attribute [local go_sem] max2_int min2_int max_two min_two max_three min_three max_four min_four   -- for this text's walks alone
set_option linter.unusedVariables false
set_option linter.unusedSimpArgs false

attribute [local go_sem high] eqA36
set_option maxHeartbeats 8000000 in
set_option maxRecDepth 100000 in
theorem quarrylaw27_StreamCovers.calls (k : Nat) (a0 : ByteArray) (r : Bool) (w : World) (hT : TabOk w) (h : quarrylaw27_StreamCovers.f k a0 = some r) :
  Calls Tryd.prog 6 #[.string a0] w fun e w' => e = .returned (.bool r) ∧ Below w.heap.size w w' := by
 have TK_ := zS hT
 clear hT
 have hu36 := Tryd.underlying36
 have HB := zS (Below.refl w.heap.size w)
 have H : ((stream_Split.f a0).bind fun bt200 => (if bt200.2 ≥ 0 then (quarrylaw27_StreamCovers.j0 k a0 bt200.1 bt200.2 bt200.2) else (quarrylaw27_StreamCovers.j0 k a0 bt200.1 bt200.2 (a0.size : Int)))) = some r := h
 clear h
 replace H := Option.bind_eq_some_iff.mp H
 obtain ⟨⟨t200, t201⟩, A20, H⟩ := H
 replace H : (if t201 ≥ 0 then (quarrylaw27_StreamCovers.j0 k a0 t200 t201 t201) else (quarrylaw27_StreamCovers.j0 k a0 t200 t201 (a0.size : Int))) = some r := H
 have A2 := zS A20
 clear A20
 have HC3 := zS H
 clear H
 go_enter Tryd.func6, Tryd.ntmps6
 go_upto_if 19 with (first | ((with_reducible refine gate_callee (f := 10) rfl ?_); refine goesL_ (some 13) rfl rfl Tryd.func10 (by kernel_rfl) rfl #[.string a0] rfl (by (try simp only [List.map_toArray, List.map_cons, List.map_nil]); first | done | rfl | (simp only [List.length_drop, List.length_take]; rfl)) ?_; (with_reducible refine (stream_Split.calls a0 t200 t201 _ ?tabk A2.out).mono ?_); (case tabk => exact TK_.out.step (by repeat (first | (with_reducible first | exact HB.out | apply zQ | apply zN | apply zO) | exact HB.out))); rintro e w4 ⟨v202, rfl, ho0, hb⟩; refine ⟨_, rfl, ?_⟩; have n0_ := zS (Kd.R_lower ho0 (below_size (by repeat (first | (with_reducible first | exact HB.out | apply zQ | apply zN | apply zO) | exact HB.out)))); have n1_ := zS (below_step (by repeat (first | (with_reducible first | exact HB.out | apply zQ | apply zN | apply zO) | exact HB.out)) hb); clear HB; have HO203 := n0_; have HB := n1_; clear n0_ n1_; (try clear hb); (try clear hb2); (try clear hk); (try clear hi); (try clear ho0)))
 (try simp only [Act.put, zA, zB, zC])
 go_cut [5] (fun v5 wc => ∃ (kq : Nat) (x5_2 : Int), v5 = .int .i64 x5_2 ∧ Aside0 (quarrylaw27_StreamCovers.j0 kq a0 t200 t201 x5_2 = some r) ∧ Aside0 (kq ≤ k) ∧ Aside0 (Kd.R k36 36 wc w.heap.size (fun _ => True) v202 t200) ∧ Aside0 (Below w.heap.size w wc))
 case first =>
  have H := HC3.out
  clear HC3
  by_cases c5 : t201 ≥ 0
  ·rw [if_pos c5] at H
   have c5b0 : decide (0 ≤ t201) = true := decide_eq_true c5
   clear c5
   (first | rw [c5b0] | (simp only [i64_w, i32_w]; rw [c5b0]) | skip)
   have H' := zS H
   clear H
   go_wp2
   go_meet
   case rel => exact ⟨_, (t201), (by first | rfl | (simp; done) | (simp [*]; done)), H', ⟨by first | omega | exact Nat.le_refl _⟩, ⟨by (with_reducible repeat (first | apply zG | apply zH | apply zI)); exact HO203.out⟩, ⟨by repeat (first | (with_reducible first | exact HB.out | apply zQ | apply zN | apply zO) | exact HB.out)⟩⟩
  ·rw [if_neg c5] at H
   have c5b0 : decide (0 ≤ t201) = false := decide_eq_false c5
   clear c5
   (first | rw [c5b0] | (simp only [i64_w, i32_w]; rw [c5b0]) | skip)
   have H' := zS H
   clear H
   go_wp2
   go_meet
   case rel => exact ⟨_, ((a0.size : Int)), (by first | rfl | (simp; done) | (simp [*]; done)), H', ⟨by first | omega | exact Nat.le_refl _⟩, ⟨by (with_reducible repeat (first | apply zG | apply zH | apply zI)); exact HO203.out⟩, ⟨by repeat (first | (with_reducible first | exact HB.out | apply zQ | apply zN | apply zO) | exact HB.out)⟩⟩
 case rest =>
  clear HC3
  try clear c1
  try clear p2
  try clear c5
  try clear c5b0
  obtain ⟨kq, x5_2, rfl, HA, HJ2, HO_3, HB⟩ := hcut
  cases kq with
  | zero => exact absurd HA.out (by simp [quarrylaw27_StreamCovers.j0])
  | succ kj2 =>
   have H := HA.out
   clear HA
   simp only [quarrylaw27_StreamCovers.j0] at H
   have HC6 := zS H
   clear H
   go_upto_region 5 with (fail)
   go_cut [28] (fun v28 wc => ∃ (kq : Nat) (x28_5 : Bool), v28 = .bool x28_5 ∧ Aside0 (quarrylaw27_StreamCovers.j1 kq a0 t200 t201 x5_2 x28_5 = some r) ∧ Aside0 (kq ≤ kj2) ∧ Aside0 (Kd.R k36 36 wc w.heap.size (fun _ => True) v202 t200) ∧ Aside0 (Below w.heap.size w wc))
   case first =>
    have H := HC6.out
    clear HC6
    by_cases c7 : t201 < (-1)
    ·rw [if_pos c7] at H
     have c7b0 : decide (t201 < (-1)) = true := decide_eq_true c7
     clear c7
     (first | rw [c7b0] | (simp only [i64_w, i32_w]; rw [c7b0]) | skip)
     have H' := zS H
     clear H
     go_wp2
     go_meet
     case rel => exact ⟨_, (true), (by first | rfl | (simp; done) | (simp [*]; done)), H', ⟨by have := HJ2.out; first | omega | exact Nat.le_refl _⟩, ⟨by (with_reducible repeat (first | apply zG | apply zH | apply zI)); exact HO_3.out⟩, ⟨by repeat (first | (with_reducible first | exact HB.out | apply zQ | apply zN | apply zO) | exact HB.out)⟩⟩
    ·rw [if_neg c7] at H
     have c7b0 : decide (t201 < (-1)) = false := decide_eq_false c7
     clear c7
     (first | rw [c7b0] | (simp only [i64_w, i32_w]; rw [c7b0]) | skip)
     have H' := zS H
     clear H
     go_wp2
     go_meet
     case rel => exact ⟨_, (decide (t201 ≥ (a0.size : Int))), (by first | rfl | (simp; done) | (simp [*]; done)), H', ⟨by have := HJ2.out; first | omega | exact Nat.le_refl _⟩, ⟨by (with_reducible repeat (first | apply zG | apply zH | apply zI)); exact HO_3.out⟩, ⟨by repeat (first | (with_reducible first | exact HB.out | apply zQ | apply zN | apply zO) | exact HB.out)⟩⟩
   case rest =>
    clear HC6
    try clear c1
    try clear p2
    try clear c5
    try clear c5b0
    try clear c6
    try clear c7
    try clear c7b0
    try clear p2
    obtain ⟨kq, x28_5, rfl, HA, HJ5, HO_3, HB⟩ := hcut
    cases kq with
    | zero => exact absurd HA.out (by simp [quarrylaw27_StreamCovers.j1])
    | succ kj5 =>
     have H := HA.out
     clear HA
     simp only [quarrylaw27_StreamCovers.j1] at H
     by_cases c8 : x28_5 = true
     ·subst c8
      have H1 : (some false) = some r := by rw [if_pos rfl] at H; exact H
      clear H
      have H := H1
      clear H1
      obtain rfl := Option.some.inj H
      go_wp2
      go_ret
      exact ⟨by first | rfl | (simp [errW_none, errW_some] <;> rfl) | (simp [*, errW_none, errW_some] <;> rfl), by repeat (first | (with_reducible first | exact HB.out | apply zQ | apply zN | apply zO) | exact HB.out)⟩
     ·replace c8 := Bool.eq_false_iff.mpr c8
      subst c8
      have H1 : (quarrylaw27_StreamCovers.l0 kj5 a0 t200 t201 x5_2 0 0) = some r := by rw [if_neg (show ¬ (false = true) by decide)] at H; exact H
      clear H
      have H := H1
      clear H1
      have H' := zS H
      clear H
      go_wp2
      go_loopg [6, 7] kj5 (fun kq v6 v7 w' => ∃ (x6_3 : Int) (x7_3 : Int), v6 = .int .i64 x6_3 ∧ v7 = .int .i64 x7_3 ∧ Aside0 (quarrylaw27_StreamCovers.l0 kq a0 t200 t201 x5_2 x6_3 x7_3 = some r) ∧ Aside0 (kq ≤ kj5) ∧ Aside0 (Kd.R k36 36 w' w.heap.size (fun _ => True) v202 t200) ∧ Aside0 (Below w.heap.size w w'))
      case atStart => exact ⟨(0), (0), (by first | rfl | (simp; done) | (simp [*]; done)), (by first | rfl | (simp; done) | (simp [*]; done)), H', ⟨Nat.le_refl _⟩, ⟨by (with_reducible repeat (first | apply zG | apply zH | apply zI)); exact HO_3.out⟩, ⟨by repeat (first | (with_reducible first | exact HB.out | apply zQ | apply zN | apply zO) | exact HB.out)⟩⟩
      case round =>
       clear H'
       try clear c1
       try clear p2
       try clear c5
       try clear c5b0
       try clear c6
       try clear c7
       try clear c7b0
       try clear c8
       try clear p2
       obtain ⟨x6_3, x7_3, rfl, rfl, HA, HK3, HO_3, HB⟩ := hrel
       cases gk with
       | zero => exact absurd HA.out (by simp [quarrylaw27_StreamCovers.l0])
       | succ k3 =>
        have H := HA.out
        clear HA
        simp only [quarrylaw27_StreamCovers.l0] at H
        by_cases c9 : x7_3 ≤ (t200.length : Int)
        ·rw [if_pos c9] at H
         have c9b0 : decide (x7_3 ≤ (t200.length : Int)) = true := decide_eq_true c9
         clear c9
         have HC10 := zS H
         clear H
         obtain ⟨Ao11, co11, eo11⟩ := Kd.R_slice HO_3.out
         subst eo11
         go_upto_if 39 with (fail)
         go_cut [8] (fun v8 wc => ∃ (kq : Nat) (x8_9 : Int), v8 = .int .i64 x8_9 ∧ Aside0 (quarrylaw27_StreamCovers.j3 kq a0 t200 t201 x5_2 x6_3 x7_3 x8_9 = some r) ∧ Aside0 (kq ≤ k3) ∧ Aside0 (Kd.R k36 36 wc w.heap.size (fun _ => True) (.slice Ao11 t200.length co11) t200) ∧ Aside0 (Below w.heap.size w wc))
         case first =>
          have H := HC10.out
          clear HC10
          by_cases c12 : x7_3 < (t200.length : Int)
          ·rw [if_pos c12] at H
           have c12b0 : decide (x7_3 < (t200.length : Int)) = true := decide_eq_true c12
           clear c12
           (first | rw [c12b0] | (simp only [i64_w, i32_w]; rw [c12b0]) | skip)
           by_cases c13 : 0 ≤ x7_3
           ·rw [if_pos c13] at H
            have c13b0 : decide (0 ≤ x7_3) = true := decide_eq_true c13
            clear c13
            have H' := zS H
            clear H
            have p205 : 0 ≤ (x7_3 : Int) := of_decide_eq_true (by first | (with_reducible assumption) | assumption)
            have q205 : x7_3 < (t200.length : Int) := of_decide_eq_true (by first | (with_reducible assumption) | assumption)
            obtain ⟨ad205, e205, hx205_0, hx205_1⟩ := at_T36 (Kd.R_reads' HO_3.out).2.2 x7_3 p205 q205
            cases e205
            replace p205 := eq_true p205
            replace q205 := eq_true q205
            go_wp2
            go_meet
            case rel => exact ⟨_, ((rd_T36 t200 x7_3).f0), (by first | rfl | (simp; done) | (simp [*]; done)), H', ⟨by have := HJ2.out; have := HJ5.out; have := HK3.out; first | omega | exact Nat.le_refl _⟩, ⟨by (with_reducible repeat (first | apply zG | apply zH | apply zI)); exact HO_3.out⟩, ⟨by repeat (first | (with_reducible first | exact HB.out | apply zQ | apply zN | apply zO) | exact HB.out)⟩⟩
           ·rw [if_neg c13] at H
            exact absurd H (by simp)
          ·rw [if_neg c12] at H
           have c12b0 : decide (x7_3 < (t200.length : Int)) = false := decide_eq_false c12
           clear c12
           (first | rw [c12b0] | (simp only [i64_w, i32_w]; rw [c12b0]) | skip)
           have H' := zS H
           clear H
           go_wp2
           go_meet
           case rel => exact ⟨_, (x5_2), (by first | rfl | (simp; done) | (simp [*]; done)), H', ⟨by have := HJ2.out; have := HJ5.out; have := HK3.out; first | omega | exact Nat.le_refl _⟩, ⟨by (with_reducible repeat (first | apply zG | apply zH | apply zI)); exact HO_3.out⟩, ⟨by repeat (first | (with_reducible first | exact HB.out | apply zQ | apply zN | apply zO) | exact HB.out)⟩⟩
         case rest =>
          clear HC10
          try clear c1
          try clear p2
          try clear q2
          try clear hx2
          try clear c5
          try clear c5b0
          try clear c6
          try clear c7
          try clear c7b0
          try clear c8
          try clear c9
          try clear c9b0
          try clear c10
          try clear c12
          try clear c12b0
          try clear c13
          try clear c13b0
          try clear hx205_0
          try clear hx205_1
          try clear p2
          try clear p205
          try clear q205
          obtain ⟨kq, x8_9, rfl, HA, HJ9, HO_3, HB⟩ := hcut
          cases kq with
          | zero => exact absurd HA.out (by simp [quarrylaw27_StreamCovers.j3])
          | succ kj9 =>
           have H := HA.out
           clear HA
           simp only [quarrylaw27_StreamCovers.j3] at H
           have HC14 := zS H
           clear H
           go_upto_region 14 with (fail)
           go_cut [52] (fun v52 wc => ∃ (kq : Nat) (x52_13 : Bool), v52 = .bool x52_13 ∧ Aside0 (quarrylaw27_StreamCovers.j4 kq a0 t200 t201 x5_2 x6_3 x7_3 x8_9 x52_13 = some r) ∧ Aside0 (kq ≤ kj9) ∧ Aside0 (Kd.R k36 36 wc w.heap.size (fun _ => True) (.slice Ao11 t200.length co11) t200) ∧ Aside0 (Below w.heap.size w wc))
           case first =>
            have H := HC14.out
            clear HC14
            by_cases c15 : x8_9 < x6_3
            ·rw [if_pos c15] at H
             have c15b0 : decide (x8_9 < x6_3) = true := decide_eq_true c15
             clear c15
             (first | rw [c15b0] | (simp only [i64_w, i32_w]; rw [c15b0]) | skip)
             have H' := zS H
             clear H
             go_wp2
             go_meet
             case rel => exact ⟨_, (true), (by first | rfl | (simp; done) | (simp [*]; done)), H', ⟨by have := HJ2.out; have := HJ5.out; have := HK3.out; have := HJ9.out; first | omega | exact Nat.le_refl _⟩, ⟨by (with_reducible repeat (first | apply zG | apply zH | apply zI)); exact HO_3.out⟩, ⟨by repeat (first | (with_reducible first | exact HB.out | apply zQ | apply zN | apply zO) | exact HB.out)⟩⟩
            ·rw [if_neg c15] at H
             have c15b0 : decide (x8_9 < x6_3) = false := decide_eq_false c15
             clear c15
             (first | rw [c15b0] | (simp only [i64_w, i32_w]; rw [c15b0]) | skip)
             have H' := zS H
             clear H
             go_wp2
             go_meet
             case rel => exact ⟨_, (decide (x8_9 > x5_2)), (by first | rfl | (simp; done) | (simp [*]; done)), H', ⟨by have := HJ2.out; have := HJ5.out; have := HK3.out; have := HJ9.out; first | omega | exact Nat.le_refl _⟩, ⟨by (with_reducible repeat (first | apply zG | apply zH | apply zI)); exact HO_3.out⟩, ⟨by repeat (first | (with_reducible first | exact HB.out | apply zQ | apply zN | apply zO) | exact HB.out)⟩⟩
           case rest =>
            clear HC14
            try clear c1
            try clear p2
            try clear q2
            try clear hx2
            try clear c5
            try clear c5b0
            try clear c6
            try clear c7
            try clear c7b0
            try clear c8
            try clear c9
            try clear c9b0
            try clear c10
            try clear c12
            try clear c12b0
            try clear c13
            try clear c13b0
            try clear c15
            try clear c15b0
            try clear hx205_0
            try clear hx205_1
            try clear p2
            try clear p205
            try clear q2
            try clear q205
            obtain ⟨kq, x52_13, rfl, HA, HJ13, HO_3, HB⟩ := hcut
            cases kq with
            | zero => exact absurd HA.out (by simp [quarrylaw27_StreamCovers.j4])
            | succ kj13 =>
             have H := HA.out
             clear HA
             simp only [quarrylaw27_StreamCovers.j4] at H
             by_cases c16 : x52_13 = true
             ·subst c16
              have H1 : (some false) = some r := by rw [if_pos rfl] at H; exact H
              clear H
              have H := H1
              clear H1
              obtain rfl := Option.some.inj H
              go_wp2
              go_ret
              exact ⟨by first | rfl | (simp [errW_none, errW_some] <;> rfl) | (simp [*, errW_none, errW_some] <;> rfl), by repeat (first | (with_reducible first | exact HB.out | apply zQ | apply zN | apply zO) | exact HB.out)⟩
             ·replace c16 := Bool.eq_false_iff.mpr c16
              subst c16
              have H1 : (quarrylaw27_StreamCovers.l1 kj13 a0 t200 t201 x5_2 x6_3 x7_3 x8_9) = some r := by rw [if_neg (show ¬ (false = true) by decide)] at H; exact H
              clear H
              have H := H1
              clear H1
              have H' := zS H
              clear H
              go_wp2
              go_loopg [6] kj13 (fun kq v6 w' => ∃ (x6_6 : Int), v6 = .int .i64 x6_6 ∧ Aside0 (quarrylaw27_StreamCovers.l1 kq a0 t200 t201 x5_2 x6_6 x7_3 x8_9 = some r) ∧ Aside0 (kq ≤ kj13) ∧ Aside0 (Kd.R k36 36 w' w.heap.size (fun _ => True) (.slice Ao11 t200.length co11) t200) ∧ Aside0 (Below w.heap.size w w'))
              case atStart => exact ⟨(x6_3), (by first | rfl | (simp; done) | (simp [*]; done)), H', ⟨Nat.le_refl _⟩, ⟨by (with_reducible repeat (first | apply zG | apply zH | apply zI)); exact HO_3.out⟩, ⟨by repeat (first | (with_reducible first | exact HB.out | apply zQ | apply zN | apply zO) | exact HB.out)⟩⟩
              case round =>
               clear H'
               try clear c1
               try clear p2
               try clear q2
               try clear hx2
               try clear c5
               try clear c5b0
               try clear c6
               try clear c7
               try clear c7b0
               try clear c8
               try clear c9
               try clear c9b0
               try clear c10
               try clear c12
               try clear c12b0
               try clear c13
               try clear c13b0
               try clear c15
               try clear c15b0
               try clear c16
               try clear hx205_0
               try clear hx205_1
               try clear p2
               try clear p205
               try clear q2
               try clear q205
               obtain ⟨x6_6, rfl, HA, HK6, HO_3, HB⟩ := hrel
               cases gk with
               | zero => exact absurd HA.out (by simp [quarrylaw27_StreamCovers.l1])
               | succ k6 =>
                have H := HA.out
                clear HA
                simp only [quarrylaw27_StreamCovers.l1] at H
                by_cases c17 : x6_6 < x8_9
                ·rw [if_pos c17] at H
                 have c17b0 : decide (x6_6 < x8_9) = true := decide_eq_true c17
                 clear c17
                 by_cases c18 : 0 ≤ x6_6
                 ·rw [if_pos c18] at H
                  have c18b0 : decide (0 ≤ x6_6) = true := decide_eq_true c18
                  clear c18
                  by_cases c19 : x6_6 < (a0.size : Int)
                  ·rw [if_pos c19] at H
                   have c19b0 : decide (x6_6 < (a0.size : Int)) = true := decide_eq_true c19
                   clear c19
                   replace H := Option.bind_eq_some_iff.mp H
                   obtain ⟨t206, A210, H⟩ := H
                   replace H : (if t206 = true then (quarrylaw27_StreamCovers.l1 k6 a0 t200 t201 x5_2 (wrap64 (x6_6 + 1)) x7_3 x8_9) else (some false)) = some r := H
                   have A21 := zS A210
                   clear A210
                   by_cases c22 : t206 = true
                   ·subst c22
                    have H1 : (quarrylaw27_StreamCovers.l1 k6 a0 t200 t201 x5_2 (wrap64 (x6_6 + 1)) x7_3 x8_9) = some r := by rw [if_pos rfl] at H; exact H
                    clear H
                    have H := H1
                    clear H1
                    have H' := zS H
                    clear H
                    have p20 : 0 ≤ (x6_6 : Int) := of_decide_eq_true (by first | (with_reducible assumption) | assumption)
                    have q20 : x6_6 < (a0.size : Int) := of_decide_eq_true (by first | (with_reducible assumption) | assumption)
                    have hx20 := bt_at a0 x6_6
                    replace p20 := eq_true p20
                    replace q20 := eq_true q20
                    go_wp2_with (first | ((with_reducible refine gate_callee (f := 20) rfl ?_); refine goesL_ (some 61) rfl rfl Tryd.func20 (by kernel_rfl) rfl #[.int .u8 (bt a0 x6_6)] rfl (by (try simp only [List.map_toArray, List.map_cons, List.map_nil]); first | done | rfl | (simp only [List.length_drop, List.length_take]; rfl)) ?_; (with_reducible refine (quarrylaw27_blank.calls (bt a0 x6_6) true _ A21.out).mono ?_); rintro e w' ⟨rfl, ⟨nd, rfl⟩⟩; refine ⟨_, rfl, ?_⟩))
                    go_roundg k6
                    case measure => have := HJ2.out; have := HJ5.out; have := HK3.out; have := HJ9.out; have := HJ13.out; have := HK6.out; omega
                    case rel => exact ⟨(wrap64 (x6_6 + 1)), (by first | rfl | (simp; done) | (simp [*]; done)), H', ⟨by have := HJ2.out; have := HJ5.out; have := HK3.out; have := HJ9.out; have := HJ13.out; have := HK6.out; omega⟩, ⟨by (with_reducible repeat (first | apply zG | apply zH | apply zI)); exact HO_3.out⟩, ⟨by repeat (first | (with_reducible first | exact HB.out | apply zQ | apply zN | apply zO) | exact HB.out)⟩⟩
                   ·replace c22 := Bool.eq_false_iff.mpr c22
                    subst c22
                    have H1 : (some false) = some r := by rw [if_neg (show ¬ (false = true) by decide)] at H; exact H
                    clear H
                    have H := H1
                    clear H1
                    obtain rfl := Option.some.inj H
                    have p20 : 0 ≤ (x6_6 : Int) := of_decide_eq_true (by first | (with_reducible assumption) | assumption)
                    have q20 : x6_6 < (a0.size : Int) := of_decide_eq_true (by first | (with_reducible assumption) | assumption)
                    have hx20 := bt_at a0 x6_6
                    replace p20 := eq_true p20
                    replace q20 := eq_true q20
                    go_wp2_with (first | ((with_reducible refine gate_callee (f := 20) rfl ?_); refine goesL_ (some 61) rfl rfl Tryd.func20 (by kernel_rfl) rfl #[.int .u8 (bt a0 x6_6)] rfl (by (try simp only [List.map_toArray, List.map_cons, List.map_nil]); first | done | rfl | (simp only [List.length_drop, List.length_take]; rfl)) ?_; (with_reducible refine (quarrylaw27_blank.calls (bt a0 x6_6) false _ A21.out).mono ?_); rintro e w' ⟨rfl, ⟨nd, rfl⟩⟩; refine ⟨_, rfl, ?_⟩))
                    go_ret
                    exact ⟨by first | rfl | (simp [errW_none, errW_some] <;> rfl) | (simp [*, errW_none, errW_some] <;> rfl), by repeat (first | (with_reducible first | exact HB.out | apply zQ | apply zN | apply zO) | exact HB.out)⟩
                  ·rw [if_neg c19] at H
                   exact absurd H (by simp)
                 ·rw [if_neg c18] at H
                  exact absurd H (by simp)
                ·rw [if_neg c17] at H
                 have c17b0 : decide (x6_6 < x8_9) = false := decide_eq_false c17
                 clear c17
                 by_cases c23 : x7_3 = (t200.length : Int)
                 ·rw [if_pos c23] at H
                  have c23b0 : (x7_3 == (t200.length : Int)) = true := beq_iff_eq.mpr c23
                  have c23b1 : (x7_3 != (t200.length : Int)) = false := bne_eq_false_iff_eq.mpr c23
                  clear c23
                  by_cases c24 : t201 < 0
                  ·rw [if_pos c24] at H
                   have c24b0 : decide (t201 < 0) = true := decide_eq_true c24
                   clear c24
                   obtain rfl := Option.some.inj H
                   go_wp2
                   go_ret
                   exact ⟨by first | rfl | (simp [errW_none, errW_some] <;> rfl) | (simp [*, errW_none, errW_some] <;> rfl), by repeat (first | (with_reducible first | exact HB.out | apply zQ | apply zN | apply zO) | exact HB.out)⟩
                  ·rw [if_neg c24] at H
                   have c24b0 : decide (t201 < 0) = false := decide_eq_false c24
                   clear c24
                   by_cases c25 : 0 ≤ t201
                   ·rw [if_pos c25] at H
                    have c25b0 : decide (0 ≤ t201) = true := decide_eq_true c25
                    clear c25
                    by_cases c26 : t201 < (a0.size : Int)
                    ·rw [if_pos c26] at H
                     have c26b0 : decide (t201 < (a0.size : Int)) = true := decide_eq_true c26
                     clear c26
                     replace H := Option.bind_eq_some_iff.mp H
                     obtain ⟨t207, A280, H⟩ := H
                     replace H : (some (!t207)) = some r := H
                     have A28 := zS A280
                     clear A280
                     obtain rfl := Option.some.inj H
                     have p27 : 0 ≤ (t201 : Int) := of_decide_eq_true (by first | (with_reducible assumption) | assumption)
                     have q27 : t201 < (a0.size : Int) := of_decide_eq_true (by first | (with_reducible assumption) | assumption)
                     have hx27 := bt_at a0 t201
                     replace p27 := eq_true p27
                     replace q27 := eq_true q27
                     go_wp2_with (first | (go_at_call 20; (with_reducible refine (quarrylaw27_blank.calls (bt a0 t201) t207 _ A28.out).mono ?_); rintro e w' ⟨rfl, ⟨nd, rfl⟩⟩))
                     go_ret
                     exact ⟨by first | rfl | (simp [errW_none, errW_some] <;> rfl) | (simp [*, errW_none, errW_some] <;> rfl), by repeat (first | (with_reducible first | exact HB.out | apply zQ | apply zN | apply zO) | exact HB.out)⟩
                    ·rw [if_neg c26] at H
                     exact absurd H (by simp)
                   ·rw [if_neg c25] at H
                    exact absurd H (by simp)
                 ·rw [if_neg c23] at H
                  have c23b0 : (x7_3 == (t200.length : Int)) = false := beq_eq_false_iff_ne.mpr c23
                  have c23b1 : (x7_3 != (t200.length : Int)) = true := bne_iff_ne.mpr c23
                  have HC29 := zS H
                  clear H
                  go_upto_region 21 with (fail)
                  go_cut [86] (fun v86 wc => ∃ (kq : Nat) (x86_28 : Bool), v86 = .bool x86_28 ∧ Aside0 (quarrylaw27_StreamCovers.j6 kq a0 t200 t201 x5_2 x7_3 x86_28 = some r) ∧ Aside0 (kq ≤ k6) ∧ Aside0 (Kd.R k36 36 wc w.heap.size (fun _ => True) (.slice Ao11 t200.length co11) t200) ∧ Aside0 (Below w.heap.size w wc))
                  case first =>
                   have H := HC29.out
                   clear HC29
                   by_cases c30 : 0 ≤ x7_3
                   ·rw [if_pos c30] at H
                    have c30b0 : decide (0 ≤ x7_3) = true := decide_eq_true c30
                    clear c30
                    (first | rw [c30b0] | (simp only [i64_w, i32_w]; rw [c30b0]) | skip)
                    by_cases c31 : x7_3 < (t200.length : Int)
                    ·rw [if_pos c31] at H
                     have c31b0 : decide (x7_3 < (t200.length : Int)) = true := decide_eq_true c31
                     clear c31
                     by_cases c32 : ((rd_T36 t200 x7_3).f1) ≤ ((rd_T36 t200 x7_3).f0)
                     ·rw [if_pos c32] at H
                      have c32b0 : decide (((rd_T36 t200 x7_3).f1) ≤ ((rd_T36 t200 x7_3).f0)) = true := decide_eq_true c32
                      clear c32
                      have H' := zS H
                      clear H
                      try go_wp2
                      have n0_ := zS (zI HO_3.out)
                      have n1_ := zS (zO HB.out)
                      clear HO_3
                      clear HB
                      have HO_3 := n0_
                      have HB := n1_
                      clear n0_ n1_
                      have p208 : 0 ≤ (x7_3 : Int) := of_decide_eq_true (by first | (with_reducible assumption) | assumption)
                      have q208 : x7_3 < (t200.length : Int) := of_decide_eq_true (by first | (with_reducible assumption) | assumption)
                      obtain ⟨ad208, e208, hx208_0, hx208_1⟩ := at_T36 (Kd.R_reads' HO_3.out).2.2 x7_3 p208 q208
                      cases e208
                      replace p208 := eq_true p208
                      replace q208 := eq_true q208
                      have p209 : 0 ≤ (x7_3 : Int) := of_decide_eq_true (by first | (with_reducible assumption) | assumption)
                      have q209 : x7_3 < (t200.length : Int) := of_decide_eq_true (by first | (with_reducible assumption) | assumption)
                      obtain ⟨ad209, e209, hx209_0, hx209_1⟩ := at_T36 (Kd.R_reads' HO_3.out).2.2 x7_3 p209 q209
                      obtain rfl : ad208 = ad209 := (by injection e209)
                      replace p209 := eq_true p209
                      replace q209 := eq_true q209
                      refine start_ (n := 20) (S := fun w' => w'.cell? (ad208.add ((x7_3).toNat * 2)) = some (.int .i64 ((rd_T36 t200 x7_3).f0)) ∧ w'.cell? ⟨(ad208.add ((x7_3).toNat * 2)).block, (ad208.add ((x7_3).toNat * 2)).off + 1, none⟩ = some (.int .i64 ((rd_T36 t200 x7_3).f1)) ∧ w'.cell? (ad208.add ((x7_3).toNat * 2)) = some (.int .i64 ((rd_T36 t200 x7_3).f0)) ∧ w'.cell? ⟨(ad208.add ((x7_3).toNat * 2)).block, (ad208.add ((x7_3).toNat * 2)).off + 1, none⟩ = some (.int .i64 ((rd_T36 t200 x7_3).f1))) (ds := []) #[false, false, false, false, false, false, false, false, false, false, false, false, false, false, false, false, false, false, false, false] (by kernel_rfl) rfl rfl ⟨hx208_0, hx208_1, hx209_0, hx209_1⟩ (fun hHeld => ?_); refine with_tabW quarrylaw27_StreamCovers.tab21 quarrylaw27_StreamCovers.bits21 (fun HT_ HW_ => ?_)
                      generalize wr.drew = w33 at HO_3 HB hx208_0 hx208_1 hx209_0 hx209_1 hHeld ⊢
                      refine pure_ (i := 0) (N := some 67) (v := ?_) (a' := ?_) #[true, false, false, false, false, false, false, false, false, false, false, false, false, false, false, false, false, false, false, false] rfl rfl (any_of HT_.out (by kernel_rfl)) (fun _ _ _ h => h) (Or.inl ⟨by rfl, ?_⟩) ?_ ?_
                      rotate_left
                      ·intro w'
                       go_simp
                       with_reducible rfl
                      rotate_left
                      ·simp only [Act.put, zA, zB, zC, i64_w, i32_w]
                       rfl
                      refine pure_ (i := 1) (N := some 68) (v := ?_) (a' := ?_) #[true, true, false, false, false, false, false, false, false, false, false, false, false, false, false, false, false, false, false, false] rfl rfl (any_of HT_.out (by kernel_rfl)) (fun _ _ _ h => h) (Or.inl ⟨by rfl, ?_⟩) ?_ ?_
                      rotate_left
                      ·intro w'
                       go_simp
                       with_reducible rfl
                      rotate_left
                      ·simp only [Act.put, zA, zB, zC, i64_w, i32_w]
                       rfl
                      refine pure_ (i := 2) (N := some 69) (v := ?_) (a' := ?_) #[true, true, true, false, false, false, false, false, false, false, false, false, false, false, false, false, false, false, false, false] rfl rfl (any_of HT_.out (by kernel_rfl)) (fun _ _ _ h => h) (Or.inl ⟨by rfl, ?_⟩) ?_ ?_
                      rotate_left
                      ·intro w'
                       go_simp
                       with_reducible rfl
                      rotate_left
                      ·simp only [Act.put, zA, zB, zC, i64_w, i32_w]
                       rfl
                      refine pure_ (i := 3) (N := some 70) (v := ?_) (a' := ?_) #[true, true, true, true, false, false, false, false, false, false, false, false, false, false, false, false, false, false, false, false] rfl rfl (any_of HT_.out (by kernel_rfl)) (fun _ _ _ h => h) (Or.inl ⟨by rfl, ?_⟩) ?_ ?_
                      rotate_left
                      ·intro w'
                       go_simp
                       with_reducible rfl
                      rotate_left
                      ·simp only [Act.put, zA, zB, zC, i64_w, i32_w]
                       rfl
                      refine pure_ (i := 5) (N := some 72) (v := ?_) (a' := ?_) #[true, true, true, true, false, true, false, false, false, false, false, false, false, false, false, false, false, false, false, false] rfl rfl (any_of HT_.out (by kernel_rfl)) (fun _ _ _ h => h) (Or.inl ⟨by rfl, ?_⟩) ?_ ?_
                      rotate_left
                      ·intro w'
                       go_simp
                       with_reducible rfl
                      rotate_left
                      ·simp only [Act.put, zA, zB, zC, i64_w, i32_w]
                       rfl
                      refine pure_ (i := 6) (N := some 73) (v := ?_) (a' := ?_) #[true, true, true, true, false, true, true, false, false, false, false, false, false, false, false, false, false, false, false, false] rfl rfl (any_of HT_.out (by kernel_rfl)) (fun _ _ _ h => h) (Or.inl ⟨by rfl, ?_⟩) ?_ ?_
                      rotate_left
                      ·intro w'
                       go_simp
                       with_reducible rfl
                      rotate_left
                      ·simp only [Act.put, zA, zB, zC, i64_w, i32_w]
                       rfl
                      refine pure_ (i := 7) (N := some 74) (v := ?_) (a' := ?_) #[true, true, true, true, false, true, true, true, false, false, false, false, false, false, false, false, false, false, false, false] rfl rfl (any_of HT_.out (by kernel_rfl)) (fun _ _ _ h => h) (Or.inl ⟨by rfl, ?_⟩) ?_ ?_
                      rotate_left
                      ·intro w'
                       go_simp
                       with_reducible rfl
                      rotate_left
                      ·simp only [Act.put, zA, zB, zC, i64_w, i32_w]
                       rfl
                      refine pure_ (i := 8) (N := some 75) (v := ?_) (a' := ?_) #[true, true, true, true, false, true, true, true, true, false, false, false, false, false, false, false, false, false, false, false] rfl rfl (any_of HT_.out (by kernel_rfl)) (fun _ _ _ h => h) (Or.inl ⟨by rfl, ?_⟩) ?_ ?_
                      rotate_left
                      ·intro w'
                       go_simp
                       with_reducible rfl
                      rotate_left
                      ·simp only [Act.put, zA, zB, zC, i64_w, i32_w]
                       rfl
                      refine take_ (i := 4) (N := some 71) (v := ?_) (a' := ?_) #[true, true, true, true, true, true, true, true, true, false, false, false, false, false, false, false, false, false, false, false] rfl rfl (take_ofW HT_.out HW_.out (by kernel_rfl)) (fun _ _ _ h => h) (Or.inl ⟨by rfl, ?_⟩) hHeld ?_ ?_
                      rotate_left
                      ·rintro w' ⟨s0, s1, s2, s3⟩
                       go_simp
                       with_reducible rfl
                      rotate_left
                      ·simp only [Act.put, zA, zB, zC, i64_w, i32_w]
                       rfl
                      refine take_ (i := 9) (N := some 76) (v := ?_) (a' := ?_) #[true, true, true, true, true, true, true, true, true, true, false, false, false, false, false, false, false, false, false, false] rfl rfl (take_ofW HT_.out HW_.out (by kernel_rfl)) (fun _ _ _ h => h) (Or.inl ⟨by rfl, ?_⟩) hHeld ?_ ?_
                      rotate_left
                      ·rintro w' ⟨s0, s1, s2, s3⟩
                       go_simp
                       with_reducible rfl
                      rotate_left
                      ·simp only [Act.put, zA, zB, zC, i64_w, i32_w]
                       rfl
                      refine pure_ (i := 10) (N := some 77) (v := ?_) (a' := ?_) #[true, true, true, true, true, true, true, true, true, true, true, false, false, false, false, false, false, false, false, false] rfl rfl (any_of HT_.out (by kernel_rfl)) (fun _ _ _ h => h) (Or.inl ⟨by rfl, ?_⟩) ?_ ?_
                      rotate_left
                      ·intro w'
                       go_simp
                       with_reducible rfl
                      rotate_left
                      ·simp only [Act.put, zA, zB, zC, i64_w, i32_w]
                       rfl
                      refine pure_ (i := 11) (N := some 78) (v := ?_) (a' := ?_) #[true, true, true, true, true, true, true, true, true, true, true, true, false, false, false, false, false, false, false, false] rfl rfl (any_of HT_.out (by kernel_rfl)) (fun _ _ _ h => h) (Or.inl ⟨by rfl, ?_⟩) ?_ ?_
                      rotate_left
                      ·intro w'
                       go_simp
                       with_reducible rfl
                      rotate_left
                      ·simp only [Act.put, zA, zB, zC, i64_w, i32_w]
                       rfl
                      refine pure_ (i := 12) (N := some 79) (v := undef) (a' := ?_) #[true, true, true, true, true, true, true, true, true, true, true, true, true, false, false, false, false, false, false, false] rfl rfl (any_of HT_.out (by kernel_rfl)) (fun _ _ _ h => h) (Or.inr ⟨by rfl, rfl⟩) ?_ ?_
                      rotate_left
                      ·simp only [Act.put, zA, zB, zC, i64_w, i32_w]
                       rfl
                      refine pure_ (i := 13) (N := some 80) (v := undef) (a' := ?_) #[true, true, true, true, true, true, true, true, true, true, true, true, true, true, false, false, false, false, false, false] rfl rfl (any_of HT_.out (by kernel_rfl)) (fun _ _ _ h => h) (Or.inr ⟨by rfl, rfl⟩) ?_ ?_
                      rotate_left
                      ·simp only [Act.put, zA, zB, zC, i64_w, i32_w]
                       rfl
                      refine pure_ (i := 14) (N := some 81) (v := undef) (a' := ?_) #[true, true, true, true, true, true, true, true, true, true, true, true, true, true, true, false, false, false, false, false] rfl rfl (any_of HT_.out (by kernel_rfl)) (fun _ _ _ h => h) (Or.inr ⟨by rfl, rfl⟩) ?_ ?_
                      rotate_left
                      ·simp only [Act.put, zA, zB, zC, i64_w, i32_w]
                       rfl
                      refine pure_ (i := 15) (N := some 82) (v := undef) (a' := ?_) #[true, true, true, true, true, true, true, true, true, true, true, true, true, true, true, true, false, false, false, false] rfl rfl (any_of HT_.out (by kernel_rfl)) (fun _ _ _ h => h) (Or.inr ⟨by rfl, rfl⟩) ?_ ?_
                      rotate_left
                      ·simp only [Act.put, zA, zB, zC, i64_w, i32_w]
                       rfl
                      refine pure_ (i := 16) (N := some 83) (v := undef) (a' := ?_) #[true, true, true, true, true, true, true, true, true, true, true, true, true, true, true, true, true, false, false, false] rfl rfl (any_of HT_.out (by kernel_rfl)) (fun _ _ _ h => h) (Or.inr ⟨by rfl, rfl⟩) ?_ ?_
                      rotate_left
                      ·simp only [Act.put, zA, zB, zC, i64_w, i32_w]
                       rfl
                      refine pure_ (i := 17) (N := some 84) (v := undef) (a' := ?_) #[true, true, true, true, true, true, true, true, true, true, true, true, true, true, true, true, true, true, false, false] rfl rfl (any_of HT_.out (by kernel_rfl)) (fun _ _ _ h => h) (Or.inr ⟨by rfl, rfl⟩) ?_ ?_
                      rotate_left
                      ·simp only [Act.put, zA, zB, zC, i64_w, i32_w]
                       rfl
                      refine pure_ (i := 18) (N := some 85) (v := undef) (a' := ?_) #[true, true, true, true, true, true, true, true, true, true, true, true, true, true, true, true, true, true, true, false] rfl rfl (any_of HT_.out (by kernel_rfl)) (fun _ _ _ h => h) (Or.inr ⟨by rfl, rfl⟩) ?_ ?_
                      rotate_left
                      ·simp only [Act.put, zA, zB, zC, i64_w, i32_w]
                       rfl
                      refine pure_ (i := 19) (N := some 86) (v := ?_) (a' := ?_) #[true, true, true, true, true, true, true, true, true, true, true, true, true, true, true, true, true, true, true, true] rfl rfl (any_of HT_.out (by kernel_rfl)) (fun _ _ _ h => h) (Or.inl ⟨by rfl, ?_⟩) ?_ ?_
                      rotate_left
                      ·intro w'
                       go_simp
                       with_reducible rfl
                      rotate_left
                      ·simp only [Act.put, zA, zB, zC, i64_w, i32_w]
                       rfl
                      refine done_ (done_of HT_.out (by kernel_rfl)) ?_
                      try go_wp2
                      go_meet
                      case rel => exact ⟨_, (true), (by first | rfl | (simp; done) | (simp [*]; done)), H', ⟨by have := HJ2.out; have := HJ5.out; have := HK3.out; have := HJ9.out; have := HJ13.out; have := HK6.out; first | omega | exact Nat.le_refl _⟩, ⟨by (with_reducible repeat (first | apply zG | apply zH | apply zI)); exact HO_3.out⟩, ⟨by repeat (first | (with_reducible first | exact HB.out | apply zQ | apply zN | apply zO) | exact HB.out)⟩⟩
                     ·rw [if_neg c32] at H
                      have c32b0 : decide (((rd_T36 t200 x7_3).f1) ≤ ((rd_T36 t200 x7_3).f0)) = false := decide_eq_false c32
                      clear c32
                      have H' := zS H
                      clear H
                      try go_wp2
                      have n0_ := zS (zI HO_3.out)
                      have n1_ := zS (zO HB.out)
                      clear HO_3
                      clear HB
                      have HO_3 := n0_
                      have HB := n1_
                      clear n0_ n1_
                      have p208 : 0 ≤ (x7_3 : Int) := of_decide_eq_true (by first | (with_reducible assumption) | assumption)
                      have q208 : x7_3 < (t200.length : Int) := of_decide_eq_true (by first | (with_reducible assumption) | assumption)
                      obtain ⟨ad208, e208, hx208_0, hx208_1⟩ := at_T36 (Kd.R_reads' HO_3.out).2.2 x7_3 p208 q208
                      cases e208
                      replace p208 := eq_true p208
                      replace q208 := eq_true q208
                      have p209 : 0 ≤ (x7_3 : Int) := of_decide_eq_true (by first | (with_reducible assumption) | assumption)
                      have q209 : x7_3 < (t200.length : Int) := of_decide_eq_true (by first | (with_reducible assumption) | assumption)
                      obtain ⟨ad209, e209, hx209_0, hx209_1⟩ := at_T36 (Kd.R_reads' HO_3.out).2.2 x7_3 p209 q209
                      obtain rfl : ad208 = ad209 := (by injection e209)
                      replace p209 := eq_true p209
                      replace q209 := eq_true q209
                      have p210 : 0 ≤ (x7_3 : Int) := of_decide_eq_true (by first | (with_reducible assumption) | assumption)
                      have q210 : x7_3 < (t200.length : Int) := of_decide_eq_true (by first | (with_reducible assumption) | assumption)
                      obtain ⟨ad210, e210, hx210_0, hx210_1⟩ := at_T36 (Kd.R_reads' HO_3.out).2.2 x7_3 p210 q210
                      obtain rfl : ad208 = ad210 := (by injection e210)
                      replace p210 := eq_true p210
                      replace q210 := eq_true q210
                      refine start_ (n := 20) (S := fun w' => w'.cell? (ad208.add ((x7_3).toNat * 2)) = some (.int .i64 ((rd_T36 t200 x7_3).f0)) ∧ w'.cell? ⟨(ad208.add ((x7_3).toNat * 2)).block, (ad208.add ((x7_3).toNat * 2)).off + 1, none⟩ = some (.int .i64 ((rd_T36 t200 x7_3).f1)) ∧ w'.cell? (ad208.add ((x7_3).toNat * 2)) = some (.int .i64 ((rd_T36 t200 x7_3).f0)) ∧ w'.cell? ⟨(ad208.add ((x7_3).toNat * 2)).block, (ad208.add ((x7_3).toNat * 2)).off + 1, none⟩ = some (.int .i64 ((rd_T36 t200 x7_3).f1)) ∧ w'.cell? (ad208.add ((x7_3).toNat * 2)) = some (.int .i64 ((rd_T36 t200 x7_3).f0)) ∧ w'.cell? ⟨(ad208.add ((x7_3).toNat * 2)).block, (ad208.add ((x7_3).toNat * 2)).off + 1, none⟩ = some (.int .i64 ((rd_T36 t200 x7_3).f1))) (ds := []) #[false, false, false, false, false, false, false, false, false, false, false, false, false, false, false, false, false, false, false, false] (by kernel_rfl) rfl rfl ⟨hx208_0, hx208_1, hx209_0, hx209_1, hx210_0, hx210_1⟩ (fun hHeld => ?_); refine with_tabW quarrylaw27_StreamCovers.tab21 quarrylaw27_StreamCovers.bits21 (fun HT_ HW_ => ?_)
                      generalize wr.drew = w34 at HO_3 HB hx208_0 hx208_1 hx209_0 hx209_1 hx210_0 hx210_1 hHeld ⊢
                      refine pure_ (i := 0) (N := some 67) (v := ?_) (a' := ?_) #[true, false, false, false, false, false, false, false, false, false, false, false, false, false, false, false, false, false, false, false] rfl rfl (any_of HT_.out (by kernel_rfl)) (fun _ _ _ h => h) (Or.inl ⟨by rfl, ?_⟩) ?_ ?_
                      rotate_left
                      ·intro w'
                       go_simp
                       with_reducible rfl
                      rotate_left
                      ·simp only [Act.put, zA, zB, zC, i64_w, i32_w]
                       rfl
                      refine pure_ (i := 1) (N := some 68) (v := ?_) (a' := ?_) #[true, true, false, false, false, false, false, false, false, false, false, false, false, false, false, false, false, false, false, false] rfl rfl (any_of HT_.out (by kernel_rfl)) (fun _ _ _ h => h) (Or.inl ⟨by rfl, ?_⟩) ?_ ?_
                      rotate_left
                      ·intro w'
                       go_simp
                       with_reducible rfl
                      rotate_left
                      ·simp only [Act.put, zA, zB, zC, i64_w, i32_w]
                       rfl
                      refine pure_ (i := 2) (N := some 69) (v := ?_) (a' := ?_) #[true, true, true, false, false, false, false, false, false, false, false, false, false, false, false, false, false, false, false, false] rfl rfl (any_of HT_.out (by kernel_rfl)) (fun _ _ _ h => h) (Or.inl ⟨by rfl, ?_⟩) ?_ ?_
                      rotate_left
                      ·intro w'
                       go_simp
                       with_reducible rfl
                      rotate_left
                      ·simp only [Act.put, zA, zB, zC, i64_w, i32_w]
                       rfl
                      refine pure_ (i := 3) (N := some 70) (v := ?_) (a' := ?_) #[true, true, true, true, false, false, false, false, false, false, false, false, false, false, false, false, false, false, false, false] rfl rfl (any_of HT_.out (by kernel_rfl)) (fun _ _ _ h => h) (Or.inl ⟨by rfl, ?_⟩) ?_ ?_
                      rotate_left
                      ·intro w'
                       go_simp
                       with_reducible rfl
                      rotate_left
                      ·simp only [Act.put, zA, zB, zC, i64_w, i32_w]
                       rfl
                      refine pure_ (i := 5) (N := some 72) (v := ?_) (a' := ?_) #[true, true, true, true, false, true, false, false, false, false, false, false, false, false, false, false, false, false, false, false] rfl rfl (any_of HT_.out (by kernel_rfl)) (fun _ _ _ h => h) (Or.inl ⟨by rfl, ?_⟩) ?_ ?_
                      rotate_left
                      ·intro w'
                       go_simp
                       with_reducible rfl
                      rotate_left
                      ·simp only [Act.put, zA, zB, zC, i64_w, i32_w]
                       rfl
                      refine pure_ (i := 6) (N := some 73) (v := ?_) (a' := ?_) #[true, true, true, true, false, true, true, false, false, false, false, false, false, false, false, false, false, false, false, false] rfl rfl (any_of HT_.out (by kernel_rfl)) (fun _ _ _ h => h) (Or.inl ⟨by rfl, ?_⟩) ?_ ?_
                      rotate_left
                      ·intro w'
                       go_simp
                       with_reducible rfl
                      rotate_left
                      ·simp only [Act.put, zA, zB, zC, i64_w, i32_w]
                       rfl
                      refine pure_ (i := 7) (N := some 74) (v := ?_) (a' := ?_) #[true, true, true, true, false, true, true, true, false, false, false, false, false, false, false, false, false, false, false, false] rfl rfl (any_of HT_.out (by kernel_rfl)) (fun _ _ _ h => h) (Or.inl ⟨by rfl, ?_⟩) ?_ ?_
                      rotate_left
                      ·intro w'
                       go_simp
                       with_reducible rfl
                      rotate_left
                      ·simp only [Act.put, zA, zB, zC, i64_w, i32_w]
                       rfl
                      refine pure_ (i := 8) (N := some 75) (v := ?_) (a' := ?_) #[true, true, true, true, false, true, true, true, true, false, false, false, false, false, false, false, false, false, false, false] rfl rfl (any_of HT_.out (by kernel_rfl)) (fun _ _ _ h => h) (Or.inl ⟨by rfl, ?_⟩) ?_ ?_
                      rotate_left
                      ·intro w'
                       go_simp
                       with_reducible rfl
                      rotate_left
                      ·simp only [Act.put, zA, zB, zC, i64_w, i32_w]
                       rfl
                      refine take_ (i := 4) (N := some 71) (v := ?_) (a' := ?_) #[true, true, true, true, true, true, true, true, true, false, false, false, false, false, false, false, false, false, false, false] rfl rfl (take_ofW HT_.out HW_.out (by kernel_rfl)) (fun _ _ _ h => h) (Or.inl ⟨by rfl, ?_⟩) hHeld ?_ ?_
                      rotate_left
                      ·rintro w' ⟨s0, s1, s2, s3, s4, s5⟩
                       go_simp
                       with_reducible rfl
                      rotate_left
                      ·simp only [Act.put, zA, zB, zC, i64_w, i32_w]
                       rfl
                      refine take_ (i := 9) (N := some 76) (v := ?_) (a' := ?_) #[true, true, true, true, true, true, true, true, true, true, false, false, false, false, false, false, false, false, false, false] rfl rfl (take_ofW HT_.out HW_.out (by kernel_rfl)) (fun _ _ _ h => h) (Or.inl ⟨by rfl, ?_⟩) hHeld ?_ ?_
                      rotate_left
                      ·rintro w' ⟨s0, s1, s2, s3, s4, s5⟩
                       go_simp
                       with_reducible rfl
                      rotate_left
                      ·simp only [Act.put, zA, zB, zC, i64_w, i32_w]
                       rfl
                      refine pure_ (i := 10) (N := some 77) (v := ?_) (a' := ?_) #[true, true, true, true, true, true, true, true, true, true, true, false, false, false, false, false, false, false, false, false] rfl rfl (any_of HT_.out (by kernel_rfl)) (fun _ _ _ h => h) (Or.inl ⟨by rfl, ?_⟩) ?_ ?_
                      rotate_left
                      ·intro w'
                       go_simp
                       with_reducible rfl
                      rotate_left
                      ·simp only [Act.put, zA, zB, zC, i64_w, i32_w]
                       rfl
                      refine pure_ (i := 11) (N := some 78) (v := ?_) (a' := ?_) #[true, true, true, true, true, true, true, true, true, true, true, true, false, false, false, false, false, false, false, false] rfl rfl (any_of HT_.out (by kernel_rfl)) (fun _ _ _ h => h) (Or.inl ⟨by rfl, ?_⟩) ?_ ?_
                      rotate_left
                      ·intro w'
                       go_simp
                       with_reducible rfl
                      rotate_left
                      ·simp only [Act.put, zA, zB, zC, i64_w, i32_w]
                       rfl
                      refine pure_ (i := 12) (N := some 79) (v := ?_) (a' := ?_) #[true, true, true, true, true, true, true, true, true, true, true, true, true, false, false, false, false, false, false, false] rfl rfl (any_of HT_.out (by kernel_rfl)) (fun _ _ _ h => h) (Or.inl ⟨by rfl, ?_⟩) ?_ ?_
                      rotate_left
                      ·intro w'
                       go_simp
                       with_reducible rfl
                      rotate_left
                      ·simp only [Act.put, zA, zB, zC, i64_w, i32_w]
                       rfl
                      refine pure_ (i := 13) (N := some 80) (v := ?_) (a' := ?_) #[true, true, true, true, true, true, true, true, true, true, true, true, true, true, false, false, false, false, false, false] rfl rfl (any_of HT_.out (by kernel_rfl)) (fun _ _ _ h => h) (Or.inl ⟨by rfl, ?_⟩) ?_ ?_
                      rotate_left
                      ·intro w'
                       go_simp
                       with_reducible rfl
                      rotate_left
                      ·simp only [Act.put, zA, zB, zC, i64_w, i32_w]
                       rfl
                      refine pure_ (i := 14) (N := some 81) (v := ?_) (a' := ?_) #[true, true, true, true, true, true, true, true, true, true, true, true, true, true, true, false, false, false, false, false] rfl rfl (any_of HT_.out (by kernel_rfl)) (fun _ _ _ h => h) (Or.inl ⟨by rfl, ?_⟩) ?_ ?_
                      rotate_left
                      ·intro w'
                       go_simp
                       with_reducible rfl
                      rotate_left
                      ·simp only [Act.put, zA, zB, zC, i64_w, i32_w]
                       rfl
                      refine pure_ (i := 15) (N := some 82) (v := ?_) (a' := ?_) #[true, true, true, true, true, true, true, true, true, true, true, true, true, true, true, true, false, false, false, false] rfl rfl (any_of HT_.out (by kernel_rfl)) (fun _ _ _ h => h) (Or.inl ⟨by rfl, ?_⟩) ?_ ?_
                      rotate_left
                      ·intro w'
                       go_simp
                       with_reducible rfl
                      rotate_left
                      ·simp only [Act.put, zA, zB, zC, i64_w, i32_w]
                       rfl
                      refine pure_ (i := 17) (N := some 84) (v := ?_) (a' := ?_) #[true, true, true, true, true, true, true, true, true, true, true, true, true, true, true, true, false, true, false, false] rfl rfl (any_of HT_.out (by kernel_rfl)) (fun _ _ _ h => h) (Or.inl ⟨by rfl, ?_⟩) ?_ ?_
                      rotate_left
                      ·intro w'
                       go_simp
                       with_reducible rfl
                      rotate_left
                      ·simp only [Act.put, zA, zB, zC, i64_w, i32_w]
                       rfl
                      refine take_ (i := 16) (N := some 83) (v := ?_) (a' := ?_) #[true, true, true, true, true, true, true, true, true, true, true, true, true, true, true, true, true, true, false, false] rfl rfl (take_ofW HT_.out HW_.out (by kernel_rfl)) (fun _ _ _ h => h) (Or.inl ⟨by rfl, ?_⟩) hHeld ?_ ?_
                      rotate_left
                      ·rintro w' ⟨s0, s1, s2, s3, s4, s5⟩
                       go_simp
                       with_reducible rfl
                      rotate_left
                      ·simp only [Act.put, zA, zB, zC, i64_w, i32_w]
                       rfl
                      refine pure_ (i := 18) (N := some 85) (v := ?_) (a' := ?_) #[true, true, true, true, true, true, true, true, true, true, true, true, true, true, true, true, true, true, true, false] rfl rfl (any_of HT_.out (by kernel_rfl)) (fun _ _ _ h => h) (Or.inl ⟨by rfl, ?_⟩) ?_ ?_
                      rotate_left
                      ·intro w'
                       go_simp
                       with_reducible rfl
                      rotate_left
                      ·simp only [Act.put, zA, zB, zC, i64_w, i32_w]
                       rfl
                      refine pure_ (i := 19) (N := some 86) (v := ?_) (a' := ?_) #[true, true, true, true, true, true, true, true, true, true, true, true, true, true, true, true, true, true, true, true] rfl rfl (any_of HT_.out (by kernel_rfl)) (fun _ _ _ h => h) (Or.inl ⟨by rfl, ?_⟩) ?_ ?_
                      rotate_left
                      ·intro w'
                       go_simp
                       with_reducible rfl
                      rotate_left
                      ·simp only [Act.put, zA, zB, zC, i64_w, i32_w]
                       rfl
                      refine done_ (done_of HT_.out (by kernel_rfl)) ?_
                      try go_wp2
                      go_meet
                      case rel => exact ⟨_, (decide (((rd_T36 t200 x7_3).f1) > x5_2)), (by first | rfl | (simp; done) | (simp [*]; done)), H', ⟨by have := HJ2.out; have := HJ5.out; have := HK3.out; have := HJ9.out; have := HJ13.out; have := HK6.out; first | omega | exact Nat.le_refl _⟩, ⟨by (with_reducible repeat (first | apply zG | apply zH | apply zI)); exact HO_3.out⟩, ⟨by repeat (first | (with_reducible first | exact HB.out | apply zQ | apply zN | apply zO) | exact HB.out)⟩⟩
                    ·rw [if_neg c31] at H
                     exact absurd H (by simp)
                   ·rw [if_neg c30] at H
                    exact absurd H (by simp)
                  case rest =>
                   clear HC29
                   try clear c1
                   try clear c2
                   try clear p2
                   try clear q2
                   try clear hx2
                   try clear c3
                   try clear c5
                   try clear c5b0
                   try clear c6
                   try clear p6
                   try clear c7
                   try clear c7b0
                   try clear c8
                   try clear c9
                   try clear c9b0
                   try clear c10
                   try clear c12
                   try clear c12b0
                   try clear c13
                   try clear c13b0
                   try clear c15
                   try clear c15b0
                   try clear c16
                   try clear c17
                   try clear c17b0
                   try clear c18
                   try clear c18b0
                   try clear c19
                   try clear c19b0
                   try clear c20
                   try clear p20
                   try clear q20
                   try clear hx20
                   try clear p21
                   try clear q21
                   try clear hx21
                   try clear c22
                   try clear c23
                   try clear c23b0
                   try clear c23b1
                   try clear c24
                   try clear c24b0
                   try clear c25
                   try clear c25b0
                   try clear c26
                   try clear c26b0
                   try clear p27
                   try clear q27
                   try clear hx27
                   try clear c30
                   try clear c30b0
                   try clear c31
                   try clear c31b0
                   try clear c32
                   try clear c32b0
                   try clear hx205_0
                   try clear hx205_1
                   try clear hx208_0
                   try clear hx208_1
                   try clear hx209_0
                   try clear hx209_1
                   try clear hx210_0
                   try clear hx210_1
                   try clear p2
                   try clear p20
                   try clear p205
                   try clear p208
                   try clear p209
                   try clear p210
                   try clear p27
                   try clear q2
                   try clear q20
                   try clear q205
                   try clear q208
                   try clear q209
                   try clear q210
                   try clear q27
                   obtain ⟨kq, x86_28, rfl, HA, HJ28, HO_3, HB⟩ := hcut
                   cases kq with
                   | zero => exact absurd HA.out (by simp [quarrylaw27_StreamCovers.j6])
                   | succ kj28 =>
                    have H := HA.out
                    clear HA
                    simp only [quarrylaw27_StreamCovers.j6] at H
                    by_cases c35 : x86_28 = true
                    ·subst c35
                     have H1 : (some false) = some r := by rw [if_pos rfl] at H; exact H
                     clear H
                     have H := H1
                     clear H1
                     obtain rfl := Option.some.inj H
                     go_wp2
                     go_ret
                     exact ⟨by first | rfl | (simp [errW_none, errW_some] <;> rfl) | (simp [*, errW_none, errW_some] <;> rfl), by repeat (first | (with_reducible first | exact HB.out | apply zQ | apply zN | apply zO) | exact HB.out)⟩
                    ·replace c35 := Bool.eq_false_iff.mpr c35
                     subst c35
                     have H1 : (if 0 ≤ x7_3 then (if x7_3 < (t200.length : Int) then (if 0 ≤ ((rd_T36 t200 x7_3).f0) then (if ((rd_T36 t200 x7_3).f0) ≤ ((rd_T36 t200 x7_3).f1) then (if ((rd_T36 t200 x7_3).f1) ≤ (a0.size : Int) then ((stream_Split.f (a0.extract (((rd_T36 t200 x7_3).f0) : Int).toNat (((rd_T36 t200 x7_3).f1) : Int).toNat)).bind fun bt213 => (if bt213.2 = (-1) then (if (bt213.1.length : Int) = 1 then (if 0 < (bt213.1.length : Int) then (if (!(((rd_T36 bt213.1 0).f0) == 0) || (!(((rd_T36 bt213.1 0).f1) == (wrap64 (((rd_T36 t200 x7_3).f1) - ((rd_T36 t200 x7_3).f0)))))) = true then (some false) else (quarrylaw27_StreamCovers.l0 kj28 a0 t200 t201 x5_2 ((rd_T36 t200 x7_3).f1) (wrap64 (x7_3 + 1)))) else (none)) else (some false)) else (some false))) else (none)) else (none)) else (none)) else (none)) else (none)) = some r := by rw [if_neg (show ¬ (false = true) by decide)] at H; exact H
                     clear H
                     have H := H1
                     clear H1
                     by_cases c36 : 0 ≤ x7_3
                     ·rw [if_pos c36] at H
                      have c36b0 : decide (0 ≤ x7_3) = true := decide_eq_true c36
                      clear c36
                      by_cases c37 : x7_3 < (t200.length : Int)
                      ·rw [if_pos c37] at H
                       have c37b0 : decide (x7_3 < (t200.length : Int)) = true := decide_eq_true c37
                       clear c37
                       by_cases c38 : 0 ≤ ((rd_T36 t200 x7_3).f0)
                       ·rw [if_pos c38] at H
                        have c38b0 := eq_true c38
                        have c38b1 : decide (0 ≤ ((rd_T36 t200 x7_3).f0)) = true := decide_eq_true c38
                        clear c38
                        by_cases c39 : ((rd_T36 t200 x7_3).f0) ≤ ((rd_T36 t200 x7_3).f1)
                        ·rw [if_pos c39] at H
                         have c39b0 := eq_true c39
                         have c39b1 : decide (((rd_T36 t200 x7_3).f0) ≤ ((rd_T36 t200 x7_3).f1)) = true := decide_eq_true c39
                         clear c39
                         by_cases c40 : ((rd_T36 t200 x7_3).f1) ≤ (a0.size : Int)
                         ·rw [if_pos c40] at H
                          have c40b0 := eq_true c40
                          have c40b1 : decide (((rd_T36 t200 x7_3).f1) ≤ (a0.size : Int)) = true := decide_eq_true c40
                          clear c40
                          replace H := Option.bind_eq_some_iff.mp H
                          obtain ⟨⟨t213, t214⟩, A410, H⟩ := H
                          replace H : (if t214 = (-1) then (if (t213.length : Int) = 1 then (if 0 < (t213.length : Int) then (if (!(((rd_T36 t213 0).f0) == 0) || (!(((rd_T36 t213 0).f1) == (wrap64 (((rd_T36 t200 x7_3).f1) - ((rd_T36 t200 x7_3).f0)))))) = true then (some false) else (quarrylaw27_StreamCovers.l0 kj28 a0 t200 t201 x5_2 ((rd_T36 t200 x7_3).f1) (wrap64 (x7_3 + 1)))) else (none)) else (some false)) else (some false)) = some r := H
                          have A41 := zS A410
                          clear A410
                          by_cases c42 : t214 = (-1)
                          ·rw [if_pos c42] at H
                           have c42b0 : (t214 == (-1)) = true := beq_iff_eq.mpr c42
                           have c42b1 : (t214 != (-1)) = false := bne_eq_false_iff_eq.mpr c42
                           clear c42
                           by_cases c43 : (t213.length : Int) = 1
                           ·rw [if_pos c43] at H
                            have c43b0 : ((t213.length : Int) == 1) = true := beq_iff_eq.mpr c43
                            have c43b1 : ((t213.length : Int) != 1) = false := bne_eq_false_iff_eq.mpr c43
                            clear c43
                            by_cases c44 : 0 < (t213.length : Int)
                            ·rw [if_pos c44] at H
                             have c44b0 : decide (0 < (t213.length : Int)) = true := decide_eq_true c44
                             have c44b1 : decide (0 < t213.length) = true := decide_eq_true (by omega)
                             clear c44
                             by_cases c45 : (!(((rd_T36 t213 0).f0) == 0) || (!(((rd_T36 t213 0).f1) == (wrap64 (((rd_T36 t200 x7_3).f1) - ((rd_T36 t200 x7_3).f0)))))) = true
                             ·rw [if_pos c45] at H
                              have c45b0 : (!(((rd_T36 t213 0).f0) == 0) || (!(((rd_T36 t213 0).f1) == (wrap64 (((rd_T36 t200 x7_3).f1) - ((rd_T36 t200 x7_3).f0)))))) = true := c45
                              clear c45
                              obtain rfl := Option.some.inj H
                              try go_wp2
                              have n0_ := zS (zI HO_3.out)
                              have n1_ := zS (zO HB.out)
                              clear HO_3
                              clear HB
                              have HO_3 := n0_
                              have HB := n1_
                              clear n0_ n1_
                              have p211 : 0 ≤ (x7_3 : Int) := of_decide_eq_true (by first | (with_reducible assumption) | assumption)
                              have q211 : x7_3 < (t200.length : Int) := of_decide_eq_true (by first | (with_reducible assumption) | assumption)
                              obtain ⟨ad211, e211, hx211_0, hx211_1⟩ := at_T36 (Kd.R_reads' HO_3.out).2.2 x7_3 p211 q211
                              cases e211
                              replace p211 := eq_true p211
                              replace q211 := eq_true q211
                              have p212 : 0 ≤ (x7_3 : Int) := of_decide_eq_true (by first | (with_reducible assumption) | assumption)
                              have q212 : x7_3 < (t200.length : Int) := of_decide_eq_true (by first | (with_reducible assumption) | assumption)
                              obtain ⟨ad212, e212, hx212_0, hx212_1⟩ := at_T36 (Kd.R_reads' HO_3.out).2.2 x7_3 p212 q212
                              obtain rfl : ad211 = ad212 := (by injection e212)
                              replace p212 := eq_true p212
                              replace q212 := eq_true q212
                              refine start_ (n := 18) (S := fun w' => w'.cell? (ad211.add ((x7_3).toNat * 2)) = some (.int .i64 ((rd_T36 t200 x7_3).f0)) ∧ w'.cell? ⟨(ad211.add ((x7_3).toNat * 2)).block, (ad211.add ((x7_3).toNat * 2)).off + 1, none⟩ = some (.int .i64 ((rd_T36 t200 x7_3).f1)) ∧ w'.cell? (ad211.add ((x7_3).toNat * 2)) = some (.int .i64 ((rd_T36 t200 x7_3).f0)) ∧ w'.cell? ⟨(ad211.add ((x7_3).toNat * 2)).block, (ad211.add ((x7_3).toNat * 2)).off + 1, none⟩ = some (.int .i64 ((rd_T36 t200 x7_3).f1))) (ds := []) #[false, false, false, false, false, false, false, false, false, false, false, false, false, false, false, false, false, false] (by kernel_rfl) rfl rfl ⟨hx211_0, hx211_1, hx212_0, hx212_1⟩ (fun hHeld => ?_); refine with_tabW quarrylaw27_StreamCovers.tab23 quarrylaw27_StreamCovers.bits23 (fun HT_ HW_ => ?_)
                              generalize wc.drew = w46 at HO_3 HB hx211_0 hx211_1 hx212_0 hx212_1 hHeld ⊢
                              refine pure_ (i := 0) (N := some 88) (v := ?_) (a' := ?_) #[true, false, false, false, false, false, false, false, false, false, false, false, false, false, false, false, false, false] rfl rfl (any_of HT_.out (by kernel_rfl)) (fun _ _ _ h => h) (Or.inl ⟨by rfl, ?_⟩) ?_ ?_
                              rotate_left
                              ·intro w'
                               go_simp
                               with_reducible rfl
                              rotate_left
                              ·simp only [Act.put, zA, zB, zC, i64_w, i32_w]
                               rfl
                              refine pure_ (i := 1) (N := some 89) (v := ?_) (a' := ?_) #[true, true, false, false, false, false, false, false, false, false, false, false, false, false, false, false, false, false] rfl rfl (any_of HT_.out (by kernel_rfl)) (fun _ _ _ h => h) (Or.inl ⟨by rfl, ?_⟩) ?_ ?_
                              rotate_left
                              ·intro w'
                               go_simp
                               with_reducible rfl
                              rotate_left
                              ·simp only [Act.put, zA, zB, zC, i64_w, i32_w]
                               rfl
                              refine pure_ (i := 2) (N := some 90) (v := ?_) (a' := ?_) #[true, true, true, false, false, false, false, false, false, false, false, false, false, false, false, false, false, false] rfl rfl (any_of HT_.out (by kernel_rfl)) (fun _ _ _ h => h) (Or.inl ⟨by rfl, ?_⟩) ?_ ?_
                              rotate_left
                              ·intro w'
                               go_simp
                               with_reducible rfl
                              rotate_left
                              ·simp only [Act.put, zA, zB, zC, i64_w, i32_w]
                               rfl
                              refine pure_ (i := 3) (N := some 91) (v := ?_) (a' := ?_) #[true, true, true, true, false, false, false, false, false, false, false, false, false, false, false, false, false, false] rfl rfl (any_of HT_.out (by kernel_rfl)) (fun _ _ _ h => h) (Or.inl ⟨by rfl, ?_⟩) ?_ ?_
                              rotate_left
                              ·intro w'
                               go_simp
                               with_reducible rfl
                              rotate_left
                              ·simp only [Act.put, zA, zB, zC, i64_w, i32_w]
                               rfl
                              refine pure_ (i := 4) (N := some 92) (v := ?_) (a' := ?_) #[true, true, true, true, true, false, false, false, false, false, false, false, false, false, false, false, false, false] rfl rfl (any_of HT_.out (by kernel_rfl)) (fun _ _ _ h => h) (Or.inl ⟨by rfl, ?_⟩) ?_ ?_
                              rotate_left
                              ·intro w'
                               go_simp
                               with_reducible rfl
                              rotate_left
                              ·simp only [Act.put, zA, zB, zC, i64_w, i32_w]
                               rfl
                              refine pure_ (i := 6) (N := some 94) (v := ?_) (a' := ?_) #[true, true, true, true, true, false, true, false, false, false, false, false, false, false, false, false, false, false] rfl rfl (any_of HT_.out (by kernel_rfl)) (fun _ _ _ h => h) (Or.inl ⟨by rfl, ?_⟩) ?_ ?_
                              rotate_left
                              ·intro w'
                               go_simp
                               with_reducible rfl
                              rotate_left
                              ·simp only [Act.put, zA, zB, zC, i64_w, i32_w]
                               rfl
                              refine pure_ (i := 7) (N := some 95) (v := ?_) (a' := ?_) #[true, true, true, true, true, false, true, true, false, false, false, false, false, false, false, false, false, false] rfl rfl (any_of HT_.out (by kernel_rfl)) (fun _ _ _ h => h) (Or.inl ⟨by rfl, ?_⟩) ?_ ?_
                              rotate_left
                              ·intro w'
                               go_simp
                               with_reducible rfl
                              rotate_left
                              ·simp only [Act.put, zA, zB, zC, i64_w, i32_w]
                               rfl
                              refine pure_ (i := 8) (N := some 96) (v := ?_) (a' := ?_) #[true, true, true, true, true, false, true, true, true, false, false, false, false, false, false, false, false, false] rfl rfl (any_of HT_.out (by kernel_rfl)) (fun _ _ _ h => h) (Or.inl ⟨by rfl, ?_⟩) ?_ ?_
                              rotate_left
                              ·intro w'
                               go_simp
                               with_reducible rfl
                              rotate_left
                              ·simp only [Act.put, zA, zB, zC, i64_w, i32_w]
                               rfl
                              refine pure_ (i := 9) (N := some 97) (v := ?_) (a' := ?_) #[true, true, true, true, true, false, true, true, true, true, false, false, false, false, false, false, false, false] rfl rfl (any_of HT_.out (by kernel_rfl)) (fun _ _ _ h => h) (Or.inl ⟨by rfl, ?_⟩) ?_ ?_
                              rotate_left
                              ·intro w'
                               go_simp
                               with_reducible rfl
                              rotate_left
                              ·simp only [Act.put, zA, zB, zC, i64_w, i32_w]
                               rfl
                              refine take_ (i := 5) (N := some 93) (v := ?_) (a' := ?_) #[true, true, true, true, true, true, true, true, true, true, false, false, false, false, false, false, false, false] rfl rfl (take_ofW HT_.out HW_.out (by kernel_rfl)) (fun _ _ _ h => h) (Or.inl ⟨by rfl, ?_⟩) hHeld ?_ ?_
                              rotate_left
                              ·rintro w' ⟨s0, s1, s2, s3⟩
                               go_simp
                               with_reducible rfl
                              rotate_left
                              ·simp only [Act.put, zA, zB, zC, i64_w, i32_w]
                               rfl
                              refine take_ (i := 10) (N := some 98) (v := ?_) (a' := ?_) #[true, true, true, true, true, true, true, true, true, true, true, false, false, false, false, false, false, false] rfl rfl (take_ofW HT_.out HW_.out (by kernel_rfl)) (fun _ _ _ h => h) (Or.inl ⟨by rfl, ?_⟩) hHeld ?_ ?_
                              rotate_left
                              ·rintro w' ⟨s0, s1, s2, s3⟩
                               go_simp
                               with_reducible rfl
                              rotate_left
                              ·simp only [Act.put, zA, zB, zC, i64_w, i32_w]
                               rfl
                              refine pure_ (i := 11) (N := some 99) (v := ?_) (a' := ?_) #[true, true, true, true, true, true, true, true, true, true, true, true, false, false, false, false, false, false] rfl rfl (any_of HT_.out (by kernel_rfl)) (fun _ _ _ h => h) (Or.inl ⟨by rfl, ?_⟩) ?_ ?_
                              rotate_left
                              ·intro w'
                               go_simp
                               with_reducible rfl
                              rotate_left
                              ·simp only [Act.put, zA, zB, zC, i64_w, i32_w]
                               rfl
                              refine one_ (i := 12) (N := some 100) #[true, true, true, true, true, true, true, true, true, true, true, true, true, false, false, false, false, false] rfl rfl (one_of HT_.out (by kernel_rfl)) (by decide) (fun K hK => ?_)
                              refine goes_ Tryd.func10 (by kernel_rfl) rfl #[.string (a0.extract (((rd_T36 t200 x7_3).f0) : Int).toNat (((rd_T36 t200 x7_3).f1) : Int).toNat)] (by rfl) rfl rfl (by (try simp only [List.map_toArray, List.map_cons, List.map_nil]); first | done | rfl | (simp only [List.length_drop, List.length_take]; rfl)) ?_
                              with_reducible refine (stream_Split.calls (a0.extract (((rd_T36 t200 x7_3).f0) : Int).toNat (((rd_T36 t200 x7_3).f1) : Int).toNat) t213 t214 _ ?tabk A41.out).mono ?_
                              (case tabk => exact TK_.out.step (by repeat (first | (with_reducible first | exact HB.out | apply zQ | apply zN | apply zO) | exact HB.out)))
                              rintro e w47 ⟨v215, rfl, ho0, hb⟩
                              have HS0_ := (hb.cell (World.block_lt_of_cell? _ _ (hHeld.1))).trans (hHeld.1)
                              have HS1_ := (hb.cell (World.block_lt_of_cell? _ _ (hHeld.2.1))).trans (hHeld.2.1)
                              have HS2_ := (hb.cell (World.block_lt_of_cell? _ _ (hHeld.2.2.1))).trans (hHeld.2.2.1)
                              have HS3_ := (hb.cell (World.block_lt_of_cell? _ _ (hHeld.2.2.2))).trans (hHeld.2.2.2)
                              refine ⟨_, rfl, ?_⟩
                              have n0_ := zS (Kd.R_elder' (by (with_reducible repeat (first | apply zG | apply zH | apply zI)); exact HO_3.out) (Kd.R_base ho0) hb)
                              have n1_ := zS (Kd.R_lower (Kd.R_new' ho0 (Kd.R_lt (by (with_reducible repeat (first | apply zG | apply zH | apply zI)); exact HO_3.out))) (below_size (by repeat (first | (with_reducible first | exact HB.out | apply zQ | apply zN | apply zO) | exact HB.out))))
                              have n2_ := zS (below_step (by repeat (first | (with_reducible first | exact HB.out | apply zQ | apply zN | apply zO) | exact HB.out)) hb)
                              clear HO_3
                              clear HB
                              have HO_3 := n0_
                              have HO216 := n1_
                              have HB := n2_
                              clear n0_ n1_ n2_
                              (try clear hb)
                              (try clear hb2)
                              (try clear hk)
                              (try clear hi)
                              (try clear ho0)
                              refine hK.out _ _ ⟨HS0_, HS1_, HS2_, HS3_⟩ (fun hHeld => ?_)
                              clear hK K
                              refine norm_ (a' := ?_) ?_ ?_
                              rotate_left
                              ·show Act.put _ (some 100) _ = _
                               simp only [Act.put, zA, zB, zC, i64_w, i32_w]
                               rfl
                              refine pure_ (i := 13) (N := some 87) (v := ?_) (a' := ?_) #[true, true, true, true, true, true, true, true, true, true, true, true, true, true, false, false, false, false] rfl rfl (any_of HT_.out (by kernel_rfl)) (fun _ _ _ h => h) (Or.inl ⟨by rfl, ?_⟩) ?_ ?_
                              rotate_left
                              ·intro w'
                               go_simp
                               with_reducible rfl
                              rotate_left
                              ·simp only [Act.put, zA, zB, zC, i64_w, i32_w]
                               rfl
                              refine pure_ (i := 14) (N := some 101) (v := ?_) (a' := ?_) #[true, true, true, true, true, true, true, true, true, true, true, true, true, true, true, false, false, false] rfl rfl (any_of HT_.out (by kernel_rfl)) (fun _ _ _ h => h) (Or.inl ⟨by rfl, ?_⟩) ?_ ?_
                              rotate_left
                              ·intro w'
                               go_simp
                               with_reducible rfl
                              rotate_left
                              ·simp only [Act.put, zA, zB, zC, i64_w, i32_w]
                               rfl
                              refine pure_ (i := 15) (N := some 102) (v := ?_) (a' := ?_) #[true, true, true, true, true, true, true, true, true, true, true, true, true, true, true, true, false, false] rfl rfl (any_of HT_.out (by kernel_rfl)) (fun _ _ _ h => h) (Or.inl ⟨by rfl, ?_⟩) ?_ ?_
                              rotate_left
                              ·intro w'
                               go_simp
                               with_reducible rfl
                              rotate_left
                              ·simp only [Act.put, zA, zB, zC, i64_w, i32_w]
                               rfl
                              refine pure_ (i := 16) (N := some 9) (v := ?_) (a' := ?_) #[true, true, true, true, true, true, true, true, true, true, true, true, true, true, true, true, true, false] rfl rfl (any_of HT_.out (by kernel_rfl)) (fun _ _ _ h => h) (Or.inl ⟨by rfl, ?_⟩) ?_ ?_
                              rotate_left
                              ·intro w'
                               go_simp
                               with_reducible rfl
                              rotate_left
                              ·simp only [Act.put, zA, zB, zC, i64_w, i32_w]
                               rfl
                              refine pure_ (i := 17) (N := some 10) (v := ?_) (a' := ?_) #[true, true, true, true, true, true, true, true, true, true, true, true, true, true, true, true, true, true] rfl rfl (any_of HT_.out (by kernel_rfl)) (fun _ _ _ h => h) (Or.inl ⟨by rfl, ?_⟩) ?_ ?_
                              rotate_left
                              ·intro w'
                               go_simp
                               with_reducible rfl
                              rotate_left
                              ·simp only [Act.put, zA, zB, zC, i64_w, i32_w]
                               rfl
                              refine done_ (done_of HT_.out (by kernel_rfl)) ?_
                              try go_wp2
                              have n0_ := zS (zI HO_3.out)
                              have n1_ := zS (zI HO216.out)
                              have n2_ := zS (zO HB.out)
                              clear HO_3
                              clear HO216
                              clear HB
                              have HO_3 := n0_
                              have HO216 := n1_
                              have HB := n2_
                              clear n0_ n1_ n2_
                              obtain ⟨Ao49, co49, eo49⟩ := Kd.R_slice HO216.out
                              (first | subst eo49 | (injection eo49 with f1_ f2_ f3_; have f4_ := f1_.symm; have f5_ := f3_.symm; clear f1_ f2_ f3_; subst f4_; subst f5_))
                              have p217 : 0 ≤ (0 : Int) := (by omega)
                              have q217 : 0 < (t213.length : Int) := of_decide_eq_true (by first | (with_reducible assumption) | assumption)
                              obtain ⟨ad217, e217, hx217_0, hx217_1⟩ := at_T36 (Kd.R_reads' HO216.out).2.2 0 p217 q217
                              cases e217
                              have qi217 : (0 < t213.length) = True := eq_true (by omega)
                              (try rw [show ((0 : Int)).toNat = 0 from rfl] at hx217_0)
                              (try rw [show 0 * 2 = 0 from rfl] at hx217_0)
                              (try rw [Addr.add_zero'] at hx217_0)
                              (try rw [show ((0 : Int)).toNat = 0 from rfl] at hx217_1)
                              (try rw [show 0 * 2 = 0 from rfl] at hx217_1)
                              (try rw [Addr.add_zero'] at hx217_1)
                              replace p217 := eq_true p217
                              replace q217 := eq_true q217
                              have p218 : 0 ≤ (x7_3 : Int) := of_decide_eq_true (by first | (with_reducible assumption) | assumption)
                              have q218 : x7_3 < (t200.length : Int) := of_decide_eq_true (by first | (with_reducible assumption) | assumption)
                              obtain ⟨ad218, e218, hx218_0, hx218_1⟩ := at_T36 (Kd.R_reads' HO_3.out).2.2 x7_3 p218 q218
                              obtain rfl : ad211 = ad218 := (by injection e218)
                              replace p218 := eq_true p218
                              replace q218 := eq_true q218
                              have p219 : 0 ≤ (x7_3 : Int) := of_decide_eq_true (by first | (with_reducible assumption) | assumption)
                              have q219 : x7_3 < (t200.length : Int) := of_decide_eq_true (by first | (with_reducible assumption) | assumption)
                              obtain ⟨ad219, e219, hx219_0, hx219_1⟩ := at_T36 (Kd.R_reads' HO_3.out).2.2 x7_3 p219 q219
                              obtain rfl : ad211 = ad219 := (by injection e219)
                              replace p219 := eq_true p219
                              replace q219 := eq_true q219
                              refine start_ (n := 25) (S := fun w' => w'.cell? ad217 = some (.int .i64 ((rd_T36 t213 0).f0)) ∧ w'.cell? ⟨ad217.block, ad217.off + 1, none⟩ = some (.int .i64 ((rd_T36 t213 0).f1)) ∧ w'.cell? (ad211.add ((x7_3).toNat * 2)) = some (.int .i64 ((rd_T36 t200 x7_3).f0)) ∧ w'.cell? ⟨(ad211.add ((x7_3).toNat * 2)).block, (ad211.add ((x7_3).toNat * 2)).off + 1, none⟩ = some (.int .i64 ((rd_T36 t200 x7_3).f1)) ∧ w'.cell? (ad211.add ((x7_3).toNat * 2)) = some (.int .i64 ((rd_T36 t200 x7_3).f0)) ∧ w'.cell? ⟨(ad211.add ((x7_3).toNat * 2)).block, (ad211.add ((x7_3).toNat * 2)).off + 1, none⟩ = some (.int .i64 ((rd_T36 t200 x7_3).f1))) (ds := []) #[false, false, false, false, false, false, false, false, false, false, false, false, false, false, false, false, false, false, false, false, false, false, false, false, false] (by kernel_rfl) rfl rfl ⟨hx217_0, hx217_1, hx218_0, hx218_1, hx219_0, hx219_1⟩ (fun hHeld => ?_); refine with_tabW quarrylaw27_StreamCovers.tab24 quarrylaw27_StreamCovers.bits24 (fun HT_ HW_ => ?_)
                              generalize w47.drew = w48 at HO_3 HO216 HB hx217_0 hx217_1 hx218_0 hx218_1 hx219_0 hx219_1 hHeld ⊢
                              refine pure_ (i := 0) (N := some 103) (v := ?_) (a' := ?_) #[true, false, false, false, false, false, false, false, false, false, false, false, false, false, false, false, false, false, false, false, false, false, false, false, false] rfl rfl (any_of HT_.out (by kernel_rfl)) (fun _ _ _ h => h) (Or.inl ⟨by rfl, ?_⟩) ?_ ?_
                              rotate_left
                              ·intro w'
                               go_simp
                               with_reducible rfl
                              rotate_left
                              ·simp only [Act.put, zA, zB, zC, i64_w, i32_w]
                               rfl
                              refine pure_ (i := 1) (N := some 104) (v := ?_) (a' := ?_) #[true, true, false, false, false, false, false, false, false, false, false, false, false, false, false, false, false, false, false, false, false, false, false, false, false] rfl rfl (any_of HT_.out (by kernel_rfl)) (fun _ _ _ h => h) (Or.inl ⟨by rfl, ?_⟩) ?_ ?_
                              rotate_left
                              ·intro w'
                               go_simp
                               with_reducible rfl
                              rotate_left
                              ·simp only [Act.put, zA, zB, zC, i64_w, i32_w]
                               rfl
                              refine pure_ (i := 2) (N := some 105) (v := ?_) (a' := ?_) #[true, true, true, false, false, false, false, false, false, false, false, false, false, false, false, false, false, false, false, false, false, false, false, false, false] rfl rfl (any_of HT_.out (by kernel_rfl)) (fun _ _ _ h => h) (Or.inl ⟨by rfl, ?_⟩) ?_ ?_
                              rotate_left
                              ·intro w'
                               go_simp
                               with_reducible rfl
                              rotate_left
                              ·simp only [Act.put, zA, zB, zC, i64_w, i32_w]
                               rfl
                              refine pure_ (i := 3) (N := some 106) (v := ?_) (a' := ?_) #[true, true, true, true, false, false, false, false, false, false, false, false, false, false, false, false, false, false, false, false, false, false, false, false, false] rfl rfl (any_of HT_.out (by kernel_rfl)) (fun _ _ _ h => h) (Or.inl ⟨by rfl, ?_⟩) ?_ ?_
                              rotate_left
                              ·intro w'
                               go_simp
                               with_reducible rfl
                              rotate_left
                              ·simp only [Act.put, zA, zB, zC, i64_w, i32_w]
                               rfl
                              refine pure_ (i := 4) (N := some 107) (v := ?_) (a' := ?_) #[true, true, true, true, true, false, false, false, false, false, false, false, false, false, false, false, false, false, false, false, false, false, false, false, false] rfl rfl (any_of HT_.out (by kernel_rfl)) (fun _ _ _ h => h) (Or.inl ⟨by rfl, ?_⟩) ?_ ?_
                              rotate_left
                              ·intro w'
                               go_simp
                               with_reducible rfl
                              rotate_left
                              ·simp only [Act.put, zA, zB, zC, i64_w, i32_w]
                               rfl
                              refine pure_ (i := 5) (N := some 108) (v := ?_) (a' := ?_) #[true, true, true, true, true, true, false, false, false, false, false, false, false, false, false, false, false, false, false, false, false, false, false, false, false] rfl rfl (any_of HT_.out (by kernel_rfl)) (fun _ _ _ h => h) (Or.inl ⟨by rfl, ?_⟩) ?_ ?_
                              rotate_left
                              ·intro w'
                               go_simp
                               with_reducible rfl
                              rotate_left
                              ·simp only [Act.put, zA, zB, zC, i64_w, i32_w]
                               rfl
                              refine pure_ (i := 6) (N := some 109) (v := ?_) (a' := ?_) #[true, true, true, true, true, true, true, false, false, false, false, false, false, false, false, false, false, false, false, false, false, false, false, false, false] rfl rfl (any_of HT_.out (by kernel_rfl)) (fun _ _ _ h => h) (Or.inl ⟨by rfl, ?_⟩) ?_ ?_
                              rotate_left
                              ·intro w'
                               go_simp
                               with_reducible rfl
                              rotate_left
                              ·simp only [Act.put, zA, zB, zC, i64_w, i32_w]
                               rfl
                              refine pure_ (i := 7) (N := some 110) (v := ?_) (a' := ?_) #[true, true, true, true, true, true, true, true, false, false, false, false, false, false, false, false, false, false, false, false, false, false, false, false, false] rfl rfl (any_of HT_.out (by kernel_rfl)) (fun _ _ _ h => h) (Or.inl ⟨by rfl, ?_⟩) ?_ ?_
                              rotate_left
                              ·intro w'
                               go_simp
                               with_reducible rfl
                              rotate_left
                              ·simp only [Act.put, zA, zB, zC, i64_w, i32_w]
                               rfl
                              refine pure_ (i := 8) (N := some 111) (v := ?_) (a' := ?_) #[true, true, true, true, true, true, true, true, true, false, false, false, false, false, false, false, false, false, false, false, false, false, false, false, false] rfl rfl (any_of HT_.out (by kernel_rfl)) (fun _ _ _ h => h) (Or.inl ⟨by rfl, ?_⟩) ?_ ?_
                              rotate_left
                              ·intro w'
                               go_simp
                               with_reducible rfl
                              rotate_left
                              ·simp only [Act.put, zA, zB, zC, i64_w, i32_w]
                               rfl
                              refine pure_ (i := 9) (N := some 112) (v := ?_) (a' := ?_) #[true, true, true, true, true, true, true, true, true, true, false, false, false, false, false, false, false, false, false, false, false, false, false, false, false] rfl rfl (any_of HT_.out (by kernel_rfl)) (fun _ _ _ h => h) (Or.inl ⟨by rfl, ?_⟩) ?_ ?_
                              rotate_left
                              ·intro w'
                               go_simp
                               with_reducible rfl
                              rotate_left
                              ·simp only [Act.put, zA, zB, zC, i64_w, i32_w]
                               rfl
                              refine pure_ (i := 11) (N := some 114) (v := ?_) (a' := ?_) #[true, true, true, true, true, true, true, true, true, true, false, true, false, false, false, false, false, false, false, false, false, false, false, false, false] rfl rfl (any_of HT_.out (by kernel_rfl)) (fun _ _ _ h => h) (Or.inl ⟨by rfl, ?_⟩) ?_ ?_
                              rotate_left
                              ·intro w'
                               go_simp
                               with_reducible rfl
                              rotate_left
                              ·simp only [Act.put, zA, zB, zC, i64_w, i32_w]
                               rfl
                              refine pure_ (i := 12) (N := some 115) (v := ?_) (a' := ?_) #[true, true, true, true, true, true, true, true, true, true, false, true, true, false, false, false, false, false, false, false, false, false, false, false, false] rfl rfl (any_of HT_.out (by kernel_rfl)) (fun _ _ _ h => h) (Or.inl ⟨by rfl, ?_⟩) ?_ ?_
                              rotate_left
                              ·intro w'
                               go_simp
                               with_reducible rfl
                              rotate_left
                              ·simp only [Act.put, zA, zB, zC, i64_w, i32_w]
                               rfl
                              refine pure_ (i := 13) (N := some 116) (v := ?_) (a' := ?_) #[true, true, true, true, true, true, true, true, true, true, false, true, true, true, false, false, false, false, false, false, false, false, false, false, false] rfl rfl (any_of HT_.out (by kernel_rfl)) (fun _ _ _ h => h) (Or.inl ⟨by rfl, ?_⟩) ?_ ?_
                              rotate_left
                              ·intro w'
                               go_simp
                               with_reducible rfl
                              rotate_left
                              ·simp only [Act.put, zA, zB, zC, i64_w, i32_w]
                               rfl
                              refine pure_ (i := 14) (N := some 117) (v := ?_) (a' := ?_) #[true, true, true, true, true, true, true, true, true, true, false, true, true, true, true, false, false, false, false, false, false, false, false, false, false] rfl rfl (any_of HT_.out (by kernel_rfl)) (fun _ _ _ h => h) (Or.inl ⟨by rfl, ?_⟩) ?_ ?_
                              rotate_left
                              ·intro w'
                               go_simp
                               with_reducible rfl
                              rotate_left
                              ·simp only [Act.put, zA, zB, zC, i64_w, i32_w]
                               rfl
                              refine pure_ (i := 16) (N := some 119) (v := ?_) (a' := ?_) #[true, true, true, true, true, true, true, true, true, true, false, true, true, true, true, false, true, false, false, false, false, false, false, false, false] rfl rfl (any_of HT_.out (by kernel_rfl)) (fun _ _ _ h => h) (Or.inl ⟨by rfl, ?_⟩) ?_ ?_
                              rotate_left
                              ·intro w'
                               go_simp
                               with_reducible rfl
                              rotate_left
                              ·simp only [Act.put, zA, zB, zC, i64_w, i32_w]
                               rfl
                              refine pure_ (i := 17) (N := some 120) (v := ?_) (a' := ?_) #[true, true, true, true, true, true, true, true, true, true, false, true, true, true, true, false, true, true, false, false, false, false, false, false, false] rfl rfl (any_of HT_.out (by kernel_rfl)) (fun _ _ _ h => h) (Or.inl ⟨by rfl, ?_⟩) ?_ ?_
                              rotate_left
                              ·intro w'
                               go_simp
                               with_reducible rfl
                              rotate_left
                              ·simp only [Act.put, zA, zB, zC, i64_w, i32_w]
                               rfl
                              refine pure_ (i := 18) (N := some 121) (v := ?_) (a' := ?_) #[true, true, true, true, true, true, true, true, true, true, false, true, true, true, true, false, true, true, true, false, false, false, false, false, false] rfl rfl (any_of HT_.out (by kernel_rfl)) (fun _ _ _ h => h) (Or.inl ⟨by rfl, ?_⟩) ?_ ?_
                              rotate_left
                              ·intro w'
                               go_simp
                               with_reducible rfl
                              rotate_left
                              ·simp only [Act.put, zA, zB, zC, i64_w, i32_w]
                               rfl
                              refine pure_ (i := 19) (N := some 122) (v := ?_) (a' := ?_) #[true, true, true, true, true, true, true, true, true, true, false, true, true, true, true, false, true, true, true, true, false, false, false, false, false] rfl rfl (any_of HT_.out (by kernel_rfl)) (fun _ _ _ h => h) (Or.inl ⟨by rfl, ?_⟩) ?_ ?_
                              rotate_left
                              ·intro w'
                               go_simp
                               with_reducible rfl
                              rotate_left
                              ·simp only [Act.put, zA, zB, zC, i64_w, i32_w]
                               rfl
                              refine take_ (i := 10) (N := some 113) (v := ?_) (a' := ?_) #[true, true, true, true, true, true, true, true, true, true, true, true, true, true, true, false, true, true, true, true, false, false, false, false, false] rfl rfl (take_ofW HT_.out HW_.out (by kernel_rfl)) (fun _ _ _ h => h) (Or.inl ⟨by rfl, ?_⟩) hHeld ?_ ?_
                              rotate_left
                              ·rintro w' ⟨s0, s1, s2, s3, s4, s5⟩
                               go_simp
                               with_reducible rfl
                              rotate_left
                              ·simp only [Act.put, zA, zB, zC, i64_w, i32_w]
                               rfl
                              refine take_ (i := 15) (N := some 118) (v := ?_) (a' := ?_) #[true, true, true, true, true, true, true, true, true, true, true, true, true, true, true, true, true, true, true, true, false, false, false, false, false] rfl rfl (take_ofW HT_.out HW_.out (by kernel_rfl)) (fun _ _ _ h => h) (Or.inl ⟨by rfl, ?_⟩) hHeld ?_ ?_
                              rotate_left
                              ·rintro w' ⟨s0, s1, s2, s3, s4, s5⟩
                               go_simp
                               with_reducible rfl
                              rotate_left
                              ·simp only [Act.put, zA, zB, zC, i64_w, i32_w]
                               rfl
                              refine take_ (i := 20) (N := some 123) (v := ?_) (a' := ?_) #[true, true, true, true, true, true, true, true, true, true, true, true, true, true, true, true, true, true, true, true, true, false, false, false, false] rfl rfl (take_ofW HT_.out HW_.out (by kernel_rfl)) (fun _ _ _ h => h) (Or.inl ⟨by rfl, ?_⟩) hHeld ?_ ?_
                              rotate_left
                              ·rintro w' ⟨s0, s1, s2, s3, s4, s5⟩
                               go_simp
                               with_reducible rfl
                              rotate_left
                              ·simp only [Act.put, zA, zB, zC, i64_w, i32_w]
                               rfl
                              refine pure_ (i := 21) (N := some 124) (v := ?_) (a' := ?_) #[true, true, true, true, true, true, true, true, true, true, true, true, true, true, true, true, true, true, true, true, true, true, false, false, false] rfl rfl (any_of HT_.out (by kernel_rfl)) (fun _ _ _ h => h) (Or.inl ⟨by rfl, ?_⟩) ?_ ?_
                              rotate_left
                              ·intro w'
                               go_simp
                               with_reducible rfl
                              rotate_left
                              ·simp only [Act.put, zA, zB, zC, i64_w, i32_w]
                               rfl
                              refine pure_ (i := 22) (N := some 125) (v := ?_) (a' := ?_) #[true, true, true, true, true, true, true, true, true, true, true, true, true, true, true, true, true, true, true, true, true, true, true, false, false] rfl rfl (any_of HT_.out (by kernel_rfl)) (fun _ _ _ h => h) (Or.inl ⟨by rfl, ?_⟩) ?_ ?_
                              rotate_left
                              ·intro w'
                               go_simp
                               with_reducible rfl
                              rotate_left
                              ·simp only [Act.put, zA, zB, zC, i64_w, i32_w]
                               rfl
                              refine pure_ (i := 23) (N := some 126) (v := ?_) (a' := ?_) #[true, true, true, true, true, true, true, true, true, true, true, true, true, true, true, true, true, true, true, true, true, true, true, true, false] rfl rfl (any_of HT_.out (by kernel_rfl)) (fun _ _ _ h => h) (Or.inl ⟨by rfl, ?_⟩) ?_ ?_
                              rotate_left
                              ·intro w'
                               go_simp
                               with_reducible rfl
                              rotate_left
                              ·simp only [Act.put, zA, zB, zC, i64_w, i32_w]
                               rfl
                              refine pure_ (i := 24) (N := some 127) (v := ?_) (a' := ?_) #[true, true, true, true, true, true, true, true, true, true, true, true, true, true, true, true, true, true, true, true, true, true, true, true, true] rfl rfl (any_of HT_.out (by kernel_rfl)) (fun _ _ _ h => h) (Or.inl ⟨by rfl, ?_⟩) ?_ ?_
                              rotate_left
                              ·intro w'
                               go_simp
                               with_reducible rfl
                              rotate_left
                              ·simp only [Act.put, zA, zB, zC, i64_w, i32_w]
                               rfl
                              refine done_ (done_of HT_.out (by kernel_rfl)) ?_
                              try go_wp2
                              go_ret
                              exact ⟨by first | rfl | (simp [errW_none, errW_some] <;> rfl) | (simp [*, errW_none, errW_some] <;> rfl), by repeat (first | (with_reducible first | exact HB.out | apply zQ | apply zN | apply zO) | exact HB.out)⟩
                             ·rw [if_neg c45] at H
                              have c45b0 : (!(((rd_T36 t213 0).f0) == 0) || (!(((rd_T36 t213 0).f1) == (wrap64 (((rd_T36 t200 x7_3).f1) - ((rd_T36 t200 x7_3).f0)))))) = false := by simpa using c45
                              clear c45
                              have H' := zS H
                              clear H
                              try go_wp2
                              have n0_ := zS (zI HO_3.out)
                              have n1_ := zS (zO HB.out)
                              clear HO_3
                              clear HB
                              have HO_3 := n0_
                              have HB := n1_
                              clear n0_ n1_
                              have p211 : 0 ≤ (x7_3 : Int) := of_decide_eq_true (by first | (with_reducible assumption) | assumption)
                              have q211 : x7_3 < (t200.length : Int) := of_decide_eq_true (by first | (with_reducible assumption) | assumption)
                              obtain ⟨ad211, e211, hx211_0, hx211_1⟩ := at_T36 (Kd.R_reads' HO_3.out).2.2 x7_3 p211 q211
                              cases e211
                              replace p211 := eq_true p211
                              replace q211 := eq_true q211
                              have p212 : 0 ≤ (x7_3 : Int) := of_decide_eq_true (by first | (with_reducible assumption) | assumption)
                              have q212 : x7_3 < (t200.length : Int) := of_decide_eq_true (by first | (with_reducible assumption) | assumption)
                              obtain ⟨ad212, e212, hx212_0, hx212_1⟩ := at_T36 (Kd.R_reads' HO_3.out).2.2 x7_3 p212 q212
                              obtain rfl : ad211 = ad212 := (by injection e212)
                              replace p212 := eq_true p212
                              replace q212 := eq_true q212
                              refine start_ (n := 18) (S := fun w' => w'.cell? (ad211.add ((x7_3).toNat * 2)) = some (.int .i64 ((rd_T36 t200 x7_3).f0)) ∧ w'.cell? ⟨(ad211.add ((x7_3).toNat * 2)).block, (ad211.add ((x7_3).toNat * 2)).off + 1, none⟩ = some (.int .i64 ((rd_T36 t200 x7_3).f1)) ∧ w'.cell? (ad211.add ((x7_3).toNat * 2)) = some (.int .i64 ((rd_T36 t200 x7_3).f0)) ∧ w'.cell? ⟨(ad211.add ((x7_3).toNat * 2)).block, (ad211.add ((x7_3).toNat * 2)).off + 1, none⟩ = some (.int .i64 ((rd_T36 t200 x7_3).f1))) (ds := []) #[false, false, false, false, false, false, false, false, false, false, false, false, false, false, false, false, false, false] (by kernel_rfl) rfl rfl ⟨hx211_0, hx211_1, hx212_0, hx212_1⟩ (fun hHeld => ?_); refine with_tabW quarrylaw27_StreamCovers.tab23 quarrylaw27_StreamCovers.bits23 (fun HT_ HW_ => ?_)
                              generalize wc.drew = w50 at HO_3 HB hx211_0 hx211_1 hx212_0 hx212_1 hHeld ⊢
                              refine pure_ (i := 0) (N := some 88) (v := ?_) (a' := ?_) #[true, false, false, false, false, false, false, false, false, false, false, false, false, false, false, false, false, false] rfl rfl (any_of HT_.out (by kernel_rfl)) (fun _ _ _ h => h) (Or.inl ⟨by rfl, ?_⟩) ?_ ?_
                              rotate_left
                              ·intro w'
                               go_simp
                               with_reducible rfl
                              rotate_left
                              ·simp only [Act.put, zA, zB, zC, i64_w, i32_w]
                               rfl
                              refine pure_ (i := 1) (N := some 89) (v := ?_) (a' := ?_) #[true, true, false, false, false, false, false, false, false, false, false, false, false, false, false, false, false, false] rfl rfl (any_of HT_.out (by kernel_rfl)) (fun _ _ _ h => h) (Or.inl ⟨by rfl, ?_⟩) ?_ ?_
                              rotate_left
                              ·intro w'
                               go_simp
                               with_reducible rfl
                              rotate_left
                              ·simp only [Act.put, zA, zB, zC, i64_w, i32_w]
                               rfl
                              refine pure_ (i := 2) (N := some 90) (v := ?_) (a' := ?_) #[true, true, true, false, false, false, false, false, false, false, false, false, false, false, false, false, false, false] rfl rfl (any_of HT_.out (by kernel_rfl)) (fun _ _ _ h => h) (Or.inl ⟨by rfl, ?_⟩) ?_ ?_
                              rotate_left
                              ·intro w'
                               go_simp
                               with_reducible rfl
                              rotate_left
                              ·simp only [Act.put, zA, zB, zC, i64_w, i32_w]
                               rfl
                              refine pure_ (i := 3) (N := some 91) (v := ?_) (a' := ?_) #[true, true, true, true, false, false, false, false, false, false, false, false, false, false, false, false, false, false] rfl rfl (any_of HT_.out (by kernel_rfl)) (fun _ _ _ h => h) (Or.inl ⟨by rfl, ?_⟩) ?_ ?_
                              rotate_left
                              ·intro w'
                               go_simp
                               with_reducible rfl
                              rotate_left
                              ·simp only [Act.put, zA, zB, zC, i64_w, i32_w]
                               rfl
                              refine pure_ (i := 4) (N := some 92) (v := ?_) (a' := ?_) #[true, true, true, true, true, false, false, false, false, false, false, false, false, false, false, false, false, false] rfl rfl (any_of HT_.out (by kernel_rfl)) (fun _ _ _ h => h) (Or.inl ⟨by rfl, ?_⟩) ?_ ?_
                              rotate_left
                              ·intro w'
                               go_simp
                               with_reducible rfl
                              rotate_left
                              ·simp only [Act.put, zA, zB, zC, i64_w, i32_w]
                               rfl
                              refine pure_ (i := 6) (N := some 94) (v := ?_) (a' := ?_) #[true, true, true, true, true, false, true, false, false, false, false, false, false, false, false, false, false, false] rfl rfl (any_of HT_.out (by kernel_rfl)) (fun _ _ _ h => h) (Or.inl ⟨by rfl, ?_⟩) ?_ ?_
                              rotate_left
                              ·intro w'
                               go_simp
                               with_reducible rfl
                              rotate_left
                              ·simp only [Act.put, zA, zB, zC, i64_w, i32_w]
                               rfl
                              refine pure_ (i := 7) (N := some 95) (v := ?_) (a' := ?_) #[true, true, true, true, true, false, true, true, false, false, false, false, false, false, false, false, false, false] rfl rfl (any_of HT_.out (by kernel_rfl)) (fun _ _ _ h => h) (Or.inl ⟨by rfl, ?_⟩) ?_ ?_
                              rotate_left
                              ·intro w'
                               go_simp
                               with_reducible rfl
                              rotate_left
                              ·simp only [Act.put, zA, zB, zC, i64_w, i32_w]
                               rfl
                              refine pure_ (i := 8) (N := some 96) (v := ?_) (a' := ?_) #[true, true, true, true, true, false, true, true, true, false, false, false, false, false, false, false, false, false] rfl rfl (any_of HT_.out (by kernel_rfl)) (fun _ _ _ h => h) (Or.inl ⟨by rfl, ?_⟩) ?_ ?_
                              rotate_left
                              ·intro w'
                               go_simp
                               with_reducible rfl
                              rotate_left
                              ·simp only [Act.put, zA, zB, zC, i64_w, i32_w]
                               rfl
                              refine pure_ (i := 9) (N := some 97) (v := ?_) (a' := ?_) #[true, true, true, true, true, false, true, true, true, true, false, false, false, false, false, false, false, false] rfl rfl (any_of HT_.out (by kernel_rfl)) (fun _ _ _ h => h) (Or.inl ⟨by rfl, ?_⟩) ?_ ?_
                              rotate_left
                              ·intro w'
                               go_simp
                               with_reducible rfl
                              rotate_left
                              ·simp only [Act.put, zA, zB, zC, i64_w, i32_w]
                               rfl
                              refine take_ (i := 5) (N := some 93) (v := ?_) (a' := ?_) #[true, true, true, true, true, true, true, true, true, true, false, false, false, false, false, false, false, false] rfl rfl (take_ofW HT_.out HW_.out (by kernel_rfl)) (fun _ _ _ h => h) (Or.inl ⟨by rfl, ?_⟩) hHeld ?_ ?_
                              rotate_left
                              ·rintro w' ⟨s0, s1, s2, s3⟩
                               go_simp
                               with_reducible rfl
                              rotate_left
                              ·simp only [Act.put, zA, zB, zC, i64_w, i32_w]
                               rfl
                              refine take_ (i := 10) (N := some 98) (v := ?_) (a' := ?_) #[true, true, true, true, true, true, true, true, true, true, true, false, false, false, false, false, false, false] rfl rfl (take_ofW HT_.out HW_.out (by kernel_rfl)) (fun _ _ _ h => h) (Or.inl ⟨by rfl, ?_⟩) hHeld ?_ ?_
                              rotate_left
                              ·rintro w' ⟨s0, s1, s2, s3⟩
                               go_simp
                               with_reducible rfl
                              rotate_left
                              ·simp only [Act.put, zA, zB, zC, i64_w, i32_w]
                               rfl
                              refine pure_ (i := 11) (N := some 99) (v := ?_) (a' := ?_) #[true, true, true, true, true, true, true, true, true, true, true, true, false, false, false, false, false, false] rfl rfl (any_of HT_.out (by kernel_rfl)) (fun _ _ _ h => h) (Or.inl ⟨by rfl, ?_⟩) ?_ ?_
                              rotate_left
                              ·intro w'
                               go_simp
                               with_reducible rfl
                              rotate_left
                              ·simp only [Act.put, zA, zB, zC, i64_w, i32_w]
                               rfl
                              refine one_ (i := 12) (N := some 100) #[true, true, true, true, true, true, true, true, true, true, true, true, true, false, false, false, false, false] rfl rfl (one_of HT_.out (by kernel_rfl)) (by decide) (fun K hK => ?_)
                              refine goes_ Tryd.func10 (by kernel_rfl) rfl #[.string (a0.extract (((rd_T36 t200 x7_3).f0) : Int).toNat (((rd_T36 t200 x7_3).f1) : Int).toNat)] (by rfl) rfl rfl (by (try simp only [List.map_toArray, List.map_cons, List.map_nil]); first | done | rfl | (simp only [List.length_drop, List.length_take]; rfl)) ?_
                              with_reducible refine (stream_Split.calls (a0.extract (((rd_T36 t200 x7_3).f0) : Int).toNat (((rd_T36 t200 x7_3).f1) : Int).toNat) t213 t214 _ ?tabk A41.out).mono ?_
                              (case tabk => exact TK_.out.step (by repeat (first | (with_reducible first | exact HB.out | apply zQ | apply zN | apply zO) | exact HB.out)))
                              rintro e w51 ⟨v215, rfl, ho0, hb⟩
                              have HS0_ := (hb.cell (World.block_lt_of_cell? _ _ (hHeld.1))).trans (hHeld.1)
                              have HS1_ := (hb.cell (World.block_lt_of_cell? _ _ (hHeld.2.1))).trans (hHeld.2.1)
                              have HS2_ := (hb.cell (World.block_lt_of_cell? _ _ (hHeld.2.2.1))).trans (hHeld.2.2.1)
                              have HS3_ := (hb.cell (World.block_lt_of_cell? _ _ (hHeld.2.2.2))).trans (hHeld.2.2.2)
                              refine ⟨_, rfl, ?_⟩
                              have n0_ := zS (Kd.R_elder' (by (with_reducible repeat (first | apply zG | apply zH | apply zI)); exact HO_3.out) (Kd.R_base ho0) hb)
                              have n1_ := zS (Kd.R_lower (Kd.R_new' ho0 (Kd.R_lt (by (with_reducible repeat (first | apply zG | apply zH | apply zI)); exact HO_3.out))) (below_size (by repeat (first | (with_reducible first | exact HB.out | apply zQ | apply zN | apply zO) | exact HB.out))))
                              have n2_ := zS (below_step (by repeat (first | (with_reducible first | exact HB.out | apply zQ | apply zN | apply zO) | exact HB.out)) hb)
                              clear HO_3
                              clear HB
                              have HO_3 := n0_
                              have HO216 := n1_
                              have HB := n2_
                              clear n0_ n1_ n2_
                              (try clear hb)
                              (try clear hb2)
                              (try clear hk)
                              (try clear hi)
                              (try clear ho0)
                              refine hK.out _ _ ⟨HS0_, HS1_, HS2_, HS3_⟩ (fun hHeld => ?_)
                              clear hK K
                              refine norm_ (a' := ?_) ?_ ?_
                              rotate_left
                              ·show Act.put _ (some 100) _ = _
                               simp only [Act.put, zA, zB, zC, i64_w, i32_w]
                               rfl
                              refine pure_ (i := 13) (N := some 87) (v := ?_) (a' := ?_) #[true, true, true, true, true, true, true, true, true, true, true, true, true, true, false, false, false, false] rfl rfl (any_of HT_.out (by kernel_rfl)) (fun _ _ _ h => h) (Or.inl ⟨by rfl, ?_⟩) ?_ ?_
                              rotate_left
                              ·intro w'
                               go_simp
                               with_reducible rfl
                              rotate_left
                              ·simp only [Act.put, zA, zB, zC, i64_w, i32_w]
                               rfl
                              refine pure_ (i := 14) (N := some 101) (v := ?_) (a' := ?_) #[true, true, true, true, true, true, true, true, true, true, true, true, true, true, true, false, false, false] rfl rfl (any_of HT_.out (by kernel_rfl)) (fun _ _ _ h => h) (Or.inl ⟨by rfl, ?_⟩) ?_ ?_
                              rotate_left
                              ·intro w'
                               go_simp
                               with_reducible rfl
                              rotate_left
                              ·simp only [Act.put, zA, zB, zC, i64_w, i32_w]
                               rfl
                              refine pure_ (i := 15) (N := some 102) (v := ?_) (a' := ?_) #[true, true, true, true, true, true, true, true, true, true, true, true, true, true, true, true, false, false] rfl rfl (any_of HT_.out (by kernel_rfl)) (fun _ _ _ h => h) (Or.inl ⟨by rfl, ?_⟩) ?_ ?_
                              rotate_left
                              ·intro w'
                               go_simp
                               with_reducible rfl
                              rotate_left
                              ·simp only [Act.put, zA, zB, zC, i64_w, i32_w]
                               rfl
                              refine pure_ (i := 16) (N := some 9) (v := ?_) (a' := ?_) #[true, true, true, true, true, true, true, true, true, true, true, true, true, true, true, true, true, false] rfl rfl (any_of HT_.out (by kernel_rfl)) (fun _ _ _ h => h) (Or.inl ⟨by rfl, ?_⟩) ?_ ?_
                              rotate_left
                              ·intro w'
                               go_simp
                               with_reducible rfl
                              rotate_left
                              ·simp only [Act.put, zA, zB, zC, i64_w, i32_w]
                               rfl
                              refine pure_ (i := 17) (N := some 10) (v := ?_) (a' := ?_) #[true, true, true, true, true, true, true, true, true, true, true, true, true, true, true, true, true, true] rfl rfl (any_of HT_.out (by kernel_rfl)) (fun _ _ _ h => h) (Or.inl ⟨by rfl, ?_⟩) ?_ ?_
                              rotate_left
                              ·intro w'
                               go_simp
                               with_reducible rfl
                              rotate_left
                              ·simp only [Act.put, zA, zB, zC, i64_w, i32_w]
                               rfl
                              refine done_ (done_of HT_.out (by kernel_rfl)) ?_
                              try go_wp2
                              have n0_ := zS (zI HO_3.out)
                              have n1_ := zS (zI HO216.out)
                              have n2_ := zS (zO HB.out)
                              clear HO_3
                              clear HO216
                              clear HB
                              have HO_3 := n0_
                              have HO216 := n1_
                              have HB := n2_
                              clear n0_ n1_ n2_
                              obtain ⟨Ao53, co53, eo53⟩ := Kd.R_slice HO216.out
                              (first | subst eo53 | (injection eo53 with f1_ f2_ f3_; have f4_ := f1_.symm; have f5_ := f3_.symm; clear f1_ f2_ f3_; subst f4_; subst f5_))
                              have p217 : 0 ≤ (0 : Int) := (by omega)
                              have q217 : 0 < (t213.length : Int) := of_decide_eq_true (by first | (with_reducible assumption) | assumption)
                              obtain ⟨ad217, e217, hx217_0, hx217_1⟩ := at_T36 (Kd.R_reads' HO216.out).2.2 0 p217 q217
                              cases e217
                              have qi217 : (0 < t213.length) = True := eq_true (by omega)
                              (try rw [show ((0 : Int)).toNat = 0 from rfl] at hx217_0)
                              (try rw [show 0 * 2 = 0 from rfl] at hx217_0)
                              (try rw [Addr.add_zero'] at hx217_0)
                              (try rw [show ((0 : Int)).toNat = 0 from rfl] at hx217_1)
                              (try rw [show 0 * 2 = 0 from rfl] at hx217_1)
                              (try rw [Addr.add_zero'] at hx217_1)
                              replace p217 := eq_true p217
                              replace q217 := eq_true q217
                              have p218 : 0 ≤ (x7_3 : Int) := of_decide_eq_true (by first | (with_reducible assumption) | assumption)
                              have q218 : x7_3 < (t200.length : Int) := of_decide_eq_true (by first | (with_reducible assumption) | assumption)
                              obtain ⟨ad218, e218, hx218_0, hx218_1⟩ := at_T36 (Kd.R_reads' HO_3.out).2.2 x7_3 p218 q218
                              obtain rfl : ad211 = ad218 := (by injection e218)
                              replace p218 := eq_true p218
                              replace q218 := eq_true q218
                              have p219 : 0 ≤ (x7_3 : Int) := of_decide_eq_true (by first | (with_reducible assumption) | assumption)
                              have q219 : x7_3 < (t200.length : Int) := of_decide_eq_true (by first | (with_reducible assumption) | assumption)
                              obtain ⟨ad219, e219, hx219_0, hx219_1⟩ := at_T36 (Kd.R_reads' HO_3.out).2.2 x7_3 p219 q219
                              obtain rfl : ad211 = ad219 := (by injection e219)
                              replace p219 := eq_true p219
                              replace q219 := eq_true q219
                              refine start_ (n := 25) (S := fun w' => w'.cell? ad217 = some (.int .i64 ((rd_T36 t213 0).f0)) ∧ w'.cell? ⟨ad217.block, ad217.off + 1, none⟩ = some (.int .i64 ((rd_T36 t213 0).f1)) ∧ w'.cell? (ad211.add ((x7_3).toNat * 2)) = some (.int .i64 ((rd_T36 t200 x7_3).f0)) ∧ w'.cell? ⟨(ad211.add ((x7_3).toNat * 2)).block, (ad211.add ((x7_3).toNat * 2)).off + 1, none⟩ = some (.int .i64 ((rd_T36 t200 x7_3).f1)) ∧ w'.cell? (ad211.add ((x7_3).toNat * 2)) = some (.int .i64 ((rd_T36 t200 x7_3).f0)) ∧ w'.cell? ⟨(ad211.add ((x7_3).toNat * 2)).block, (ad211.add ((x7_3).toNat * 2)).off + 1, none⟩ = some (.int .i64 ((rd_T36 t200 x7_3).f1))) (ds := []) #[false, false, false, false, false, false, false, false, false, false, false, false, false, false, false, false, false, false, false, false, false, false, false, false, false] (by kernel_rfl) rfl rfl ⟨hx217_0, hx217_1, hx218_0, hx218_1, hx219_0, hx219_1⟩ (fun hHeld => ?_); refine with_tabW quarrylaw27_StreamCovers.tab24 quarrylaw27_StreamCovers.bits24 (fun HT_ HW_ => ?_)
                              generalize w51.drew = w52 at HO_3 HO216 HB hx217_0 hx217_1 hx218_0 hx218_1 hx219_0 hx219_1 hHeld ⊢
                              refine pure_ (i := 0) (N := some 103) (v := ?_) (a' := ?_) #[true, false, false, false, false, false, false, false, false, false, false, false, false, false, false, false, false, false, false, false, false, false, false, false, false] rfl rfl (any_of HT_.out (by kernel_rfl)) (fun _ _ _ h => h) (Or.inl ⟨by rfl, ?_⟩) ?_ ?_
                              rotate_left
                              ·intro w'
                               go_simp
                               with_reducible rfl
                              rotate_left
                              ·simp only [Act.put, zA, zB, zC, i64_w, i32_w]
                               rfl
                              refine pure_ (i := 1) (N := some 104) (v := ?_) (a' := ?_) #[true, true, false, false, false, false, false, false, false, false, false, false, false, false, false, false, false, false, false, false, false, false, false, false, false] rfl rfl (any_of HT_.out (by kernel_rfl)) (fun _ _ _ h => h) (Or.inl ⟨by rfl, ?_⟩) ?_ ?_
                              rotate_left
                              ·intro w'
                               go_simp
                               with_reducible rfl
                              rotate_left
                              ·simp only [Act.put, zA, zB, zC, i64_w, i32_w]
                               rfl
                              refine pure_ (i := 2) (N := some 105) (v := ?_) (a' := ?_) #[true, true, true, false, false, false, false, false, false, false, false, false, false, false, false, false, false, false, false, false, false, false, false, false, false] rfl rfl (any_of HT_.out (by kernel_rfl)) (fun _ _ _ h => h) (Or.inl ⟨by rfl, ?_⟩) ?_ ?_
                              rotate_left
                              ·intro w'
                               go_simp
                               with_reducible rfl
                              rotate_left
                              ·simp only [Act.put, zA, zB, zC, i64_w, i32_w]
                               rfl
                              refine pure_ (i := 3) (N := some 106) (v := ?_) (a' := ?_) #[true, true, true, true, false, false, false, false, false, false, false, false, false, false, false, false, false, false, false, false, false, false, false, false, false] rfl rfl (any_of HT_.out (by kernel_rfl)) (fun _ _ _ h => h) (Or.inl ⟨by rfl, ?_⟩) ?_ ?_
                              rotate_left
                              ·intro w'
                               go_simp
                               with_reducible rfl
                              rotate_left
                              ·simp only [Act.put, zA, zB, zC, i64_w, i32_w]
                               rfl
                              refine pure_ (i := 4) (N := some 107) (v := ?_) (a' := ?_) #[true, true, true, true, true, false, false, false, false, false, false, false, false, false, false, false, false, false, false, false, false, false, false, false, false] rfl rfl (any_of HT_.out (by kernel_rfl)) (fun _ _ _ h => h) (Or.inl ⟨by rfl, ?_⟩) ?_ ?_
                              rotate_left
                              ·intro w'
                               go_simp
                               with_reducible rfl
                              rotate_left
                              ·simp only [Act.put, zA, zB, zC, i64_w, i32_w]
                               rfl
                              refine pure_ (i := 5) (N := some 108) (v := ?_) (a' := ?_) #[true, true, true, true, true, true, false, false, false, false, false, false, false, false, false, false, false, false, false, false, false, false, false, false, false] rfl rfl (any_of HT_.out (by kernel_rfl)) (fun _ _ _ h => h) (Or.inl ⟨by rfl, ?_⟩) ?_ ?_
                              rotate_left
                              ·intro w'
                               go_simp
                               with_reducible rfl
                              rotate_left
                              ·simp only [Act.put, zA, zB, zC, i64_w, i32_w]
                               rfl
                              refine pure_ (i := 6) (N := some 109) (v := ?_) (a' := ?_) #[true, true, true, true, true, true, true, false, false, false, false, false, false, false, false, false, false, false, false, false, false, false, false, false, false] rfl rfl (any_of HT_.out (by kernel_rfl)) (fun _ _ _ h => h) (Or.inl ⟨by rfl, ?_⟩) ?_ ?_
                              rotate_left
                              ·intro w'
                               go_simp
                               with_reducible rfl
                              rotate_left
                              ·simp only [Act.put, zA, zB, zC, i64_w, i32_w]
                               rfl
                              refine pure_ (i := 7) (N := some 110) (v := ?_) (a' := ?_) #[true, true, true, true, true, true, true, true, false, false, false, false, false, false, false, false, false, false, false, false, false, false, false, false, false] rfl rfl (any_of HT_.out (by kernel_rfl)) (fun _ _ _ h => h) (Or.inl ⟨by rfl, ?_⟩) ?_ ?_
                              rotate_left
                              ·intro w'
                               go_simp
                               with_reducible rfl
                              rotate_left
                              ·simp only [Act.put, zA, zB, zC, i64_w, i32_w]
                               rfl
                              refine pure_ (i := 8) (N := some 111) (v := ?_) (a' := ?_) #[true, true, true, true, true, true, true, true, true, false, false, false, false, false, false, false, false, false, false, false, false, false, false, false, false] rfl rfl (any_of HT_.out (by kernel_rfl)) (fun _ _ _ h => h) (Or.inl ⟨by rfl, ?_⟩) ?_ ?_
                              rotate_left
                              ·intro w'
                               go_simp
                               with_reducible rfl
                              rotate_left
                              ·simp only [Act.put, zA, zB, zC, i64_w, i32_w]
                               rfl
                              refine pure_ (i := 9) (N := some 112) (v := ?_) (a' := ?_) #[true, true, true, true, true, true, true, true, true, true, false, false, false, false, false, false, false, false, false, false, false, false, false, false, false] rfl rfl (any_of HT_.out (by kernel_rfl)) (fun _ _ _ h => h) (Or.inl ⟨by rfl, ?_⟩) ?_ ?_
                              rotate_left
                              ·intro w'
                               go_simp
                               with_reducible rfl
                              rotate_left
                              ·simp only [Act.put, zA, zB, zC, i64_w, i32_w]
                               rfl
                              refine pure_ (i := 11) (N := some 114) (v := ?_) (a' := ?_) #[true, true, true, true, true, true, true, true, true, true, false, true, false, false, false, false, false, false, false, false, false, false, false, false, false] rfl rfl (any_of HT_.out (by kernel_rfl)) (fun _ _ _ h => h) (Or.inl ⟨by rfl, ?_⟩) ?_ ?_
                              rotate_left
                              ·intro w'
                               go_simp
                               with_reducible rfl
                              rotate_left
                              ·simp only [Act.put, zA, zB, zC, i64_w, i32_w]
                               rfl
                              refine pure_ (i := 12) (N := some 115) (v := ?_) (a' := ?_) #[true, true, true, true, true, true, true, true, true, true, false, true, true, false, false, false, false, false, false, false, false, false, false, false, false] rfl rfl (any_of HT_.out (by kernel_rfl)) (fun _ _ _ h => h) (Or.inl ⟨by rfl, ?_⟩) ?_ ?_
                              rotate_left
                              ·intro w'
                               go_simp
                               with_reducible rfl
                              rotate_left
                              ·simp only [Act.put, zA, zB, zC, i64_w, i32_w]
                               rfl
                              refine pure_ (i := 13) (N := some 116) (v := ?_) (a' := ?_) #[true, true, true, true, true, true, true, true, true, true, false, true, true, true, false, false, false, false, false, false, false, false, false, false, false] rfl rfl (any_of HT_.out (by kernel_rfl)) (fun _ _ _ h => h) (Or.inl ⟨by rfl, ?_⟩) ?_ ?_
                              rotate_left
                              ·intro w'
                               go_simp
                               with_reducible rfl
                              rotate_left
                              ·simp only [Act.put, zA, zB, zC, i64_w, i32_w]
                               rfl
                              refine pure_ (i := 14) (N := some 117) (v := ?_) (a' := ?_) #[true, true, true, true, true, true, true, true, true, true, false, true, true, true, true, false, false, false, false, false, false, false, false, false, false] rfl rfl (any_of HT_.out (by kernel_rfl)) (fun _ _ _ h => h) (Or.inl ⟨by rfl, ?_⟩) ?_ ?_
                              rotate_left
                              ·intro w'
                               go_simp
                               with_reducible rfl
                              rotate_left
                              ·simp only [Act.put, zA, zB, zC, i64_w, i32_w]
                               rfl
                              refine pure_ (i := 16) (N := some 119) (v := ?_) (a' := ?_) #[true, true, true, true, true, true, true, true, true, true, false, true, true, true, true, false, true, false, false, false, false, false, false, false, false] rfl rfl (any_of HT_.out (by kernel_rfl)) (fun _ _ _ h => h) (Or.inl ⟨by rfl, ?_⟩) ?_ ?_
                              rotate_left
                              ·intro w'
                               go_simp
                               with_reducible rfl
                              rotate_left
                              ·simp only [Act.put, zA, zB, zC, i64_w, i32_w]
                               rfl
                              refine pure_ (i := 17) (N := some 120) (v := ?_) (a' := ?_) #[true, true, true, true, true, true, true, true, true, true, false, true, true, true, true, false, true, true, false, false, false, false, false, false, false] rfl rfl (any_of HT_.out (by kernel_rfl)) (fun _ _ _ h => h) (Or.inl ⟨by rfl, ?_⟩) ?_ ?_
                              rotate_left
                              ·intro w'
                               go_simp
                               with_reducible rfl
                              rotate_left
                              ·simp only [Act.put, zA, zB, zC, i64_w, i32_w]
                               rfl
                              refine pure_ (i := 18) (N := some 121) (v := ?_) (a' := ?_) #[true, true, true, true, true, true, true, true, true, true, false, true, true, true, true, false, true, true, true, false, false, false, false, false, false] rfl rfl (any_of HT_.out (by kernel_rfl)) (fun _ _ _ h => h) (Or.inl ⟨by rfl, ?_⟩) ?_ ?_
                              rotate_left
                              ·intro w'
                               go_simp
                               with_reducible rfl
                              rotate_left
                              ·simp only [Act.put, zA, zB, zC, i64_w, i32_w]
                               rfl
                              refine pure_ (i := 19) (N := some 122) (v := ?_) (a' := ?_) #[true, true, true, true, true, true, true, true, true, true, false, true, true, true, true, false, true, true, true, true, false, false, false, false, false] rfl rfl (any_of HT_.out (by kernel_rfl)) (fun _ _ _ h => h) (Or.inl ⟨by rfl, ?_⟩) ?_ ?_
                              rotate_left
                              ·intro w'
                               go_simp
                               with_reducible rfl
                              rotate_left
                              ·simp only [Act.put, zA, zB, zC, i64_w, i32_w]
                               rfl
                              refine take_ (i := 10) (N := some 113) (v := ?_) (a' := ?_) #[true, true, true, true, true, true, true, true, true, true, true, true, true, true, true, false, true, true, true, true, false, false, false, false, false] rfl rfl (take_ofW HT_.out HW_.out (by kernel_rfl)) (fun _ _ _ h => h) (Or.inl ⟨by rfl, ?_⟩) hHeld ?_ ?_
                              rotate_left
                              ·rintro w' ⟨s0, s1, s2, s3, s4, s5⟩
                               go_simp
                               with_reducible rfl
                              rotate_left
                              ·simp only [Act.put, zA, zB, zC, i64_w, i32_w]
                               rfl
                              refine take_ (i := 15) (N := some 118) (v := ?_) (a' := ?_) #[true, true, true, true, true, true, true, true, true, true, true, true, true, true, true, true, true, true, true, true, false, false, false, false, false] rfl rfl (take_ofW HT_.out HW_.out (by kernel_rfl)) (fun _ _ _ h => h) (Or.inl ⟨by rfl, ?_⟩) hHeld ?_ ?_
                              rotate_left
                              ·rintro w' ⟨s0, s1, s2, s3, s4, s5⟩
                               go_simp
                               with_reducible rfl
                              rotate_left
                              ·simp only [Act.put, zA, zB, zC, i64_w, i32_w]
                               rfl
                              refine take_ (i := 20) (N := some 123) (v := ?_) (a' := ?_) #[true, true, true, true, true, true, true, true, true, true, true, true, true, true, true, true, true, true, true, true, true, false, false, false, false] rfl rfl (take_ofW HT_.out HW_.out (by kernel_rfl)) (fun _ _ _ h => h) (Or.inl ⟨by rfl, ?_⟩) hHeld ?_ ?_
                              rotate_left
                              ·rintro w' ⟨s0, s1, s2, s3, s4, s5⟩
                               go_simp
                               with_reducible rfl
                              rotate_left
                              ·simp only [Act.put, zA, zB, zC, i64_w, i32_w]
                               rfl
                              refine pure_ (i := 21) (N := some 124) (v := ?_) (a' := ?_) #[true, true, true, true, true, true, true, true, true, true, true, true, true, true, true, true, true, true, true, true, true, true, false, false, false] rfl rfl (any_of HT_.out (by kernel_rfl)) (fun _ _ _ h => h) (Or.inl ⟨by rfl, ?_⟩) ?_ ?_
                              rotate_left
                              ·intro w'
                               go_simp
                               with_reducible rfl
                              rotate_left
                              ·simp only [Act.put, zA, zB, zC, i64_w, i32_w]
                               rfl
                              refine pure_ (i := 22) (N := some 125) (v := ?_) (a' := ?_) #[true, true, true, true, true, true, true, true, true, true, true, true, true, true, true, true, true, true, true, true, true, true, true, false, false] rfl rfl (any_of HT_.out (by kernel_rfl)) (fun _ _ _ h => h) (Or.inl ⟨by rfl, ?_⟩) ?_ ?_
                              rotate_left
                              ·intro w'
                               go_simp
                               with_reducible rfl
                              rotate_left
                              ·simp only [Act.put, zA, zB, zC, i64_w, i32_w]
                               rfl
                              refine pure_ (i := 23) (N := some 126) (v := ?_) (a' := ?_) #[true, true, true, true, true, true, true, true, true, true, true, true, true, true, true, true, true, true, true, true, true, true, true, true, false] rfl rfl (any_of HT_.out (by kernel_rfl)) (fun _ _ _ h => h) (Or.inl ⟨by rfl, ?_⟩) ?_ ?_
                              rotate_left
                              ·intro w'
                               go_simp
                               with_reducible rfl
                              rotate_left
                              ·simp only [Act.put, zA, zB, zC, i64_w, i32_w]
                               rfl
                              refine pure_ (i := 24) (N := some 127) (v := ?_) (a' := ?_) #[true, true, true, true, true, true, true, true, true, true, true, true, true, true, true, true, true, true, true, true, true, true, true, true, true] rfl rfl (any_of HT_.out (by kernel_rfl)) (fun _ _ _ h => h) (Or.inl ⟨by rfl, ?_⟩) ?_ ?_
                              rotate_left
                              ·intro w'
                               go_simp
                               with_reducible rfl
                              rotate_left
                              ·simp only [Act.put, zA, zB, zC, i64_w, i32_w]
                               rfl
                              refine done_ (done_of HT_.out (by kernel_rfl)) ?_
                              have p220 : 0 ≤ (x7_3 : Int) := of_decide_eq_true (by first | (with_reducible assumption) | assumption)
                              have q220 : x7_3 < (t200.length : Int) := of_decide_eq_true (by first | (with_reducible assumption) | assumption)
                              obtain ⟨ad220, e220, hx220_0, hx220_1⟩ := at_T36 (Kd.R_reads' HO_3.out).2.2 x7_3 p220 q220
                              obtain rfl : ad211 = ad220 := (by injection e220)
                              replace p220 := eq_true p220
                              replace q220 := eq_true q220
                              try go_wp2
                              go_roundg kj28
                              case measure => have := HJ2.out; have := HJ5.out; have := HK3.out; have := HJ9.out; have := HJ13.out; have := HK6.out; have := HJ28.out; omega
                              case rel => exact ⟨((rd_T36 t200 x7_3).f1), (wrap64 (x7_3 + 1)), (by first | rfl | (simp; done) | (simp [*]; done)), (by first | rfl | (simp; done) | (simp [*]; done)), H', ⟨by have := HJ2.out; have := HJ5.out; have := HK3.out; have := HJ9.out; have := HJ13.out; have := HK6.out; have := HJ28.out; omega⟩, ⟨by (with_reducible repeat (first | apply zG | apply zH | apply zI)); exact Kd.R_mono HO_3.out (fun _ hk => trivial)⟩, ⟨by repeat (first | (with_reducible first | exact HB.out | apply zQ | apply zN | apply zO) | exact HB.out)⟩⟩
                            ·rw [if_neg c44] at H
                             exact absurd H (by simp)
                           ·rw [if_neg c43] at H
                            have c43b0 : ((t213.length : Int) == 1) = false := beq_eq_false_iff_ne.mpr c43
                            have c43b1 : ((t213.length : Int) != 1) = true := bne_iff_ne.mpr c43
                            obtain rfl := Option.some.inj H
                            try go_wp2
                            have n0_ := zS (zI HO_3.out)
                            have n1_ := zS (zO HB.out)
                            clear HO_3
                            clear HB
                            have HO_3 := n0_
                            have HB := n1_
                            clear n0_ n1_
                            have p211 : 0 ≤ (x7_3 : Int) := of_decide_eq_true (by first | (with_reducible assumption) | assumption)
                            have q211 : x7_3 < (t200.length : Int) := of_decide_eq_true (by first | (with_reducible assumption) | assumption)
                            obtain ⟨ad211, e211, hx211_0, hx211_1⟩ := at_T36 (Kd.R_reads' HO_3.out).2.2 x7_3 p211 q211
                            cases e211
                            replace p211 := eq_true p211
                            replace q211 := eq_true q211
                            have p212 : 0 ≤ (x7_3 : Int) := of_decide_eq_true (by first | (with_reducible assumption) | assumption)
                            have q212 : x7_3 < (t200.length : Int) := of_decide_eq_true (by first | (with_reducible assumption) | assumption)
                            obtain ⟨ad212, e212, hx212_0, hx212_1⟩ := at_T36 (Kd.R_reads' HO_3.out).2.2 x7_3 p212 q212
                            obtain rfl : ad211 = ad212 := (by injection e212)
                            replace p212 := eq_true p212
                            replace q212 := eq_true q212
                            refine start_ (n := 18) (S := fun w' => w'.cell? (ad211.add ((x7_3).toNat * 2)) = some (.int .i64 ((rd_T36 t200 x7_3).f0)) ∧ w'.cell? ⟨(ad211.add ((x7_3).toNat * 2)).block, (ad211.add ((x7_3).toNat * 2)).off + 1, none⟩ = some (.int .i64 ((rd_T36 t200 x7_3).f1)) ∧ w'.cell? (ad211.add ((x7_3).toNat * 2)) = some (.int .i64 ((rd_T36 t200 x7_3).f0)) ∧ w'.cell? ⟨(ad211.add ((x7_3).toNat * 2)).block, (ad211.add ((x7_3).toNat * 2)).off + 1, none⟩ = some (.int .i64 ((rd_T36 t200 x7_3).f1))) (ds := []) #[false, false, false, false, false, false, false, false, false, false, false, false, false, false, false, false, false, false] (by kernel_rfl) rfl rfl ⟨hx211_0, hx211_1, hx212_0, hx212_1⟩ (fun hHeld => ?_); refine with_tabW quarrylaw27_StreamCovers.tab23 quarrylaw27_StreamCovers.bits23 (fun HT_ HW_ => ?_)
                            generalize wc.drew = w54 at HO_3 HB hx211_0 hx211_1 hx212_0 hx212_1 hHeld ⊢
                            refine pure_ (i := 0) (N := some 88) (v := ?_) (a' := ?_) #[true, false, false, false, false, false, false, false, false, false, false, false, false, false, false, false, false, false] rfl rfl (any_of HT_.out (by kernel_rfl)) (fun _ _ _ h => h) (Or.inl ⟨by rfl, ?_⟩) ?_ ?_
                            rotate_left
                            ·intro w'
                             go_simp
                             with_reducible rfl
                            rotate_left
                            ·simp only [Act.put, zA, zB, zC, i64_w, i32_w]
                             rfl
                            refine pure_ (i := 1) (N := some 89) (v := ?_) (a' := ?_) #[true, true, false, false, false, false, false, false, false, false, false, false, false, false, false, false, false, false] rfl rfl (any_of HT_.out (by kernel_rfl)) (fun _ _ _ h => h) (Or.inl ⟨by rfl, ?_⟩) ?_ ?_
                            rotate_left
                            ·intro w'
                             go_simp
                             with_reducible rfl
                            rotate_left
                            ·simp only [Act.put, zA, zB, zC, i64_w, i32_w]
                             rfl
                            refine pure_ (i := 2) (N := some 90) (v := ?_) (a' := ?_) #[true, true, true, false, false, false, false, false, false, false, false, false, false, false, false, false, false, false] rfl rfl (any_of HT_.out (by kernel_rfl)) (fun _ _ _ h => h) (Or.inl ⟨by rfl, ?_⟩) ?_ ?_
                            rotate_left
                            ·intro w'
                             go_simp
                             with_reducible rfl
                            rotate_left
                            ·simp only [Act.put, zA, zB, zC, i64_w, i32_w]
                             rfl
                            refine pure_ (i := 3) (N := some 91) (v := ?_) (a' := ?_) #[true, true, true, true, false, false, false, false, false, false, false, false, false, false, false, false, false, false] rfl rfl (any_of HT_.out (by kernel_rfl)) (fun _ _ _ h => h) (Or.inl ⟨by rfl, ?_⟩) ?_ ?_
                            rotate_left
                            ·intro w'
                             go_simp
                             with_reducible rfl
                            rotate_left
                            ·simp only [Act.put, zA, zB, zC, i64_w, i32_w]
                             rfl
                            refine pure_ (i := 4) (N := some 92) (v := ?_) (a' := ?_) #[true, true, true, true, true, false, false, false, false, false, false, false, false, false, false, false, false, false] rfl rfl (any_of HT_.out (by kernel_rfl)) (fun _ _ _ h => h) (Or.inl ⟨by rfl, ?_⟩) ?_ ?_
                            rotate_left
                            ·intro w'
                             go_simp
                             with_reducible rfl
                            rotate_left
                            ·simp only [Act.put, zA, zB, zC, i64_w, i32_w]
                             rfl
                            refine pure_ (i := 6) (N := some 94) (v := ?_) (a' := ?_) #[true, true, true, true, true, false, true, false, false, false, false, false, false, false, false, false, false, false] rfl rfl (any_of HT_.out (by kernel_rfl)) (fun _ _ _ h => h) (Or.inl ⟨by rfl, ?_⟩) ?_ ?_
                            rotate_left
                            ·intro w'
                             go_simp
                             with_reducible rfl
                            rotate_left
                            ·simp only [Act.put, zA, zB, zC, i64_w, i32_w]
                             rfl
                            refine pure_ (i := 7) (N := some 95) (v := ?_) (a' := ?_) #[true, true, true, true, true, false, true, true, false, false, false, false, false, false, false, false, false, false] rfl rfl (any_of HT_.out (by kernel_rfl)) (fun _ _ _ h => h) (Or.inl ⟨by rfl, ?_⟩) ?_ ?_
                            rotate_left
                            ·intro w'
                             go_simp
                             with_reducible rfl
                            rotate_left
                            ·simp only [Act.put, zA, zB, zC, i64_w, i32_w]
                             rfl
                            refine pure_ (i := 8) (N := some 96) (v := ?_) (a' := ?_) #[true, true, true, true, true, false, true, true, true, false, false, false, false, false, false, false, false, false] rfl rfl (any_of HT_.out (by kernel_rfl)) (fun _ _ _ h => h) (Or.inl ⟨by rfl, ?_⟩) ?_ ?_
                            rotate_left
                            ·intro w'
                             go_simp
                             with_reducible rfl
                            rotate_left
                            ·simp only [Act.put, zA, zB, zC, i64_w, i32_w]
                             rfl
                            refine pure_ (i := 9) (N := some 97) (v := ?_) (a' := ?_) #[true, true, true, true, true, false, true, true, true, true, false, false, false, false, false, false, false, false] rfl rfl (any_of HT_.out (by kernel_rfl)) (fun _ _ _ h => h) (Or.inl ⟨by rfl, ?_⟩) ?_ ?_
                            rotate_left
                            ·intro w'
                             go_simp
                             with_reducible rfl
                            rotate_left
                            ·simp only [Act.put, zA, zB, zC, i64_w, i32_w]
                             rfl
                            refine take_ (i := 5) (N := some 93) (v := ?_) (a' := ?_) #[true, true, true, true, true, true, true, true, true, true, false, false, false, false, false, false, false, false] rfl rfl (take_ofW HT_.out HW_.out (by kernel_rfl)) (fun _ _ _ h => h) (Or.inl ⟨by rfl, ?_⟩) hHeld ?_ ?_
                            rotate_left
                            ·rintro w' ⟨s0, s1, s2, s3⟩
                             go_simp
                             with_reducible rfl
                            rotate_left
                            ·simp only [Act.put, zA, zB, zC, i64_w, i32_w]
                             rfl
                            refine take_ (i := 10) (N := some 98) (v := ?_) (a' := ?_) #[true, true, true, true, true, true, true, true, true, true, true, false, false, false, false, false, false, false] rfl rfl (take_ofW HT_.out HW_.out (by kernel_rfl)) (fun _ _ _ h => h) (Or.inl ⟨by rfl, ?_⟩) hHeld ?_ ?_
                            rotate_left
                            ·rintro w' ⟨s0, s1, s2, s3⟩
                             go_simp
                             with_reducible rfl
                            rotate_left
                            ·simp only [Act.put, zA, zB, zC, i64_w, i32_w]
                             rfl
                            refine pure_ (i := 11) (N := some 99) (v := ?_) (a' := ?_) #[true, true, true, true, true, true, true, true, true, true, true, true, false, false, false, false, false, false] rfl rfl (any_of HT_.out (by kernel_rfl)) (fun _ _ _ h => h) (Or.inl ⟨by rfl, ?_⟩) ?_ ?_
                            rotate_left
                            ·intro w'
                             go_simp
                             with_reducible rfl
                            rotate_left
                            ·simp only [Act.put, zA, zB, zC, i64_w, i32_w]
                             rfl
                            refine one_ (i := 12) (N := some 100) #[true, true, true, true, true, true, true, true, true, true, true, true, true, false, false, false, false, false] rfl rfl (one_of HT_.out (by kernel_rfl)) (by decide) (fun K hK => ?_)
                            refine goes_ Tryd.func10 (by kernel_rfl) rfl #[.string (a0.extract (((rd_T36 t200 x7_3).f0) : Int).toNat (((rd_T36 t200 x7_3).f1) : Int).toNat)] (by rfl) rfl rfl (by (try simp only [List.map_toArray, List.map_cons, List.map_nil]); first | done | rfl | (simp only [List.length_drop, List.length_take]; rfl)) ?_
                            with_reducible refine (stream_Split.calls (a0.extract (((rd_T36 t200 x7_3).f0) : Int).toNat (((rd_T36 t200 x7_3).f1) : Int).toNat) t213 t214 _ ?tabk A41.out).mono ?_
                            (case tabk => exact TK_.out.step (by repeat (first | (with_reducible first | exact HB.out | apply zQ | apply zN | apply zO) | exact HB.out)))
                            rintro e w55 ⟨v215, rfl, ho0, hb⟩
                            have HS0_ := (hb.cell (World.block_lt_of_cell? _ _ (hHeld.1))).trans (hHeld.1)
                            have HS1_ := (hb.cell (World.block_lt_of_cell? _ _ (hHeld.2.1))).trans (hHeld.2.1)
                            have HS2_ := (hb.cell (World.block_lt_of_cell? _ _ (hHeld.2.2.1))).trans (hHeld.2.2.1)
                            have HS3_ := (hb.cell (World.block_lt_of_cell? _ _ (hHeld.2.2.2))).trans (hHeld.2.2.2)
                            refine ⟨_, rfl, ?_⟩
                            have n0_ := zS (Kd.R_elder' (by (with_reducible repeat (first | apply zG | apply zH | apply zI)); exact HO_3.out) (Kd.R_base ho0) hb)
                            have n1_ := zS (Kd.R_lower (Kd.R_new' ho0 (Kd.R_lt (by (with_reducible repeat (first | apply zG | apply zH | apply zI)); exact HO_3.out))) (below_size (by repeat (first | (with_reducible first | exact HB.out | apply zQ | apply zN | apply zO) | exact HB.out))))
                            have n2_ := zS (below_step (by repeat (first | (with_reducible first | exact HB.out | apply zQ | apply zN | apply zO) | exact HB.out)) hb)
                            clear HO_3
                            clear HB
                            have HO_3 := n0_
                            have HO216 := n1_
                            have HB := n2_
                            clear n0_ n1_ n2_
                            (try clear hb)
                            (try clear hb2)
                            (try clear hk)
                            (try clear hi)
                            (try clear ho0)
                            refine hK.out _ _ ⟨HS0_, HS1_, HS2_, HS3_⟩ (fun hHeld => ?_)
                            clear hK K
                            refine norm_ (a' := ?_) ?_ ?_
                            rotate_left
                            ·show Act.put _ (some 100) _ = _
                             simp only [Act.put, zA, zB, zC, i64_w, i32_w]
                             rfl
                            refine pure_ (i := 13) (N := some 87) (v := ?_) (a' := ?_) #[true, true, true, true, true, true, true, true, true, true, true, true, true, true, false, false, false, false] rfl rfl (any_of HT_.out (by kernel_rfl)) (fun _ _ _ h => h) (Or.inl ⟨by rfl, ?_⟩) ?_ ?_
                            rotate_left
                            ·intro w'
                             go_simp
                             with_reducible rfl
                            rotate_left
                            ·simp only [Act.put, zA, zB, zC, i64_w, i32_w]
                             rfl
                            refine pure_ (i := 14) (N := some 101) (v := ?_) (a' := ?_) #[true, true, true, true, true, true, true, true, true, true, true, true, true, true, true, false, false, false] rfl rfl (any_of HT_.out (by kernel_rfl)) (fun _ _ _ h => h) (Or.inl ⟨by rfl, ?_⟩) ?_ ?_
                            rotate_left
                            ·intro w'
                             go_simp
                             with_reducible rfl
                            rotate_left
                            ·simp only [Act.put, zA, zB, zC, i64_w, i32_w]
                             rfl
                            refine pure_ (i := 15) (N := some 102) (v := ?_) (a' := ?_) #[true, true, true, true, true, true, true, true, true, true, true, true, true, true, true, true, false, false] rfl rfl (any_of HT_.out (by kernel_rfl)) (fun _ _ _ h => h) (Or.inl ⟨by rfl, ?_⟩) ?_ ?_
                            rotate_left
                            ·intro w'
                             go_simp
                             with_reducible rfl
                            rotate_left
                            ·simp only [Act.put, zA, zB, zC, i64_w, i32_w]
                             rfl
                            refine pure_ (i := 16) (N := some 9) (v := ?_) (a' := ?_) #[true, true, true, true, true, true, true, true, true, true, true, true, true, true, true, true, true, false] rfl rfl (any_of HT_.out (by kernel_rfl)) (fun _ _ _ h => h) (Or.inl ⟨by rfl, ?_⟩) ?_ ?_
                            rotate_left
                            ·intro w'
                             go_simp
                             with_reducible rfl
                            rotate_left
                            ·simp only [Act.put, zA, zB, zC, i64_w, i32_w]
                             rfl
                            refine pure_ (i := 17) (N := some 10) (v := ?_) (a' := ?_) #[true, true, true, true, true, true, true, true, true, true, true, true, true, true, true, true, true, true] rfl rfl (any_of HT_.out (by kernel_rfl)) (fun _ _ _ h => h) (Or.inl ⟨by rfl, ?_⟩) ?_ ?_
                            rotate_left
                            ·intro w'
                             go_simp
                             with_reducible rfl
                            rotate_left
                            ·simp only [Act.put, zA, zB, zC, i64_w, i32_w]
                             rfl
                            refine done_ (done_of HT_.out (by kernel_rfl)) ?_
                            try go_wp2
                            have n0_ := zS (zI HO_3.out)
                            have n1_ := zS (zI HO216.out)
                            have n2_ := zS (zO HB.out)
                            clear HO_3
                            clear HO216
                            clear HB
                            have HO_3 := n0_
                            have HO216 := n1_
                            have HB := n2_
                            clear n0_ n1_ n2_
                            obtain ⟨Ao57, co57, eo57⟩ := Kd.R_slice HO216.out
                            (first | subst eo57 | (injection eo57 with f1_ f2_ f3_; have f4_ := f1_.symm; have f5_ := f3_.symm; clear f1_ f2_ f3_; subst f4_; subst f5_))
                            refine start_ (n := 25) (S := fun w' => True) (ds := []) #[false, false, false, false, false, false, false, false, false, false, false, false, false, false, false, false, false, false, false, false, false, false, false, false, false] (by kernel_rfl) rfl rfl trivial (fun hHeld => ?_); refine with_tabW quarrylaw27_StreamCovers.tab24 quarrylaw27_StreamCovers.bits24 (fun HT_ HW_ => ?_)
                            generalize w55.drew = w56 at HO_3 HO216 HB hHeld ⊢
                            refine pure_ (i := 0) (N := some 103) (v := ?_) (a' := ?_) #[true, false, false, false, false, false, false, false, false, false, false, false, false, false, false, false, false, false, false, false, false, false, false, false, false] rfl rfl (any_of HT_.out (by kernel_rfl)) (fun _ _ _ h => h) (Or.inl ⟨by rfl, ?_⟩) ?_ ?_
                            rotate_left
                            ·intro w'
                             go_simp
                             with_reducible rfl
                            rotate_left
                            ·simp only [Act.put, zA, zB, zC, i64_w, i32_w]
                             rfl
                            refine pure_ (i := 1) (N := some 104) (v := ?_) (a' := ?_) #[true, true, false, false, false, false, false, false, false, false, false, false, false, false, false, false, false, false, false, false, false, false, false, false, false] rfl rfl (any_of HT_.out (by kernel_rfl)) (fun _ _ _ h => h) (Or.inl ⟨by rfl, ?_⟩) ?_ ?_
                            rotate_left
                            ·intro w'
                             go_simp
                             with_reducible rfl
                            rotate_left
                            ·simp only [Act.put, zA, zB, zC, i64_w, i32_w]
                             rfl
                            refine pure_ (i := 2) (N := some 105) (v := ?_) (a' := ?_) #[true, true, true, false, false, false, false, false, false, false, false, false, false, false, false, false, false, false, false, false, false, false, false, false, false] rfl rfl (any_of HT_.out (by kernel_rfl)) (fun _ _ _ h => h) (Or.inl ⟨by rfl, ?_⟩) ?_ ?_
                            rotate_left
                            ·intro w'
                             go_simp
                             with_reducible rfl
                            rotate_left
                            ·simp only [Act.put, zA, zB, zC, i64_w, i32_w]
                             rfl
                            refine pure_ (i := 3) (N := some 106) (v := ?_) (a' := ?_) #[true, true, true, true, false, false, false, false, false, false, false, false, false, false, false, false, false, false, false, false, false, false, false, false, false] rfl rfl (any_of HT_.out (by kernel_rfl)) (fun _ _ _ h => h) (Or.inl ⟨by rfl, ?_⟩) ?_ ?_
                            rotate_left
                            ·intro w'
                             go_simp
                             with_reducible rfl
                            rotate_left
                            ·simp only [Act.put, zA, zB, zC, i64_w, i32_w]
                             rfl
                            refine pure_ (i := 4) (N := some 107) (v := ?_) (a' := ?_) #[true, true, true, true, true, false, false, false, false, false, false, false, false, false, false, false, false, false, false, false, false, false, false, false, false] rfl rfl (any_of HT_.out (by kernel_rfl)) (fun _ _ _ h => h) (Or.inl ⟨by rfl, ?_⟩) ?_ ?_
                            rotate_left
                            ·intro w'
                             go_simp
                             with_reducible rfl
                            rotate_left
                            ·simp only [Act.put, zA, zB, zC, i64_w, i32_w]
                             rfl
                            refine pure_ (i := 5) (N := some 108) (v := ?_) (a' := ?_) #[true, true, true, true, true, true, false, false, false, false, false, false, false, false, false, false, false, false, false, false, false, false, false, false, false] rfl rfl (any_of HT_.out (by kernel_rfl)) (fun _ _ _ h => h) (Or.inl ⟨by rfl, ?_⟩) ?_ ?_
                            rotate_left
                            ·intro w'
                             go_simp
                             with_reducible rfl
                            rotate_left
                            ·simp only [Act.put, zA, zB, zC, i64_w, i32_w]
                             rfl
                            refine pure_ (i := 6) (N := some 109) (v := ?_) (a' := ?_) #[true, true, true, true, true, true, true, false, false, false, false, false, false, false, false, false, false, false, false, false, false, false, false, false, false] rfl rfl (any_of HT_.out (by kernel_rfl)) (fun _ _ _ h => h) (Or.inl ⟨by rfl, ?_⟩) ?_ ?_
                            rotate_left
                            ·intro w'
                             go_simp
                             with_reducible rfl
                            rotate_left
                            ·simp only [Act.put, zA, zB, zC, i64_w, i32_w]
                             rfl
                            refine pure_ (i := 7) (N := some 110) (v := ?_) (a' := ?_) #[true, true, true, true, true, true, true, true, false, false, false, false, false, false, false, false, false, false, false, false, false, false, false, false, false] rfl rfl (any_of HT_.out (by kernel_rfl)) (fun _ _ _ h => h) (Or.inl ⟨by rfl, ?_⟩) ?_ ?_
                            rotate_left
                            ·intro w'
                             go_simp
                             with_reducible rfl
                            rotate_left
                            ·simp only [Act.put, zA, zB, zC, i64_w, i32_w]
                             rfl
                            refine pure_ (i := 8) (N := some 111) (v := undef) (a' := ?_) #[true, true, true, true, true, true, true, true, true, false, false, false, false, false, false, false, false, false, false, false, false, false, false, false, false] rfl rfl (any_of HT_.out (by kernel_rfl)) (fun _ _ _ h => h) (Or.inr ⟨by rfl, rfl⟩) ?_ ?_
                            rotate_left
                            ·simp only [Act.put, zA, zB, zC, i64_w, i32_w]
                             rfl
                            refine pure_ (i := 9) (N := some 112) (v := undef) (a' := ?_) #[true, true, true, true, true, true, true, true, true, true, false, false, false, false, false, false, false, false, false, false, false, false, false, false, false] rfl rfl (any_of HT_.out (by kernel_rfl)) (fun _ _ _ h => h) (Or.inr ⟨by rfl, rfl⟩) ?_ ?_
                            rotate_left
                            ·simp only [Act.put, zA, zB, zC, i64_w, i32_w]
                             rfl
                            refine pure_ (i := 10) (N := some 113) (v := undef) (a' := ?_) #[true, true, true, true, true, true, true, true, true, true, true, false, false, false, false, false, false, false, false, false, false, false, false, false, false] rfl rfl (any_of HT_.out (by kernel_rfl)) (fun _ _ _ h => h) (Or.inr ⟨by rfl, rfl⟩) ?_ ?_
                            rotate_left
                            ·simp only [Act.put, zA, zB, zC, i64_w, i32_w]
                             rfl
                            refine pure_ (i := 11) (N := some 114) (v := undef) (a' := ?_) #[true, true, true, true, true, true, true, true, true, true, true, true, false, false, false, false, false, false, false, false, false, false, false, false, false] rfl rfl (any_of HT_.out (by kernel_rfl)) (fun _ _ _ h => h) (Or.inr ⟨by rfl, rfl⟩) ?_ ?_
                            rotate_left
                            ·simp only [Act.put, zA, zB, zC, i64_w, i32_w]
                             rfl
                            refine pure_ (i := 12) (N := some 115) (v := undef) (a' := ?_) #[true, true, true, true, true, true, true, true, true, true, true, true, true, false, false, false, false, false, false, false, false, false, false, false, false] rfl rfl (any_of HT_.out (by kernel_rfl)) (fun _ _ _ h => h) (Or.inr ⟨by rfl, rfl⟩) ?_ ?_
                            rotate_left
                            ·simp only [Act.put, zA, zB, zC, i64_w, i32_w]
                             rfl
                            refine pure_ (i := 13) (N := some 116) (v := undef) (a' := ?_) #[true, true, true, true, true, true, true, true, true, true, true, true, true, true, false, false, false, false, false, false, false, false, false, false, false] rfl rfl (any_of HT_.out (by kernel_rfl)) (fun _ _ _ h => h) (Or.inr ⟨by rfl, rfl⟩) ?_ ?_
                            rotate_left
                            ·simp only [Act.put, zA, zB, zC, i64_w, i32_w]
                             rfl
                            refine pure_ (i := 14) (N := some 117) (v := undef) (a' := ?_) #[true, true, true, true, true, true, true, true, true, true, true, true, true, true, true, false, false, false, false, false, false, false, false, false, false] rfl rfl (any_of HT_.out (by kernel_rfl)) (fun _ _ _ h => h) (Or.inr ⟨by rfl, rfl⟩) ?_ ?_
                            rotate_left
                            ·simp only [Act.put, zA, zB, zC, i64_w, i32_w]
                             rfl
                            refine pure_ (i := 15) (N := some 118) (v := undef) (a' := ?_) #[true, true, true, true, true, true, true, true, true, true, true, true, true, true, true, true, false, false, false, false, false, false, false, false, false] rfl rfl (any_of HT_.out (by kernel_rfl)) (fun _ _ _ h => h) (Or.inr ⟨by rfl, rfl⟩) ?_ ?_
                            rotate_left
                            ·simp only [Act.put, zA, zB, zC, i64_w, i32_w]
                             rfl
                            refine pure_ (i := 16) (N := some 119) (v := undef) (a' := ?_) #[true, true, true, true, true, true, true, true, true, true, true, true, true, true, true, true, true, false, false, false, false, false, false, false, false] rfl rfl (any_of HT_.out (by kernel_rfl)) (fun _ _ _ h => h) (Or.inr ⟨by rfl, rfl⟩) ?_ ?_
                            rotate_left
                            ·simp only [Act.put, zA, zB, zC, i64_w, i32_w]
                             rfl
                            refine pure_ (i := 17) (N := some 120) (v := undef) (a' := ?_) #[true, true, true, true, true, true, true, true, true, true, true, true, true, true, true, true, true, true, false, false, false, false, false, false, false] rfl rfl (any_of HT_.out (by kernel_rfl)) (fun _ _ _ h => h) (Or.inr ⟨by rfl, rfl⟩) ?_ ?_
                            rotate_left
                            ·simp only [Act.put, zA, zB, zC, i64_w, i32_w]
                             rfl
                            refine pure_ (i := 18) (N := some 121) (v := undef) (a' := ?_) #[true, true, true, true, true, true, true, true, true, true, true, true, true, true, true, true, true, true, true, false, false, false, false, false, false] rfl rfl (any_of HT_.out (by kernel_rfl)) (fun _ _ _ h => h) (Or.inr ⟨by rfl, rfl⟩) ?_ ?_
                            rotate_left
                            ·simp only [Act.put, zA, zB, zC, i64_w, i32_w]
                             rfl
                            refine pure_ (i := 19) (N := some 122) (v := undef) (a' := ?_) #[true, true, true, true, true, true, true, true, true, true, true, true, true, true, true, true, true, true, true, true, false, false, false, false, false] rfl rfl (any_of HT_.out (by kernel_rfl)) (fun _ _ _ h => h) (Or.inr ⟨by rfl, rfl⟩) ?_ ?_
                            rotate_left
                            ·simp only [Act.put, zA, zB, zC, i64_w, i32_w]
                             rfl
                            refine pure_ (i := 20) (N := some 123) (v := undef) (a' := ?_) #[true, true, true, true, true, true, true, true, true, true, true, true, true, true, true, true, true, true, true, true, true, false, false, false, false] rfl rfl (any_of HT_.out (by kernel_rfl)) (fun _ _ _ h => h) (Or.inr ⟨by rfl, rfl⟩) ?_ ?_
                            rotate_left
                            ·simp only [Act.put, zA, zB, zC, i64_w, i32_w]
                             rfl
                            refine pure_ (i := 21) (N := some 124) (v := undef) (a' := ?_) #[true, true, true, true, true, true, true, true, true, true, true, true, true, true, true, true, true, true, true, true, true, true, false, false, false] rfl rfl (any_of HT_.out (by kernel_rfl)) (fun _ _ _ h => h) (Or.inr ⟨by rfl, rfl⟩) ?_ ?_
                            rotate_left
                            ·simp only [Act.put, zA, zB, zC, i64_w, i32_w]
                             rfl
                            refine pure_ (i := 22) (N := some 125) (v := undef) (a' := ?_) #[true, true, true, true, true, true, true, true, true, true, true, true, true, true, true, true, true, true, true, true, true, true, true, false, false] rfl rfl (any_of HT_.out (by kernel_rfl)) (fun _ _ _ h => h) (Or.inr ⟨by rfl, rfl⟩) ?_ ?_
                            rotate_left
                            ·simp only [Act.put, zA, zB, zC, i64_w, i32_w]
                             rfl
                            refine pure_ (i := 23) (N := some 126) (v := undef) (a' := ?_) #[true, true, true, true, true, true, true, true, true, true, true, true, true, true, true, true, true, true, true, true, true, true, true, true, false] rfl rfl (any_of HT_.out (by kernel_rfl)) (fun _ _ _ h => h) (Or.inr ⟨by rfl, rfl⟩) ?_ ?_
                            rotate_left
                            ·simp only [Act.put, zA, zB, zC, i64_w, i32_w]
                             rfl
                            refine pure_ (i := 24) (N := some 127) (v := ?_) (a' := ?_) #[true, true, true, true, true, true, true, true, true, true, true, true, true, true, true, true, true, true, true, true, true, true, true, true, true] rfl rfl (any_of HT_.out (by kernel_rfl)) (fun _ _ _ h => h) (Or.inl ⟨by rfl, ?_⟩) ?_ ?_
                            rotate_left
                            ·intro w'
                             go_simp
                             with_reducible rfl
                            rotate_left
                            ·simp only [Act.put, zA, zB, zC, i64_w, i32_w]
                             rfl
                            refine done_ (done_of HT_.out (by kernel_rfl)) ?_
                            try go_wp2
                            go_ret
                            exact ⟨by first | rfl | (simp [errW_none, errW_some] <;> rfl) | (simp [*, errW_none, errW_some] <;> rfl), by repeat (first | (with_reducible first | exact HB.out | apply zQ | apply zN | apply zO) | exact HB.out)⟩
                          ·rw [if_neg c42] at H
                           have c42b0 : (t214 == (-1)) = false := beq_eq_false_iff_ne.mpr c42
                           have c42b1 : (t214 != (-1)) = true := bne_iff_ne.mpr c42
                           obtain rfl := Option.some.inj H
                           try go_wp2
                           have n0_ := zS (zI HO_3.out)
                           have n1_ := zS (zO HB.out)
                           clear HO_3
                           clear HB
                           have HO_3 := n0_
                           have HB := n1_
                           clear n0_ n1_
                           have p211 : 0 ≤ (x7_3 : Int) := of_decide_eq_true (by first | (with_reducible assumption) | assumption)
                           have q211 : x7_3 < (t200.length : Int) := of_decide_eq_true (by first | (with_reducible assumption) | assumption)
                           obtain ⟨ad211, e211, hx211_0, hx211_1⟩ := at_T36 (Kd.R_reads' HO_3.out).2.2 x7_3 p211 q211
                           cases e211
                           replace p211 := eq_true p211
                           replace q211 := eq_true q211
                           have p212 : 0 ≤ (x7_3 : Int) := of_decide_eq_true (by first | (with_reducible assumption) | assumption)
                           have q212 : x7_3 < (t200.length : Int) := of_decide_eq_true (by first | (with_reducible assumption) | assumption)
                           obtain ⟨ad212, e212, hx212_0, hx212_1⟩ := at_T36 (Kd.R_reads' HO_3.out).2.2 x7_3 p212 q212
                           obtain rfl : ad211 = ad212 := (by injection e212)
                           replace p212 := eq_true p212
                           replace q212 := eq_true q212
                           refine start_ (n := 18) (S := fun w' => w'.cell? (ad211.add ((x7_3).toNat * 2)) = some (.int .i64 ((rd_T36 t200 x7_3).f0)) ∧ w'.cell? ⟨(ad211.add ((x7_3).toNat * 2)).block, (ad211.add ((x7_3).toNat * 2)).off + 1, none⟩ = some (.int .i64 ((rd_T36 t200 x7_3).f1)) ∧ w'.cell? (ad211.add ((x7_3).toNat * 2)) = some (.int .i64 ((rd_T36 t200 x7_3).f0)) ∧ w'.cell? ⟨(ad211.add ((x7_3).toNat * 2)).block, (ad211.add ((x7_3).toNat * 2)).off + 1, none⟩ = some (.int .i64 ((rd_T36 t200 x7_3).f1))) (ds := []) #[false, false, false, false, false, false, false, false, false, false, false, false, false, false, false, false, false, false] (by kernel_rfl) rfl rfl ⟨hx211_0, hx211_1, hx212_0, hx212_1⟩ (fun hHeld => ?_); refine with_tabW quarrylaw27_StreamCovers.tab23 quarrylaw27_StreamCovers.bits23 (fun HT_ HW_ => ?_)
                           generalize wc.drew = w58 at HO_3 HB hx211_0 hx211_1 hx212_0 hx212_1 hHeld ⊢
                           refine pure_ (i := 0) (N := some 88) (v := ?_) (a' := ?_) #[true, false, false, false, false, false, false, false, false, false, false, false, false, false, false, false, false, false] rfl rfl (any_of HT_.out (by kernel_rfl)) (fun _ _ _ h => h) (Or.inl ⟨by rfl, ?_⟩) ?_ ?_
                           rotate_left
                           ·intro w'
                            go_simp
                            with_reducible rfl
                           rotate_left
                           ·simp only [Act.put, zA, zB, zC, i64_w, i32_w]
                            rfl
                           refine pure_ (i := 1) (N := some 89) (v := ?_) (a' := ?_) #[true, true, false, false, false, false, false, false, false, false, false, false, false, false, false, false, false, false] rfl rfl (any_of HT_.out (by kernel_rfl)) (fun _ _ _ h => h) (Or.inl ⟨by rfl, ?_⟩) ?_ ?_
                           rotate_left
                           ·intro w'
                            go_simp
                            with_reducible rfl
                           rotate_left
                           ·simp only [Act.put, zA, zB, zC, i64_w, i32_w]
                            rfl
                           refine pure_ (i := 2) (N := some 90) (v := ?_) (a' := ?_) #[true, true, true, false, false, false, false, false, false, false, false, false, false, false, false, false, false, false] rfl rfl (any_of HT_.out (by kernel_rfl)) (fun _ _ _ h => h) (Or.inl ⟨by rfl, ?_⟩) ?_ ?_
                           rotate_left
                           ·intro w'
                            go_simp
                            with_reducible rfl
                           rotate_left
                           ·simp only [Act.put, zA, zB, zC, i64_w, i32_w]
                            rfl
                           refine pure_ (i := 3) (N := some 91) (v := ?_) (a' := ?_) #[true, true, true, true, false, false, false, false, false, false, false, false, false, false, false, false, false, false] rfl rfl (any_of HT_.out (by kernel_rfl)) (fun _ _ _ h => h) (Or.inl ⟨by rfl, ?_⟩) ?_ ?_
                           rotate_left
                           ·intro w'
                            go_simp
                            with_reducible rfl
                           rotate_left
                           ·simp only [Act.put, zA, zB, zC, i64_w, i32_w]
                            rfl
                           refine pure_ (i := 4) (N := some 92) (v := ?_) (a' := ?_) #[true, true, true, true, true, false, false, false, false, false, false, false, false, false, false, false, false, false] rfl rfl (any_of HT_.out (by kernel_rfl)) (fun _ _ _ h => h) (Or.inl ⟨by rfl, ?_⟩) ?_ ?_
                           rotate_left
                           ·intro w'
                            go_simp
                            with_reducible rfl
                           rotate_left
                           ·simp only [Act.put, zA, zB, zC, i64_w, i32_w]
                            rfl
                           refine pure_ (i := 6) (N := some 94) (v := ?_) (a' := ?_) #[true, true, true, true, true, false, true, false, false, false, false, false, false, false, false, false, false, false] rfl rfl (any_of HT_.out (by kernel_rfl)) (fun _ _ _ h => h) (Or.inl ⟨by rfl, ?_⟩) ?_ ?_
                           rotate_left
                           ·intro w'
                            go_simp
                            with_reducible rfl
                           rotate_left
                           ·simp only [Act.put, zA, zB, zC, i64_w, i32_w]
                            rfl
                           refine pure_ (i := 7) (N := some 95) (v := ?_) (a' := ?_) #[true, true, true, true, true, false, true, true, false, false, false, false, false, false, false, false, false, false] rfl rfl (any_of HT_.out (by kernel_rfl)) (fun _ _ _ h => h) (Or.inl ⟨by rfl, ?_⟩) ?_ ?_
                           rotate_left
                           ·intro w'
                            go_simp
                            with_reducible rfl
                           rotate_left
                           ·simp only [Act.put, zA, zB, zC, i64_w, i32_w]
                            rfl
                           refine pure_ (i := 8) (N := some 96) (v := ?_) (a' := ?_) #[true, true, true, true, true, false, true, true, true, false, false, false, false, false, false, false, false, false] rfl rfl (any_of HT_.out (by kernel_rfl)) (fun _ _ _ h => h) (Or.inl ⟨by rfl, ?_⟩) ?_ ?_
                           rotate_left
                           ·intro w'
                            go_simp
                            with_reducible rfl
                           rotate_left
                           ·simp only [Act.put, zA, zB, zC, i64_w, i32_w]
                            rfl
                           refine pure_ (i := 9) (N := some 97) (v := ?_) (a' := ?_) #[true, true, true, true, true, false, true, true, true, true, false, false, false, false, false, false, false, false] rfl rfl (any_of HT_.out (by kernel_rfl)) (fun _ _ _ h => h) (Or.inl ⟨by rfl, ?_⟩) ?_ ?_
                           rotate_left
                           ·intro w'
                            go_simp
                            with_reducible rfl
                           rotate_left
                           ·simp only [Act.put, zA, zB, zC, i64_w, i32_w]
                            rfl
                           refine take_ (i := 5) (N := some 93) (v := ?_) (a' := ?_) #[true, true, true, true, true, true, true, true, true, true, false, false, false, false, false, false, false, false] rfl rfl (take_ofW HT_.out HW_.out (by kernel_rfl)) (fun _ _ _ h => h) (Or.inl ⟨by rfl, ?_⟩) hHeld ?_ ?_
                           rotate_left
                           ·rintro w' ⟨s0, s1, s2, s3⟩
                            go_simp
                            with_reducible rfl
                           rotate_left
                           ·simp only [Act.put, zA, zB, zC, i64_w, i32_w]
                            rfl
                           refine take_ (i := 10) (N := some 98) (v := ?_) (a' := ?_) #[true, true, true, true, true, true, true, true, true, true, true, false, false, false, false, false, false, false] rfl rfl (take_ofW HT_.out HW_.out (by kernel_rfl)) (fun _ _ _ h => h) (Or.inl ⟨by rfl, ?_⟩) hHeld ?_ ?_
                           rotate_left
                           ·rintro w' ⟨s0, s1, s2, s3⟩
                            go_simp
                            with_reducible rfl
                           rotate_left
                           ·simp only [Act.put, zA, zB, zC, i64_w, i32_w]
                            rfl
                           refine pure_ (i := 11) (N := some 99) (v := ?_) (a' := ?_) #[true, true, true, true, true, true, true, true, true, true, true, true, false, false, false, false, false, false] rfl rfl (any_of HT_.out (by kernel_rfl)) (fun _ _ _ h => h) (Or.inl ⟨by rfl, ?_⟩) ?_ ?_
                           rotate_left
                           ·intro w'
                            go_simp
                            with_reducible rfl
                           rotate_left
                           ·simp only [Act.put, zA, zB, zC, i64_w, i32_w]
                            rfl
                           refine one_ (i := 12) (N := some 100) #[true, true, true, true, true, true, true, true, true, true, true, true, true, false, false, false, false, false] rfl rfl (one_of HT_.out (by kernel_rfl)) (by decide) (fun K hK => ?_)
                           refine goes_ Tryd.func10 (by kernel_rfl) rfl #[.string (a0.extract (((rd_T36 t200 x7_3).f0) : Int).toNat (((rd_T36 t200 x7_3).f1) : Int).toNat)] (by rfl) rfl rfl (by (try simp only [List.map_toArray, List.map_cons, List.map_nil]); first | done | rfl | (simp only [List.length_drop, List.length_take]; rfl)) ?_
                           with_reducible refine (stream_Split.calls (a0.extract (((rd_T36 t200 x7_3).f0) : Int).toNat (((rd_T36 t200 x7_3).f1) : Int).toNat) t213 t214 _ ?tabk A41.out).mono ?_
                           (case tabk => exact TK_.out.step (by repeat (first | (with_reducible first | exact HB.out | apply zQ | apply zN | apply zO) | exact HB.out)))
                           rintro e w59 ⟨v215, rfl, ho0, hb⟩
                           have HS0_ := (hb.cell (World.block_lt_of_cell? _ _ (hHeld.1))).trans (hHeld.1)
                           have HS1_ := (hb.cell (World.block_lt_of_cell? _ _ (hHeld.2.1))).trans (hHeld.2.1)
                           have HS2_ := (hb.cell (World.block_lt_of_cell? _ _ (hHeld.2.2.1))).trans (hHeld.2.2.1)
                           have HS3_ := (hb.cell (World.block_lt_of_cell? _ _ (hHeld.2.2.2))).trans (hHeld.2.2.2)
                           refine ⟨_, rfl, ?_⟩
                           have n0_ := zS (Kd.R_elder' (by (with_reducible repeat (first | apply zG | apply zH | apply zI)); exact HO_3.out) (Kd.R_base ho0) hb)
                           have n1_ := zS (Kd.R_lower (Kd.R_new' ho0 (Kd.R_lt (by (with_reducible repeat (first | apply zG | apply zH | apply zI)); exact HO_3.out))) (below_size (by repeat (first | (with_reducible first | exact HB.out | apply zQ | apply zN | apply zO) | exact HB.out))))
                           have n2_ := zS (below_step (by repeat (first | (with_reducible first | exact HB.out | apply zQ | apply zN | apply zO) | exact HB.out)) hb)
                           clear HO_3
                           clear HB
                           have HO_3 := n0_
                           have HO216 := n1_
                           have HB := n2_
                           clear n0_ n1_ n2_
                           (try clear hb)
                           (try clear hb2)
                           (try clear hk)
                           (try clear hi)
                           (try clear ho0)
                           refine hK.out _ _ ⟨HS0_, HS1_, HS2_, HS3_⟩ (fun hHeld => ?_)
                           clear hK K
                           refine norm_ (a' := ?_) ?_ ?_
                           rotate_left
                           ·show Act.put _ (some 100) _ = _
                            simp only [Act.put, zA, zB, zC, i64_w, i32_w]
                            rfl
                           refine pure_ (i := 13) (N := some 87) (v := ?_) (a' := ?_) #[true, true, true, true, true, true, true, true, true, true, true, true, true, true, false, false, false, false] rfl rfl (any_of HT_.out (by kernel_rfl)) (fun _ _ _ h => h) (Or.inl ⟨by rfl, ?_⟩) ?_ ?_
                           rotate_left
                           ·intro w'
                            go_simp
                            with_reducible rfl
                           rotate_left
                           ·simp only [Act.put, zA, zB, zC, i64_w, i32_w]
                            rfl
                           refine pure_ (i := 14) (N := some 101) (v := ?_) (a' := ?_) #[true, true, true, true, true, true, true, true, true, true, true, true, true, true, true, false, false, false] rfl rfl (any_of HT_.out (by kernel_rfl)) (fun _ _ _ h => h) (Or.inl ⟨by rfl, ?_⟩) ?_ ?_
                           rotate_left
                           ·intro w'
                            go_simp
                            with_reducible rfl
                           rotate_left
                           ·simp only [Act.put, zA, zB, zC, i64_w, i32_w]
                            rfl
                           refine pure_ (i := 15) (N := some 102) (v := ?_) (a' := ?_) #[true, true, true, true, true, true, true, true, true, true, true, true, true, true, true, true, false, false] rfl rfl (any_of HT_.out (by kernel_rfl)) (fun _ _ _ h => h) (Or.inl ⟨by rfl, ?_⟩) ?_ ?_
                           rotate_left
                           ·intro w'
                            go_simp
                            with_reducible rfl
                           rotate_left
                           ·simp only [Act.put, zA, zB, zC, i64_w, i32_w]
                            rfl
                           refine pure_ (i := 16) (N := some 9) (v := ?_) (a' := ?_) #[true, true, true, true, true, true, true, true, true, true, true, true, true, true, true, true, true, false] rfl rfl (any_of HT_.out (by kernel_rfl)) (fun _ _ _ h => h) (Or.inl ⟨by rfl, ?_⟩) ?_ ?_
                           rotate_left
                           ·intro w'
                            go_simp
                            with_reducible rfl
                           rotate_left
                           ·simp only [Act.put, zA, zB, zC, i64_w, i32_w]
                            rfl
                           refine pure_ (i := 17) (N := some 10) (v := ?_) (a' := ?_) #[true, true, true, true, true, true, true, true, true, true, true, true, true, true, true, true, true, true] rfl rfl (any_of HT_.out (by kernel_rfl)) (fun _ _ _ h => h) (Or.inl ⟨by rfl, ?_⟩) ?_ ?_
                           rotate_left
                           ·intro w'
                            go_simp
                            with_reducible rfl
                           rotate_left
                           ·simp only [Act.put, zA, zB, zC, i64_w, i32_w]
                            rfl
                           refine done_ (done_of HT_.out (by kernel_rfl)) ?_
                           try go_wp2
                           have n0_ := zS (zI HO_3.out)
                           have n1_ := zS (zI HO216.out)
                           have n2_ := zS (zO HB.out)
                           clear HO_3
                           clear HO216
                           clear HB
                           have HO_3 := n0_
                           have HO216 := n1_
                           have HB := n2_
                           clear n0_ n1_ n2_
                           refine start_ (n := 25) (S := fun w' => True) (ds := []) #[false, false, false, false, false, false, false, false, false, false, false, false, false, false, false, false, false, false, false, false, false, false, false, false, false] (by kernel_rfl) rfl rfl trivial (fun hHeld => ?_); refine with_tabW quarrylaw27_StreamCovers.tab24 quarrylaw27_StreamCovers.bits24 (fun HT_ HW_ => ?_)
                           generalize w59.drew = w60 at HO_3 HO216 HB hHeld ⊢
                           refine pure_ (i := 0) (N := some 103) (v := ?_) (a' := ?_) #[true, false, false, false, false, false, false, false, false, false, false, false, false, false, false, false, false, false, false, false, false, false, false, false, false] rfl rfl (any_of HT_.out (by kernel_rfl)) (fun _ _ _ h => h) (Or.inl ⟨by rfl, ?_⟩) ?_ ?_
                           rotate_left
                           ·intro w'
                            go_simp
                            with_reducible rfl
                           rotate_left
                           ·simp only [Act.put, zA, zB, zC, i64_w, i32_w]
                            rfl
                           refine pure_ (i := 1) (N := some 104) (v := ?_) (a' := ?_) #[true, true, false, false, false, false, false, false, false, false, false, false, false, false, false, false, false, false, false, false, false, false, false, false, false] rfl rfl (any_of HT_.out (by kernel_rfl)) (fun _ _ _ h => h) (Or.inl ⟨by rfl, ?_⟩) ?_ ?_
                           rotate_left
                           ·intro w'
                            go_simp
                            with_reducible rfl
                           rotate_left
                           ·simp only [Act.put, zA, zB, zC, i64_w, i32_w]
                            rfl
                           refine pure_ (i := 2) (N := some 105) (v := ?_) (a' := ?_) #[true, true, true, false, false, false, false, false, false, false, false, false, false, false, false, false, false, false, false, false, false, false, false, false, false] rfl rfl (any_of HT_.out (by kernel_rfl)) (fun _ _ _ h => h) (Or.inl ⟨by rfl, ?_⟩) ?_ ?_
                           rotate_left
                           ·intro w'
                            go_simp
                            with_reducible rfl
                           rotate_left
                           ·simp only [Act.put, zA, zB, zC, i64_w, i32_w]
                            rfl
                           refine pure_ (i := 3) (N := some 106) (v := undef) (a' := ?_) #[true, true, true, true, false, false, false, false, false, false, false, false, false, false, false, false, false, false, false, false, false, false, false, false, false] rfl rfl (any_of HT_.out (by kernel_rfl)) (fun _ _ _ h => h) (Or.inr ⟨by rfl, rfl⟩) ?_ ?_
                           rotate_left
                           ·simp only [Act.put, zA, zB, zC, i64_w, i32_w]
                            rfl
                           refine pure_ (i := 4) (N := some 107) (v := undef) (a' := ?_) #[true, true, true, true, true, false, false, false, false, false, false, false, false, false, false, false, false, false, false, false, false, false, false, false, false] rfl rfl (any_of HT_.out (by kernel_rfl)) (fun _ _ _ h => h) (Or.inr ⟨by rfl, rfl⟩) ?_ ?_
                           rotate_left
                           ·simp only [Act.put, zA, zB, zC, i64_w, i32_w]
                            rfl
                           refine pure_ (i := 5) (N := some 108) (v := undef) (a' := ?_) #[true, true, true, true, true, true, false, false, false, false, false, false, false, false, false, false, false, false, false, false, false, false, false, false, false] rfl rfl (any_of HT_.out (by kernel_rfl)) (fun _ _ _ h => h) (Or.inr ⟨by rfl, rfl⟩) ?_ ?_
                           rotate_left
                           ·simp only [Act.put, zA, zB, zC, i64_w, i32_w]
                            rfl
                           refine pure_ (i := 6) (N := some 109) (v := ?_) (a' := ?_) #[true, true, true, true, true, true, true, false, false, false, false, false, false, false, false, false, false, false, false, false, false, false, false, false, false] rfl rfl (any_of HT_.out (by kernel_rfl)) (fun _ _ _ h => h) (Or.inl ⟨by rfl, ?_⟩) ?_ ?_
                           rotate_left
                           ·intro w'
                            go_simp
                            with_reducible rfl
                           rotate_left
                           ·simp only [Act.put, zA, zB, zC, i64_w, i32_w]
                            rfl
                           refine pure_ (i := 7) (N := some 110) (v := ?_) (a' := ?_) #[true, true, true, true, true, true, true, true, false, false, false, false, false, false, false, false, false, false, false, false, false, false, false, false, false] rfl rfl (any_of HT_.out (by kernel_rfl)) (fun _ _ _ h => h) (Or.inl ⟨by rfl, ?_⟩) ?_ ?_
                           rotate_left
                           ·intro w'
                            go_simp
                            with_reducible rfl
                           rotate_left
                           ·simp only [Act.put, zA, zB, zC, i64_w, i32_w]
                            rfl
                           refine pure_ (i := 8) (N := some 111) (v := undef) (a' := ?_) #[true, true, true, true, true, true, true, true, true, false, false, false, false, false, false, false, false, false, false, false, false, false, false, false, false] rfl rfl (any_of HT_.out (by kernel_rfl)) (fun _ _ _ h => h) (Or.inr ⟨by rfl, rfl⟩) ?_ ?_
                           rotate_left
                           ·simp only [Act.put, zA, zB, zC, i64_w, i32_w]
                            rfl
                           refine pure_ (i := 9) (N := some 112) (v := undef) (a' := ?_) #[true, true, true, true, true, true, true, true, true, true, false, false, false, false, false, false, false, false, false, false, false, false, false, false, false] rfl rfl (any_of HT_.out (by kernel_rfl)) (fun _ _ _ h => h) (Or.inr ⟨by rfl, rfl⟩) ?_ ?_
                           rotate_left
                           ·simp only [Act.put, zA, zB, zC, i64_w, i32_w]
                            rfl
                           refine pure_ (i := 10) (N := some 113) (v := undef) (a' := ?_) #[true, true, true, true, true, true, true, true, true, true, true, false, false, false, false, false, false, false, false, false, false, false, false, false, false] rfl rfl (any_of HT_.out (by kernel_rfl)) (fun _ _ _ h => h) (Or.inr ⟨by rfl, rfl⟩) ?_ ?_
                           rotate_left
                           ·simp only [Act.put, zA, zB, zC, i64_w, i32_w]
                            rfl
                           refine pure_ (i := 11) (N := some 114) (v := undef) (a' := ?_) #[true, true, true, true, true, true, true, true, true, true, true, true, false, false, false, false, false, false, false, false, false, false, false, false, false] rfl rfl (any_of HT_.out (by kernel_rfl)) (fun _ _ _ h => h) (Or.inr ⟨by rfl, rfl⟩) ?_ ?_
                           rotate_left
                           ·simp only [Act.put, zA, zB, zC, i64_w, i32_w]
                            rfl
                           refine pure_ (i := 12) (N := some 115) (v := undef) (a' := ?_) #[true, true, true, true, true, true, true, true, true, true, true, true, true, false, false, false, false, false, false, false, false, false, false, false, false] rfl rfl (any_of HT_.out (by kernel_rfl)) (fun _ _ _ h => h) (Or.inr ⟨by rfl, rfl⟩) ?_ ?_
                           rotate_left
                           ·simp only [Act.put, zA, zB, zC, i64_w, i32_w]
                            rfl
                           refine pure_ (i := 13) (N := some 116) (v := undef) (a' := ?_) #[true, true, true, true, true, true, true, true, true, true, true, true, true, true, false, false, false, false, false, false, false, false, false, false, false] rfl rfl (any_of HT_.out (by kernel_rfl)) (fun _ _ _ h => h) (Or.inr ⟨by rfl, rfl⟩) ?_ ?_
                           rotate_left
                           ·simp only [Act.put, zA, zB, zC, i64_w, i32_w]
                            rfl
                           refine pure_ (i := 14) (N := some 117) (v := undef) (a' := ?_) #[true, true, true, true, true, true, true, true, true, true, true, true, true, true, true, false, false, false, false, false, false, false, false, false, false] rfl rfl (any_of HT_.out (by kernel_rfl)) (fun _ _ _ h => h) (Or.inr ⟨by rfl, rfl⟩) ?_ ?_
                           rotate_left
                           ·simp only [Act.put, zA, zB, zC, i64_w, i32_w]
                            rfl
                           refine pure_ (i := 15) (N := some 118) (v := undef) (a' := ?_) #[true, true, true, true, true, true, true, true, true, true, true, true, true, true, true, true, false, false, false, false, false, false, false, false, false] rfl rfl (any_of HT_.out (by kernel_rfl)) (fun _ _ _ h => h) (Or.inr ⟨by rfl, rfl⟩) ?_ ?_
                           rotate_left
                           ·simp only [Act.put, zA, zB, zC, i64_w, i32_w]
                            rfl
                           refine pure_ (i := 16) (N := some 119) (v := undef) (a' := ?_) #[true, true, true, true, true, true, true, true, true, true, true, true, true, true, true, true, true, false, false, false, false, false, false, false, false] rfl rfl (any_of HT_.out (by kernel_rfl)) (fun _ _ _ h => h) (Or.inr ⟨by rfl, rfl⟩) ?_ ?_
                           rotate_left
                           ·simp only [Act.put, zA, zB, zC, i64_w, i32_w]
                            rfl
                           refine pure_ (i := 17) (N := some 120) (v := undef) (a' := ?_) #[true, true, true, true, true, true, true, true, true, true, true, true, true, true, true, true, true, true, false, false, false, false, false, false, false] rfl rfl (any_of HT_.out (by kernel_rfl)) (fun _ _ _ h => h) (Or.inr ⟨by rfl, rfl⟩) ?_ ?_
                           rotate_left
                           ·simp only [Act.put, zA, zB, zC, i64_w, i32_w]
                            rfl
                           refine pure_ (i := 18) (N := some 121) (v := undef) (a' := ?_) #[true, true, true, true, true, true, true, true, true, true, true, true, true, true, true, true, true, true, true, false, false, false, false, false, false] rfl rfl (any_of HT_.out (by kernel_rfl)) (fun _ _ _ h => h) (Or.inr ⟨by rfl, rfl⟩) ?_ ?_
                           rotate_left
                           ·simp only [Act.put, zA, zB, zC, i64_w, i32_w]
                            rfl
                           refine pure_ (i := 19) (N := some 122) (v := undef) (a' := ?_) #[true, true, true, true, true, true, true, true, true, true, true, true, true, true, true, true, true, true, true, true, false, false, false, false, false] rfl rfl (any_of HT_.out (by kernel_rfl)) (fun _ _ _ h => h) (Or.inr ⟨by rfl, rfl⟩) ?_ ?_
                           rotate_left
                           ·simp only [Act.put, zA, zB, zC, i64_w, i32_w]
                            rfl
                           refine pure_ (i := 20) (N := some 123) (v := undef) (a' := ?_) #[true, true, true, true, true, true, true, true, true, true, true, true, true, true, true, true, true, true, true, true, true, false, false, false, false] rfl rfl (any_of HT_.out (by kernel_rfl)) (fun _ _ _ h => h) (Or.inr ⟨by rfl, rfl⟩) ?_ ?_
                           rotate_left
                           ·simp only [Act.put, zA, zB, zC, i64_w, i32_w]
                            rfl
                           refine pure_ (i := 21) (N := some 124) (v := undef) (a' := ?_) #[true, true, true, true, true, true, true, true, true, true, true, true, true, true, true, true, true, true, true, true, true, true, false, false, false] rfl rfl (any_of HT_.out (by kernel_rfl)) (fun _ _ _ h => h) (Or.inr ⟨by rfl, rfl⟩) ?_ ?_
                           rotate_left
                           ·simp only [Act.put, zA, zB, zC, i64_w, i32_w]
                            rfl
                           refine pure_ (i := 22) (N := some 125) (v := undef) (a' := ?_) #[true, true, true, true, true, true, true, true, true, true, true, true, true, true, true, true, true, true, true, true, true, true, true, false, false] rfl rfl (any_of HT_.out (by kernel_rfl)) (fun _ _ _ h => h) (Or.inr ⟨by rfl, rfl⟩) ?_ ?_
                           rotate_left
                           ·simp only [Act.put, zA, zB, zC, i64_w, i32_w]
                            rfl
                           refine pure_ (i := 23) (N := some 126) (v := undef) (a' := ?_) #[true, true, true, true, true, true, true, true, true, true, true, true, true, true, true, true, true, true, true, true, true, true, true, true, false] rfl rfl (any_of HT_.out (by kernel_rfl)) (fun _ _ _ h => h) (Or.inr ⟨by rfl, rfl⟩) ?_ ?_
                           rotate_left
                           ·simp only [Act.put, zA, zB, zC, i64_w, i32_w]
                            rfl
                           refine pure_ (i := 24) (N := some 127) (v := ?_) (a' := ?_) #[true, true, true, true, true, true, true, true, true, true, true, true, true, true, true, true, true, true, true, true, true, true, true, true, true] rfl rfl (any_of HT_.out (by kernel_rfl)) (fun _ _ _ h => h) (Or.inl ⟨by rfl, ?_⟩) ?_ ?_
                           rotate_left
                           ·intro w'
                            go_simp
                            with_reducible rfl
                           rotate_left
                           ·simp only [Act.put, zA, zB, zC, i64_w, i32_w]
                            rfl
                           refine done_ (done_of HT_.out (by kernel_rfl)) ?_
                           try go_wp2
                           go_ret
                           exact ⟨by first | rfl | (simp [errW_none, errW_some] <;> rfl) | (simp [*, errW_none, errW_some] <;> rfl), by repeat (first | (with_reducible first | exact HB.out | apply zQ | apply zN | apply zO) | exact HB.out)⟩
                         ·rw [if_neg c40] at H
                          exact absurd H (by simp)
                        ·rw [if_neg c39] at H
                         exact absurd H (by simp)
                       ·rw [if_neg c38] at H
                        exact absurd H (by simp)
                      ·rw [if_neg c37] at H
                       exact absurd H (by simp)
                     ·rw [if_neg c36] at H
                      exact absurd H (by simp)
        ·rw [if_neg c9] at H
         have c9b0 : decide (x7_3 ≤ (t200.length : Int)) = false := decide_eq_false c9
         clear c9
         by_cases c61 : t201 < 0
         ·rw [if_pos c61] at H
          have c61b0 : decide (t201 < 0) = true := decide_eq_true c61
          clear c61
          obtain rfl := Option.some.inj H
          obtain ⟨Ao62, co62, eo62⟩ := Kd.R_slice HO_3.out
          subst eo62
          go_wp2
          go_ret
          exact ⟨by first | rfl | (simp [errW_none, errW_some] <;> rfl) | (simp [*, errW_none, errW_some] <;> rfl), by repeat (first | (with_reducible first | exact HB.out | apply zQ | apply zN | apply zO) | exact HB.out)⟩
         ·rw [if_neg c61] at H
          have c61b0 : decide (t201 < 0) = false := decide_eq_false c61
          clear c61
          by_cases c63 : 0 ≤ t201
          ·rw [if_pos c63] at H
           have c63b0 : decide (0 ≤ t201) = true := decide_eq_true c63
           clear c63
           by_cases c64 : t201 < (a0.size : Int)
           ·rw [if_pos c64] at H
            have c64b0 : decide (t201 < (a0.size : Int)) = true := decide_eq_true c64
            clear c64
            replace H := Option.bind_eq_some_iff.mp H
            obtain ⟨t204, A660, H⟩ := H
            replace H : (some (!t204)) = some r := H
            have A66 := zS A660
            clear A660
            obtain rfl := Option.some.inj H
            obtain ⟨Ao67, co67, eo67⟩ := Kd.R_slice HO_3.out
            subst eo67
            have p65 : 0 ≤ (t201 : Int) := of_decide_eq_true (by first | (with_reducible assumption) | assumption)
            have q65 : t201 < (a0.size : Int) := of_decide_eq_true (by first | (with_reducible assumption) | assumption)
            have hx65 := bt_at a0 t201
            replace p65 := eq_true p65
            replace q65 := eq_true q65
            go_wp2_with (first | (go_at_call 20; (with_reducible refine (quarrylaw27_blank.calls (bt a0 t201) t204 _ A66.out).mono ?_); rintro e w' ⟨rfl, ⟨nd, rfl⟩⟩))
            go_ret
            exact ⟨by first | rfl | (simp [errW_none, errW_some] <;> rfl) | (simp [*, errW_none, errW_some] <;> rfl), by repeat (first | (with_reducible first | exact HB.out | apply zQ | apply zN | apply zO) | exact HB.out)⟩
           ·rw [if_neg c64] at H
            exact absurd H (by simp)
          ·rw [if_neg c63] at H
           exact absurd H (by simp)

/-- THE ONE PURE STATEMENT of quarrylaw27_StreamCovers: yours. -/
def quarrylaw27_StreamCovers.Pure : Prop := ∀ (a0 : ByteArray), a0.size ≤ 140737488351232 → ∃ k, quarrylaw27_StreamCovers.f k a0 = some true
theorem quarrylaw27_StreamCovers.walk (P : quarrylaw27_StreamCovers.Pure) (a0 : ByteArray) (w : World) (hT : TabOk w) (w0 : a0.size ≤ 140737488351232) :
  Calls Tryd.prog 6 #[.string a0] w fun e w' => e = .returned (.bool true) ∧ Below w.heap.size w w' := by
 obtain ⟨k, h⟩ := P a0 w0
 refine (quarrylaw27_StreamCovers.calls k a0 true w hT h).mono ?_
 rintro e w' ⟨rfl, hd⟩
 exact ⟨rfl, hd⟩

end Go.Proofs.YtfihkkjkifkemaaDoor.PS
end
-- Sw
section
namespace Go.Proofs.YtfihkkjkifkemaaDoorQ
open Go Go.RowKit Go.Proofs.YtfihkkjkifkemaaDoorW.PrintWords
section
variable {s : ByteArray} {a e : Nat}
theorem ext_size (h : e ≤ s.size) : (s.extract a e).size = e - a := by
  rw [ByteArray.size_extract]
  omega
theorem bt_ext (h : e ≤ s.size) (i : Nat) (hi : a + i < e) : bt (s.extract a e) (i : Int) = bt s ((a + i : Nat) : Int) := by
  have hz : (s.extract a e).size = e - a := ext_size h
  unfold bt
  simp only [Int.toNat_natCast]
  rw [dif_pos (by omega), dif_pos (by omega), ByteArray.getElem_extract]
theorem bk_facts (c : Int) (h : c = 34 ∨ c = 92) : sgx c.toNat = false ∧ blx c.toNat = false := by
  rcases h with rfl | rfl <;> exact ⟨by decide, by decide⟩
/-- Where a document may begin no mark and no backslash is escaped. -/
theorem free_esc (ha : a < s.size) (hf : Free s a) (hc : bt s (a : Int) = 34 ∨ bt s (a : Int) = 92) : esc s false a = false := by
  apply Classical.byContradiction
  intro hx
  have hx : esc s false a = true := by simpa using hx
  obtain ⟨hp, hb⟩ := hf ha
  obtain ⟨i, rfl⟩ : ∃ i, a = i + 1 := ⟨a - 1, by
    cases a with
    | zero => cases hx
    | succ n => rfl⟩
  have h1 : bt s (i : Int) = 92 := by
    unfold esc at hx
    simp only [Bool.and_eq_true, decide_eq_true_eq] at hx
    exact hx.1
  have hmi : mkq s i = false := by
    unfold mkq
    rw [h1]
    rfl
  have hii : insS s i = false := hp
  have hoi : outq s i = true := by unfold outq; rw [hmi, hii]; rfl
  have hwi : wdq s i = true := by
    unfold wdq sgq blq
    rw [hoi, (bk_facts _ (.inr h1)).1, (bk_facts _ (.inr h1)).2]
    rfl
  have hma : mkq s (i + 1) = false := by
    unfold mkq
    rw [hx]
    simp
  have hia : insS s (i + 1) = false := by
    show par (mkq s) (i + 1 + 1) = false
    rw [par_succ, hp, hma]
    rfl
  have hoa : outq s (i + 1) = true := by unfold outq; rw [hma, hia]; rfl
  have hwa : wdq s (i + 1) = true := by
    unfold wdq sgq blq
    rw [hoa, (bk_facts _ hc).1, (bk_facts _ hc).2]
    rfl
  have := hb hwa
  unfold begq sgq opq at this
  rw [(bk_facts _ hc).1, hma, hwa, Nat.add_sub_cancel, hwi] at this
  simp at this
theorem esc_ext (h : e ≤ s.size) (hf : Free s a) : ∀ i, a + i < e → (bt s ((a + i : Nat) : Int) = 34 ∨ bt s ((a + i : Nat) : Int) = 92) → esc (s.extract a e) false i = esc s false (a + i)
  | 0, hi, hc => (free_esc (by omega) hf hc).symm
  | i + 1, hi, hc => by
    rw [← Nat.add_assoc]
    unfold esc
    rw [bt_ext h i (by omega)]
    by_cases c : bt s ((a + i : Nat) : Int) = 92
    · rw [esc_ext h hf i (by omega) (.inr c)]
    · rw [decide_eq_false c, Bool.false_and, Bool.false_and]
theorem mk_ext (h : e ≤ s.size) (hf : Free s a) {i : Nat} (hi : a + i < e) : mkq (s.extract a e) i = mkq s (a + i) := by
  unfold mkq
  rw [bt_ext h i hi]
  by_cases c : bt s ((a + i : Nat) : Int) = 34
  · rw [esc_ext h hf i hi (.inl c)]
  · rw [decide_eq_false c, Bool.false_and, Bool.false_and]
theorem par_ext (h : e ≤ s.size) (hf : Free s a) (ha : a < e) : ∀ i, a + i ≤ e → par (mkq (s.extract a e)) i = par (mkq s) (a + i)
  | 0, _ => ((hf (by omega)).1).symm
  | i + 1, hi => by rw [← Nat.add_assoc, par_succ, par_succ, par_ext h hf ha i (by omega), mk_ext h hf (by omega)]
theorem ins_ext (h : e ≤ s.size) (hf : Free s a) {i : Nat} (hi : a + i < e) : insS (s.extract a e) i = insS s (a + i) := par_ext h hf (by omega) (i + 1) (by omega)
theorem out_ext (h : e ≤ s.size) (hf : Free s a) {i : Nat} (hi : a + i < e) : outq (s.extract a e) i = outq s (a + i) := by
  unfold outq
  rw [mk_ext h hf hi, ins_ext h hf hi]
theorem sg_ext (h : e ≤ s.size) (hf : Free s a) {i : Nat} (hi : a + i < e) : sgq (s.extract a e) i = sgq s (a + i) := by
  unfold sgq
  rw [bt_ext h i hi, out_ext h hf hi]
theorem bl_ext (h : e ≤ s.size) (hf : Free s a) {i : Nat} (hi : a + i < e) : blq (s.extract a e) i = blq s (a + i) := by
  unfold blq
  rw [bt_ext h i hi, out_ext h hf hi]
theorem op_ext (h : e ≤ s.size) (hf : Free s a) {i : Nat} (hi : a + i < e) : opq (s.extract a e) i = opq s (a + i) := by
  unfold opq
  rw [mk_ext h hf hi, ins_ext h hf hi]
theorem wd_ext (h : e ≤ s.size) (hf : Free s a) {i : Nat} (hi : a + i < e) : wdq (s.extract a e) i = wdq s (a + i) := by
  unfold wdq
  rw [out_ext h hf hi, sg_ext h hf hi, bl_ext h hf hi]
theorem brkR_gt : ∀ (d i o : Nat), brkR s d i o = some e → i < e ∧ e ≤ i + d
  | 0, i, o, h => by cases h
  | d + 1, i, o, h => by
    rw [brkR_succ] at h
    revert h
    generalize (if (sgq s i && closesB (bt s (i : Int))) = true then (if (sgq s i && opensB (bt s (i : Int))) = true then o + 1 else o) - 1 else if (sgq s i && opensB (bt s (i : Int))) = true then o + 1 else o) = o2
    intro h
    by_cases c : o2 = 0
    · rw [if_pos c] at h
      injection h
      omega
    · rw [if_neg c] at h
      have := brkR_gt d (i + 1) o2 h
      omega
theorem brk_ext (h : e ≤ s.size) (hf : Free s a) : ∀ (d j o : Nat), brkR s d (a + j) o = some e → brkR (s.extract a e) (e - (a + j)) j o = some (e - a)
  | 0, j, o, hk => by cases hk
  | d + 1, j, o, hk => by
    have hg := brkR_gt _ _ _ hk
    rw [brkR_succ] at hk
    rw [show e - (a + j) = (e - (a + (j + 1))) + 1 by omega, brkR_succ, sg_ext h hf (show a + j < e by omega), bt_ext h j (by omega)]
    revert hk
    generalize (if (sgq s (a + j) && closesB (bt s ((a + j : Nat) : Int))) = true then (if (sgq s (a + j) && opensB (bt s ((a + j : Nat) : Int))) = true then o + 1 else o) - 1 else if (sgq s (a + j) && opensB (bt s ((a + j : Nat) : Int))) = true then o + 1 else o) = o2
    intro hk
    by_cases c : o2 = 0
    · rw [if_pos c] at hk ⊢
      injection hk with hk
      rw [show e - a = j + 1 by omega]
    · rw [if_neg c] at hk ⊢
      exact brk_ext h hf d (j + 1) o2 hk
theorem endR_ok (ha : a < s.size) (hf : Free s a) (hb : blq s a = false) (he : endR s a = some e) : a < e ∧ e ≤ s.size ∧ Free s e := by
  have hkind : sgq s a = true ∨ opq s a = true ∨ wdq s a = true := by
    rcases free_kind ha hf with h | h
    · rw [hb] at h; cases h
    · exact h
  unfold endR at he
  by_cases ho : opensB (bt s (a : Int)) = true
  · rw [if_pos ho] at he
    have hs : sgq s a = true := by
      apply Classical.byContradiction
      intro c
      have := (other_bytes (by simpa using c) (hkind.resolve_left c)).1
      rw [ho] at this
      cases this
    rw [show s.size - a = (s.size - (a + 1)) + 1 by omega, brkR_succ, hs, ho] at he
    have hc : closesB (bt s (a : Int)) = false := by
      unfold opensB at ho
      unfold closesB
      simp only [Bool.or_eq_true, beq_iff_eq] at ho
      rw [Bool.or_eq_false_iff, beq_eq_false_iff_ne, beq_eq_false_iff_ne]
      omega
    rw [hc] at he
    simp only [Bool.true_and, if_true, Bool.false_eq_true, if_false, Nat.zero_add, Nat.one_ne_zero] at he
    obtain ⟨h1, h2, h3⟩ := (prog_brk (s := s) 0 (s.size - (a + 1)) (a + 1) 1 [] (by omega) (by decide)).2 e he
    exact ⟨by omega, h2, h3⟩
  · rw [if_neg ho] at he
    by_cases hs : sgq s a = true
    · rw [if_pos hs] at he
      cases he
    · rw [if_neg hs] at he
      by_cases hop : opq s a = true
      · rw [if_pos hop] at he
        by_cases ht : textE s a < s.size
        · rw [if_pos ht] at he
          cases he
          obtain ⟨hm, hins, _⟩ := op_facts hop
          obtain ⟨t1, t2, t3, t4⟩ := firstQ_spec (mkq s) (s.size - (a + 1)) (a + 1)
          have et : firstQ (mkq s) (s.size - (a + 1)) (a + 1) = textE s a := rfl
          rw [et] at t1 t2 t3 t4
          have hmk := t4 (by omega)
          have hin : ∀ k, a + k < textE s a → insS s (a + k) = true := fun k => by
            induction k with
            | zero => exact fun _ => hins
            | succ k ih =>
              intro h4
              show par (mkq s) (a + (k + 1) + 1) = true
              rw [par_succ, t3 (a + (k + 1)) (by omega) h4, Bool.xor_false]
              exact ih (by omega)
          have hpe : par (mkq s) (textE s a) = true := by
            have := hin (textE s a - 1 - a) (by omega)
            rw [show a + (textE s a - 1 - a) = textE s a - 1 by omega, show insS s (textE s a - 1) = par (mkq s) (textE s a - 1 + 1) from rfl, show textE s a - 1 + 1 = textE s a by omega] at this
            exact this
          have hie : insS s (textE s a) = false := by
            show par (mkq s) (textE s a + 1) = false
            rw [par_succ, hpe, hmk]
            rfl
          exact ⟨by omega, by omega, free_next hie (by unfold wdq outq; rw [hmk]; rfl)⟩
        · rw [if_neg ht] at he
          cases he
      · rw [if_neg hop] at he
        cases he
        have hw : wdq s a = true := (hkind.resolve_left hs).resolve_left hop
        obtain ⟨t1, t2, t3, t4⟩ := firstQ_spec (fun i => !(wdq s i)) (s.size - a) a
        have et : firstQ (fun i => !(wdq s i)) (s.size - a) a = wordE s a := rfl
        rw [et] at t1 t2 t3 t4
        have hgt : a < wordE s a := by
          apply Classical.byContradiction
          intro c
          have e : wordE s a = a := by omega
          rw [e] at t4
          have := t4 (by omega)
          rw [hw] at this
          cases this
        refine ⟨hgt, by omega, fun he => ?_⟩
        have hwl : wdq s (wordE s a - 1) = true := by simpa using t3 (wordE s a - 1) (by omega) (by omega)
        have hl := (wd_facts hwl).2.1
        refine ⟨?_, fun c => ?_⟩
        · rw [show insS s (wordE s a - 1) = par (mkq s) (wordE s a - 1 + 1) from rfl, show wordE s a - 1 + 1 = wordE s a by omega] at hl
          exact hl
        · have := t4 (by omega)
          rw [c] at this
          cases this
theorem endR_ext (ha : a < s.size) (hf : Free s a) (hb : blq s a = false) (he : endR s a = some e) : endR (s.extract a e) 0 = some (e - a) := by
  obtain ⟨h1, h2, h3⟩ := endR_ok ha hf hb he
  have hz : (s.extract a e).size = e - a := ext_size h2
  have e0 : bt (s.extract a e) ((0 : Nat) : Int) = bt s (a : Int) := bt_ext h2 0 (by omega)
  unfold endR at he ⊢
  rw [e0, hz, Nat.sub_zero]
  by_cases ho : opensB (bt s (a : Int)) = true
  · rw [if_pos ho] at he ⊢
    exact brk_ext h2 hf _ 0 0 he
  · rw [if_neg ho] at he ⊢
    rw [sg_ext h2 hf (show a + 0 < e by omega), op_ext h2 hf (show a + 0 < e by omega), Nat.add_zero]
    by_cases hs : sgq s a = true
    · rw [if_pos hs] at he
      cases he
    · rw [if_neg hs] at he ⊢
      by_cases hop : opq s a = true
      · rw [if_pos hop] at he ⊢
        by_cases ht : textE s a < s.size
        · rw [if_pos ht] at he
          have hte : textE s a + 1 = e := by injection he
          obtain ⟨t1, t2, t3, t4⟩ := firstQ_spec (mkq s) (s.size - (a + 1)) (a + 1)
          have et : firstQ (mkq s) (s.size - (a + 1)) (a + 1) = textE s a := rfl
          rw [et] at t1 t2 t3 t4
          have hx : textE (s.extract a e) 0 = e - a - 1 := by
            unfold textE
            rw [hz]
            refine firstQ_eq (by omega) (by omega) (fun j h5 h6 => ?_) (fun _ => ?_)
            · rw [mk_ext h2 hf (by omega)]
              exact t3 _ (by omega) (by omega)
            · rw [mk_ext h2 hf (by omega), show a + (e - a - 1) = textE s a by omega]
              exact t4 (by omega)
          rw [hx, if_pos (by omega), show e - a - 1 + 1 = e - a by omega]
        · rw [if_neg ht] at he
          cases he
      · rw [if_neg hop] at he ⊢
        have hwe : wordE s a = e := by injection he
        obtain ⟨t1, t2, t3, t4⟩ := firstQ_spec (fun i => !(wdq s i)) (s.size - a) a
        have et : firstQ (fun i => !(wdq s i)) (s.size - a) a = wordE s a := rfl
        rw [et, hwe] at t1 t2 t3 t4
        congr 1
        unfold wordE
        rw [hz]
        refine firstQ_eq (Nat.zero_le _) (by omega) (fun j h5 h6 => ?_) (fun h5 => absurd h5 (by omega))
        show (!wdq (s.extract a e) j) = false
        rw [wd_ext h2 hf (by omega)]
        exact t3 _ (by omega) (by omega)
/-- A document by itself is one document, and all of it. -/
theorem one_doc (ha : a < s.size) (hf : Free s a) (hb : blq s a = false) (he : endR s a = some e) :
    progF (s.extract a e) (idxD (s.extract a e) (s.extract a e).size 0) [] 0 0 = ([(0, e - a)], -1) := by
  obtain ⟨h1, h2, h3⟩ := endR_ok ha hf hb he
  have hz : (s.extract a e).size = e - a := ext_size h2
  have h := prog_ref (s := s.extract a e) ((e - a) + 1) 0 0 [] (by omega) (Nat.zero_le _) free_zero
  rw [Nat.sub_zero] at h
  rw [← h]
  unfold refF
  rw [if_pos (by omega), bl_ext h2 hf (show a + 0 < e by omega), Nat.add_zero, hb, endR_ext ha hf hb he]
  simp only [Bool.false_eq_true, if_false]
  obtain ⟨n, hn⟩ : ∃ n, e - a = n + 1 := ⟨e - a - 1, by omega⟩
  rw [hn]
  unfold refF
  rw [if_neg (by omega)]
  rfl
/-- How the documents lie in a text, from a place on. -/
inductive Cov (s : ByteArray) : Nat → List (Nat × Nat) → Int → Prop
  | done (a : Nat) : a ≤ s.size → (∀ j, a ≤ j → j < s.size → blq s j = true) → Cov s a [] (-1)
  | bad (a b : Nat) : a ≤ b → (∀ j, a ≤ j → j < b → blq s j = true) → b < s.size → Free s b → blq s b = false → Cov s a [] (b : Int)
  | next (a p q : Nat) (l : List (Nat × Nat)) (z : Int) : a ≤ p → (∀ j, a ≤ j → j < p → blq s j = true) → p < s.size → Free s p → blq s p = false → endR s p = some q → Cov s q l z → Cov s a ((p, q) :: l) z
theorem Cov.skip {l : List (Nat × Nat)} {z : Int} (h : Cov s (a + 1) l z) (hb : blq s a = true) : Cov s a l z := by
  have key : ∀ n, (∀ j, a + 1 ≤ j → j < n → blq s j = true) → ∀ j, a ≤ j → j < n → blq s j = true := fun n hn j h1 h2 => by
    by_cases c : j = a
    · subst c; exact hb
    · exact hn j (by omega) h2
  cases h with
  | done _ h1 h2 => exact .done _ (by omega) (key _ h2)
  | bad _ b h1 h2 h3 h4 h5 => exact .bad _ _ (by omega) (key _ h2) h3 h4 h5
  | next _ p q l z h1 h2 h3 h4 h5 h6 h7 => exact .next _ _ _ _ _ (by omega) (key _ h2) h3 h4 h5 h6 h7
theorem cov_ref : ∀ (f a : Nat) (out : List (Nat × Nat)), s.size < a + f → a ≤ s.size → Free s a → ∃ l z, refF s f a out = (out ++ l, z) ∧ Cov s a l z
  | 0, a, out, h, h2, _ => absurd h (by omega)
  | f + 1, a, out, h, h2, hf => by
    unfold refF
    by_cases hlt : a < s.size
    · rw [if_pos hlt]
      cases hb : blq s a with
      | true =>
        rw [if_pos rfl]
        obtain ⟨hi, hw, _, _, hbg⟩ := bl_facts hb
        obtain ⟨l, z, e1, e2⟩ := cov_ref f (a + 1) out (by omega) (by omega) (free_next hi hw)
        exact ⟨l, z, e1, e2.skip hb⟩
      | false =>
        rw [if_neg (by decide)]
        cases he : endR s a with
        | none => exact ⟨[], (a : Int), by simp, .bad a a (Nat.le_refl _) (fun j h1 h2 => by omega) hlt hf hb⟩
        | some e =>
          obtain ⟨h3, h4, h5⟩ := endR_ok hlt hf hb he
          obtain ⟨l, z, e1, e2⟩ := cov_ref f e (out ++ [(a, e)]) (by omega) h4 h5
          exact ⟨(a, e) :: l, z, by simp [e1], .next a a e l z (Nat.le_refl _) (fun j h1 h2 => by omega) hlt hf hb he e2⟩
    · rw [if_neg hlt]
      exact ⟨[], -1, by simp, .done a h2 (fun j h1 h3 => by omega)⟩
theorem cov_all (s : ByteArray) : Cov s 0 (progF s (idxD s s.size 0) [] 0 0).1 (progF s (idxD s s.size 0) [] 0 0).2 := by
  obtain ⟨l, z, h1, h2⟩ := cov_ref (s := s) (s.size + 1) 0 [] (by omega) (Nat.zero_le _) free_zero
  have h := prog_ref (s := s) (s.size + 1) 0 0 [] (by omega) (Nat.zero_le _) free_zero
  rw [Nat.sub_zero] at h
  rw [← h, h1, List.nil_append]
  exact h2
end
end Go.Proofs.YtfihkkjkifkemaaDoorQ
end
-- PureStreamCovers
section
namespace Go.Proofs.YtfihkkjkifkemaaDoor.Pure
open Go Go.RowKit Go.Proofs.YtfihkkjkifkemaaDoor.PS Go.Proofs.YtfihkkjkifkemaaDoorW.PrintWords Go.Proofs.YtfihkkjkifkemaaDoorW.PrintLast Go.Proofs.YtfihkkjkifkemaaDoorQ
set_option linter.unusedVariables false
set_option linter.unusedSimpArgs false
def spS (x : Nat × Nat) : S36 := ⟨(x.1 : Int), (x.2 : Int)⟩
theorem blank_f (c : Int) : quarrylaw27_blank.f c = some (c == 32 || c == 9 || c == 10 || c == 13) := by
  unfold quarrylaw27_blank.f
  by_cases h1 : c = 32
  · rw [if_pos h1, h1]; rfl
  rw [if_neg h1]
  by_cases h2 : c = 9
  · rw [if_pos h2, h2]; rfl
  rw [if_neg h2]
  by_cases h3 : c = 10
  · rw [if_pos h3, h3]; rfl
  rw [if_neg h3]
  have e1 : (c == 32) = false := by rw [beq_eq_false_iff_ne]; exact h1
  have e2 : (c == 9) = false := by rw [beq_eq_false_iff_ne]; exact h2
  have e3 : (c == 10) = false := by rw [beq_eq_false_iff_ne]; exact h3
  rw [e1, e2, e3]
  rfl
theorem blx_i (s : ByteArray) (j : Nat) : blx (bt s (j : Int)).toNat = (bt s (j : Int) == 32 || bt s (j : Int) == 9 || bt s (j : Int) == 10 || bt s (j : Int) == 13) := by
  have h := bt_nn s j
  obtain ⟨n, hn⟩ : ∃ n : Nat, bt s (j : Int) = (n : Int) := ⟨_, (Int.toNat_of_nonneg h).symm⟩
  rw [hn, Int.toNat_natCast]
  unfold blx
  have key : ∀ m : Nat, ((n : Int) == (m : Int)) = (n == m) := fun m => by
    rw [Bool.eq_iff_iff, beq_iff_eq, beq_iff_eq]
    omega
  rw [show (32 : Int) = ((32 : Nat) : Int) from rfl, show (9 : Int) = ((9 : Nat) : Int) from rfl, show (10 : Int) = ((10 : Nat) : Int) from rfl, show (13 : Int) = ((13 : Nat) : Int) from rfl, key, key, key, key]
theorem blank_is {s : ByteArray} {j : Nat} (h : blq s j = true) : quarrylaw27_blank.f (bt s (j : Int)) = some true := by
  rw [blank_f, ← blx_i]
  unfold blq at h
  simp only [Bool.and_eq_true] at h
  rw [h.1]
theorem blank_not {s : ByteArray} {b : Nat} (hb : b < s.size) (hf : Free s b) (h : blq s b = false) : quarrylaw27_blank.f (bt s (b : Int)) = some false := by
  rw [blank_f, ← blx_i]
  congr 1
  apply Classical.byContradiction
  intro c
  have c : blx (bt s (b : Int)).toNat = true := by simpa using c
  obtain ⟨hp, _⟩ := hf hb
  have hm : mkq s b = false := by
    unfold mkq
    have : decide (bt s (b : Int) = 34) = false := by
      apply decide_eq_false
      intro e
      rw [e] at c
      revert c
      decide
    rw [this, Bool.false_and]
  have hi : insS s b = false := by
    show par (mkq s) (b + 1) = false
    rw [par_succ, hp, hm]
    rfl
  unfold blq outq at h
  rw [c, hm, hi] at h
  cases h
theorem w27c {i : Nat} (h : i ≤ 1048576) : wrap64 ((i : Int) + 1) = ((i + 1 : Nat) : Int) := by
  unfold wrap64
  omega
theorem blanks_go (s : ByteArray) (hn : s.size ≤ 1048576) (X : List S36) (bad en i : Int) (tp : Nat) (ht : tp ≤ s.size) : ∀ (d p k : Nat), p + d = tp → (∀ j, p ≤ j → j < tp → blq s j = true) →
    quarrylaw27_StreamCovers.l1 (k + d) s X bad en (p : Int) i (tp : Int) = quarrylaw27_StreamCovers.l1 k s X bad en (tp : Int) i (tp : Int)
  | 0, p, k, h, _ => by
    rw [Nat.add_zero] at h
    subst h
    rfl
  | d + 1, p, k, h, hb => by
    have hw : wrap64 ((p : Int) + 1) = ((p + 1 : Nat) : Int) := w27c (by omega)
    have ih := blanks_go s hn X bad en i tp ht d (p + 1) k (by omega) (fun j h1 h2 => hb j (by omega) h2)
    rw [← ih, ← Nat.add_assoc]
    rw [quarrylaw27_StreamCovers.l1, if_pos (by omega), if_pos (by omega), if_pos (by omega), blank_is (hb p (Nat.le_refl _) (by omega)), Option.bind_some, if_pos rfl, hw]
theorem cov_le {s : ByteArray} {a : Nat} {l : List (Nat × Nat)} {z : Int} (h : Cov s a l z) : a ≤ s.size ∧ ((z = -1) ∨ ((a : Int) ≤ z ∧ z < (s.size : Int))) := by
  induction h with
  | done a h _ => exact ⟨h, .inl rfl⟩
  | bad a b h1 _ h3 _ _ => exact ⟨by omega, .inr ⟨by omega, by omega⟩⟩
  | next a p q l z h1 _ h3 h4 h5 h6 _ ih =>
    have := endR_ok h3 h4 h5 h6
    refine ⟨by omega, ih.2.imp id fun h => ⟨by omega, h.2⟩⟩
theorem covers_loop (s : ByteArray) (hn : s.size ≤ 1048576) (L : List (Nat × Nat)) (hL : L.length ≤ 1048576) (bad en : Int) (hen : en = if bad ≥ 0 then bad else (s.size : Int)) :
    ∀ (a : Nat) (l : List (Nat × Nat)) (z : Int), Cov s a l z → z = bad → ∀ (i k : Nat), i ≤ L.length → L.drop i = l → 5 * l.length + (s.size - a) + 20 < k →
    quarrylaw27_StreamCovers.l0 k s (L.map spS) bad en (a : Int) (i : Int) = some true := by
  intro a l z hc
  have hlm : (L.map spS).length = L.length := List.length_map ..
  induction hc with
  | done a h1 h2 =>
    intro hz i k hi hd hk
    subst hz
    have hie : i = L.length := by
      have := congrArg List.length hd
      rw [List.length_drop, List.length_nil] at this
      omega
    have he : en = (s.size : Int) := by rw [hen, if_neg (by decide)]
    obtain ⟨k, rfl⟩ : ∃ j, k = j + 5 + (s.size - a) := ⟨k - 5 - (s.size - a), by omega⟩
    rw [he, show k + 5 + (s.size - a) = (k + 2 + (s.size - a)) + 1 + 1 + 1 by omega]
    rw [quarrylaw27_StreamCovers.l0, if_pos (by omega), if_neg (by omega), quarrylaw27_StreamCovers.j3, if_neg (by omega), decide_eq_false (by omega), quarrylaw27_StreamCovers.j4, if_neg (by decide)]
    rw [blanks_go s hn _ _ _ _ s.size (Nat.le_refl _) (s.size - a) a (k + 2) (by omega) h2]
    rw [quarrylaw27_StreamCovers.l1, if_neg (by omega), if_pos (by omega), if_pos (by decide)]
  | bad a b h1 h2 h3 h4 h5 =>
    intro hz i k hi hd hk
    have hie : i = L.length := by
      have := congrArg List.length hd
      rw [List.length_drop, List.length_nil] at this
      omega
    have he : en = (b : Int) := by rw [hen, ← hz, if_pos (by omega)]
    obtain ⟨k, rfl⟩ : ∃ j, k = j + 5 + (b - a) := ⟨k - 5 - (b - a), by omega⟩
    rw [he, ← hz, show k + 5 + (b - a) = (k + 2 + (b - a)) + 1 + 1 + 1 by omega]
    rw [quarrylaw27_StreamCovers.l0, if_pos (by omega), if_neg (by omega), quarrylaw27_StreamCovers.j3, if_neg (by omega), decide_eq_false (by omega), quarrylaw27_StreamCovers.j4, if_neg (by decide)]
    rw [blanks_go s hn _ _ _ _ b (by omega) (b - a) a (k + 2) (by omega) h2]
    rw [quarrylaw27_StreamCovers.l1, if_neg (by omega), if_pos (by omega), if_neg (by omega), if_pos (by omega), if_pos (by omega), blank_not h3 h4 h5, Option.bind_some]
    rfl
  | next a p q l z h1 h2 h3 h4 h5 h6 hcov ih =>
    intro hz i k hi hd hk
    obtain ⟨q1, q2, q3⟩ := endR_ok h3 h4 h5 h6
    have hlt : i < L.length := by
      have := congrArg List.length hd
      rw [List.length_drop, List.length_cons] at this
      omega
    have hcons := List.drop_eq_getElem_cons hlt
    rw [hd] at hcons
    injection hcons with hx hl
    have hqe : (q : Int) ≤ en := by
      rcases (cov_le hcov).2 with h | h
      · rw [hen, ← hz, h, if_neg (by decide)]
        omega
      · rw [hen, ← hz, if_pos (by omega)]
        exact h.1
    have hrd : rd_T36 (L.map spS) (i : Int) = ⟨(p : Int), (q : Int)⟩ := by
      unfold rd_T36
      rw [Int.toNat_natCast, List.getD_eq_getElem?_getD, List.getElem?_map, List.getElem?_eq_getElem hlt, ← hx]
      rfl
    obtain ⟨k, rfl⟩ : ∃ j, k = j + 5 + (p - a) := ⟨k - 5 - (p - a), by rw [List.length_cons] at hk; omega⟩
    rw [show k + 5 + (p - a) = (k + 2 + (p - a)) + 1 + 1 + 1 by omega]
    rw [quarrylaw27_StreamCovers.l0, if_pos (by omega), if_pos (by omega), if_pos (by omega), hrd]
    dsimp only
    rw [quarrylaw27_StreamCovers.j3, if_neg (by omega), decide_eq_false (by omega), quarrylaw27_StreamCovers.j4, if_neg (by decide)]
    rw [blanks_go s hn _ _ _ _ p (by omega) (p - a) a (k + 2) (by omega) h2]
    rw [quarrylaw27_StreamCovers.l1, if_neg (by omega), if_neg (by omega), if_pos (by omega), if_pos (by omega), hrd]
    dsimp only
    rw [if_neg (by omega), decide_eq_false (by omega), quarrylaw27_StreamCovers.j6, if_neg (by decide), if_pos (by omega), if_pos (by omega), hrd]
    dsimp only
    rw [if_pos (by omega), if_pos (by omega), if_pos (by omega), Int.toNat_natCast, Int.toNat_natCast]
    have hzx : (s.extract p q).size = q - p := ext_size q2
    have hone : stream_Split.f (s.extract p q) = some ([⟨((0 : Nat) : Int), ((q - p : Nat) : Int)⟩], -1) := by
      unfold stream_Split.f splitF
      rw [if_pos (by omega), one_doc h3 h4 h5 h6]
      rfl
    rw [hone, Option.bind_some]
    have hr0 : rd_T36 [⟨((0 : Nat) : Int), ((q - p : Nat) : Int)⟩] 0 = ⟨((0 : Nat) : Int), ((q - p : Nat) : Int)⟩ := rfl
    dsimp only
    have c1 : ((([⟨((0 : Nat) : Int), ((q - p : Nat) : Int)⟩] : List S36).length : Nat) : Int) = 1 := rfl
    rw [if_pos (rfl : (-1 : Int) = -1), c1, if_pos (rfl : (1 : Int) = 1), if_pos (show (0 : Int) < 1 by decide), hr0]
    dsimp only
    have hw : wrap64 ((q : Int) - (p : Int)) = ((q - p : Nat) : Int) := by unfold wrap64; omega
    have c2 : ((!((((0 : Nat) : Int)) == 0)) || (!(((q - p : Nat) : Int) == ((q - p : Nat) : Int)))) = false := by rw [beq_self_eq_true]; rfl
    rw [hw, c2, if_neg (by decide), w27c (by omega)]
    refine ih hz (i + 1) (k) (by omega) hl.symm ?_
    rw [List.length_cons] at hk
    omega
theorem StreamCovers (s : ByteArray) (hn : s.size ≤ 1048576) : ∃ k, quarrylaw27_StreamCovers.f k s = some true := by
  have hl : (splitF s).1.length ≤ 1048576 := by
    have h1 := progF_len s (idxD s s.size 0) [] 0 0
    have h2 := idxL_length s s.size
    rw [idxD_all, List.length_map] at h2
    unfold splitF
    rw [List.length_nil] at h1
    omega
  have hc : Cov s 0 (splitF s).1 (splitF s).2 := cov_all s
  obtain ⟨_, hz⟩ := cov_le hc
  refine ⟨5 * (splitF s).1.length + s.size + 50, ?_⟩
  unfold quarrylaw27_StreamCovers.f
  have e1 : stream_Split.f s = some ((splitF s).1.map spS, (splitF s).2) := by
    unfold stream_Split.f
    rw [if_pos hn]
    rfl
  rw [e1, Option.bind_some]
  dsimp only
  have key : ∀ en : Int, en = (if (splitF s).2 ≥ 0 then (splitF s).2 else (s.size : Int)) →
      quarrylaw27_StreamCovers.j0 (5 * (splitF s).1.length + s.size + 50) s ((splitF s).1.map spS) (splitF s).2 en = some true := fun en hen => by
    rw [quarrylaw27_StreamCovers.j0, if_neg (by omega), decide_eq_false (by omega), quarrylaw27_StreamCovers.j1, if_neg (by decide)]
    exact covers_loop s hn (splitF s).1 hl (splitF s).2 en hen 0 (splitF s).1 (splitF s).2 hc rfl 0 _ (Nat.zero_le _) rfl (by omega)
  by_cases h0 : (splitF s).2 ≥ 0
  · rw [if_pos h0]
    exact key _ (by rw [if_pos h0])
  · rw [if_neg h0]
    exact key _ (by rw [if_neg h0])

end Go.Proofs.YtfihkkjkifkemaaDoor.Pure
end
namespace Go.Proofs.YtfihkkjkifkemaaDoor.streamCovers
open Go.ChangeShapes Go.WideShapes Go.ChangeAt Go.RowKit
open Go.ChangeMaps (open_string shut_string)
set_option linter.unusedVariables false
set_option linter.unusedSimpArgs false
theorem own : ownKnob Tryd.prog.godebug = none := by kernel_rfl
theorem gTab : Tryd.prog.globalNamed "math/bits.deBruijn64tab" = some 0 := by kernel_rfl
theorem gTabType : (Tryd.prog.globals[0]?).map (·.type) = some 106 := by kernel_rfl
theorem cellsTab : Tryd.prog.cellsOf 106 = 64 := by kernel_rfl
theorem cellsByte : Tryd.prog.cellsOf 5 = 1 := by kernel_rfl
def tabZ : List Int := [0, 1, 56, 2, 57, 49, 28, 3, 61, 58, 42, 50, 38, 29, 17, 4, 62, 47, 59, 36, 45, 43, 51, 22, 53, 39, 33, 30, 24, 18, 12, 5, 63, 55, 48, 27, 60, 41, 37, 16, 46, 35, 44, 21, 52, 32, 23, 11, 54, 26, 40, 15, 34, 20, 31, 10, 25, 14, 19, 9, 13, 8, 7, 6]
theorem table {W : World} (h : laidMetH Tryd.prog Rows.streamCoversUptoRow.laid W) : Lib.TabIs Tryd.prog W "math/bits.deBruijn64tab" .u8 tabZ :=
  Lib.tabIs_of_head (rest := []) gTab gTabType Tryd.underlying106 Tryd.underlying5 cellsByte cellsTab h
theorem tab_eq : ∀ j, j < 64 → tabZ.getD j 0 = ((Lib.deBruijn64tab.getD j 0 : Nat) : Int) := by decide
theorem tabOk {W : World} (h : laidMetH Tryd.prog Rows.streamCoversUptoRow.laid W) : Go.Proofs.YtfihkkjkifkemaaDoorM.TabOk W := ⟨fun j hj => by
  have h64 : j < 64 := hj
  rw [(table h).cell gTab j h64, tab_eq j h64]⟩
noncomputable def laidWorld (os : Os) : World :=
  { World.holding Tryd.prog os ⟨#[], #[], []⟩ with heap := (World.holding Tryd.prog os ⟨#[], #[], []⟩).heap.modify 0 fun
      | .cells _ t frozen => .cells #[.int .u8 0, .int .u8 1, .int .u8 56, .int .u8 2, .int .u8 57, .int .u8 49, .int .u8 28, .int .u8 3, .int .u8 61, .int .u8 58, .int .u8 42, .int .u8 50, .int .u8 38, .int .u8 29, .int .u8 17, .int .u8 4, .int .u8 62, .int .u8 47, .int .u8 59, .int .u8 36, .int .u8 45, .int .u8 43, .int .u8 51, .int .u8 22, .int .u8 53, .int .u8 39, .int .u8 33, .int .u8 30, .int .u8 24, .int .u8 18, .int .u8 12, .int .u8 5, .int .u8 63, .int .u8 55, .int .u8 48, .int .u8 27, .int .u8 60, .int .u8 41, .int .u8 37, .int .u8 16, .int .u8 46, .int .u8 35, .int .u8 44, .int .u8 21, .int .u8 52, .int .u8 32, .int .u8 23, .int .u8 11, .int .u8 54, .int .u8 26, .int .u8 40, .int .u8 15, .int .u8 34, .int .u8 20, .int .u8 31, .int .u8 10, .int .u8 25, .int .u8 14, .int .u8 19, .int .u8 9, .int .u8 13, .int .u8 8, .int .u8 7, .int .u8 6] t frozen
      | o => o }
theorem laid_met (os : Os) : laidMet Tryd.prog Rows.streamCoversUptoRow.laid ((laidWorld os).forCall (fun _ _ => 0) ⟨#[], #[.string ByteArray.empty], []⟩).memory :=
  laidMet_of_run' 8 (by kernel_rfl) (by kernel_rfl)
theorem reads (os : Os) {H : Type} (enc : TypeId × Value → H) : ∃ places, DataW.whole enc Tryd.prog ((laidWorld os).forCall (fun _ _ => 0) ⟨#[], #[.string ByteArray.empty], []⟩).memory Tryd.f6.params.toList Rows.streamCoversSpec.vars false (#[.string ByteArray.empty] : Array Value).toList 8 = some ([.lit (.string [])], [], places) :=
  ⟨[], by kernel_rfl⟩
set_option maxRecDepth 100000 in
theorem lifted (os : Os) (started : os.Started) (H : Type) (enc : TypeId × Value → H) (F : Stop.Interp) :
    ReturnsInHanded {} Tryd.checked os 6 .any ((Rows.OpenSpec.upto Rows.streamCoversSpec).preRow enc Tryd.prog Tryd.f6 Rows.streamCoversUptoRow.domain false Rows.streamCoversUptoRow.laid) (((Rows.OpenSpec.upto Rows.streamCoversSpec).at F).post enc Tryd.prog Tryd.f6 false true false false) := by
  obtain ⟨places, hx⟩ := reads os enc
  refine returnsInHanded_of_row (C := Tryd.checked) (s := Rows.OpenSpec.upto Rows.streamCoversSpec) own started (by kernel_rfl) Tryd.func6
    (witness_row_at (enc := enc) (C := Tryd.checked) false (laidWorld os) #[.string ByteArray.empty] rfl (by kernel_rfl) (by kernel_rfl) (by kernel_rfl)
      (OpenSpec.preRow_of_cond 8 hx (by kernel_rfl) (fun k hk => by cases hk; kernel_rfl) (by kernel_rfl) (laid_met os))) ?_
  intro W base args ds gs before hval0 hW hcnd hk0 hsz0 hL _ _
  have hsz : (DataW.weightsEach Tryd.prog (Tryd.f6.params.toList ++ Rows.streamCoversSpec.plain.varTypes Tryd.prog) (ds ++ gs)).all (· ≤ reachBytes) = true := hsz0
  have hval : ∀ (j : Nat) t v, Tryd.f6.params[j]? = some t → args[j]? = some v → Value.okWide Tryd.prog W .any base t v := hval0
  have hW' := hW
  obtain ⟨p, q, hA0, hV, rfl, hfz, hnd⟩ := hW
  have hA : DataW.TrodAll enc Tryd.prog W 0 (fun _ => true) true Tryd.f6.params.toList args.toList ds p := hA0
  rw [Tryd.params6] at hA hval hsz
  obtain ⟨v0, vs0, d0, ds0, p0, q0, hargs, rfl, rfl, h0, r0⟩ := trodAll_cons hA
  obtain ⟨rfl, rfl, rfl⟩ := trodAll_nil r0
  obtain rfl : args = #[v0] := by cases args; simp_all
  obtain ⟨rfl, rfl⟩ := trodVars_none hV
  obtain ⟨a0, rfl, rfl, rfl, y0⟩ := open_string Tryd.underlying9 (hval 0 9 v0 rfl rfl) h0
  have w0 : a0.size ≤ 140737488351232 := by
    have z := sized_string hsz (j := 0) (t := 9) rfl rfl
    rw [Array.length_toList] at z
    exact z
  clear hA0 hval0 hsz0 hsz
  have hk1 : Rows.uptoBulkAll _ ≤ 1048576 := of_decide_eq_true (hk0 _ rfl)
  simp only [Rows.uptoBulkAll, Rows.uptoBulk, List.append_nil, List.nil_append, List.cons_append] at hk1
  have e0_ : a0.data.toList.length = a0.size := by rw [Array.length_toList]; rfl
  have s0_ : a0.size ≤ 1048576 := by omega
  obtain ⟨k, hk⟩ := Pure.StreamCovers a0 s0_
  refine (PS.quarrylaw27_StreamCovers.calls k a0 true W (tabOk hL) hk).mono fun e W' ⟨he, bel⟩ => ?_
  subst he
  exact ⟨_, rfl, _, _, _, [], _, [], hW', trodAll_mk1 (shut_bool Tryd.underlying4 _), (trodAll_cons_mk (shut_string Tryd.underlying9 y0) trodAll_mk0), rfl, bel.frame _, fun h => by cases h⟩
theorem over : Rows.streamCoversUptoRow.holds Tryd.pinned (Rows.OpenSpec.upto Rows.streamCoversSpec) :=
  OpenClaim.holds_of_cond 6 Tryd.f6 rfl rfl rfl rfl rfl rfl rfl ⟨rfl, rfl, rfl, rfl, rfl⟩ rfl rfl rfl rfl rfl (by kernel_rfl) Tryd.func6 (by kernel_rfl)
    (of_decide_eq_true (by kernel_rfl)) (by unfold Func.isWrapper; first | (rw [if_pos (by decide +kernel)]; kernel_rfl) | (rw [if_neg (by decide +kernel)]; exact ⟨rfl, rfl⟩))
    (fun os started H enc _ F => by rw [OpenClaim.pre_eq_preRow]; exact lifted os started H enc F)
theorem said : Rows.StreamCoversUptoSaid := over
theorem plain (f : FuncId) (fn : Func) (hf : Tryd.pinned.checked.prog.funcNamed "quarry/quarrylaw27.StreamCovers" = some f) (hfn : Tryd.pinned.checked.prog.funcs[f]? = some fn) :
    false = Tryd.pinned.checked.prog.looks [] ∧ ∀ (j : Nat) t, fn.params[j]? = some t → Tryd.pinned.checked.prog.wantsStandIn t = false := by
  obtain rfl : f = 6 := Option.some.inj ((show Tryd.prog.funcNamed "quarry/quarrylaw27.StreamCovers" = some 6 by kernel_rfl).symm.trans hf) |>.symm
  obtain rfl : fn = Tryd.f6 := (Option.some.inj (Tryd.func6.symm.trans hfn)).symm
  refine ⟨by kernel_rfl, fun j t ht => ?_⟩
  rw [Tryd.params6] at ht
  have hm := Array.mem_of_getElem? ht
  simp only [List.mem_toArray, List.mem_cons, List.not_mem_nil, or_false] at hm
  subst hm
  exact (show Tryd.prog.wantsStandIn 9 = false by kernel_rfl)
theorem card : Rows.StreamCoversUptoCardSaid :=
  Claim7.holds_tied_plain_at .later [] _ _ _ _ said (fun _ h => by cases h) (by kernel_rfl) (fun _ h => by cases h) streamCoversUpto_row_tie rfl ⟨rfl, rfl⟩ (by kernel_rfl) rfl plain (by kernel_rfl)
#print axioms card
end Go.Proofs.YtfihkkjkifkemaaDoor.streamCovers
namespace Go.Proofs.YtfihkkjkifkemaaDoor
/-- The card, under a short name, for the claim. -/
theorem streamCovers_holds : Rows.StreamCoversUptoCardSaid := streamCovers.card
end Go.Proofs.YtfihkkjkifkemaaDoor
