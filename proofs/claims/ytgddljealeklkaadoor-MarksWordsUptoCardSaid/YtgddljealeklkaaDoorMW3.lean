/- Parts of a claim (MW), packed by a program (pack.py) out of the texts that it names. -/
import Derived.Test.YtgddljealeklkaaDoorCards
import Derived.Test.YtgddljealeklkaaDoorTie
import Derived.WalkKit
import Derived.ProofKit
import Derived.OpenShut
import Derived.ShutString
import Derived.ChangeOld
import Derived.Below
import Derived.SizedLaws
import Derived.Deep.DeepHandedRow
import Derived.Lib.LaidTab
import Derived.Test.YtgddljealeklkaaDoorMW2
-- PWx5
section
namespace Go.Proofs.YtgddljealeklkaaDoor.PW
open Go.RowKit Go.Proofs.YtgddljealeklkaaDoorW.PrintWords Go.Proofs.YtgddljealeklkaaDoorW.PrintLast Go.Proofs.YtgddljealeklkaaDoorW.PrintMore
attribute [local go_sem] max2_int min2_int max_two min_two max_three min_three max_four min_four   -- for this text's walks alone
set_option linter.unusedVariables false
set_option linter.unusedSimpArgs false

def quarryref07_marks.l0 : Nat → ByteArray → List Bool → Bool → Int → Option (List Bool)
  | 0, _, _, _, _ => none
  | k + 1, x0, x3, x4, x5 => if x5 < (x0.size : Int) then (if 0 ≤ x5 then (if (bt x0 x5) = 34 then (if x5 < (x3.length : Int) then ((some (x3.set (x5 : Int).toNat (!x4) : List Bool)).bind fun y111 => (if (bt x0 x5) = 92 then (quarryref07_marks.l0 k x0 y111 (!x4) (wrap64 (x5 + 1))) else (quarryref07_marks.l0 k x0 y111 false (wrap64 (x5 + 1))))) else (none)) else (if x5 < (x3.length : Int) then ((some (x3.set (x5 : Int).toNat false : List Bool)).bind fun y112 => (if (bt x0 x5) = 92 then (quarryref07_marks.l0 k x0 y112 (!x4) (wrap64 (x5 + 1))) else (quarryref07_marks.l0 k x0 y112 false (wrap64 (x5 + 1))))) else (none))) else (none)) else (some x3)
def quarryref07_marks.f (k : Nat) (a0 : ByteArray) : Option (List Bool) := if 0 ≤ (a0.size : Int) then (if ((a0.size : Int) : Int).toNat ≤ 281474976710656 then (quarryref07_marks.l0 k a0 (List.replicate ((a0.size : Int) : Int).toNat false) false 0) else (none)) else (none)
theorem quarryref07_marks.mono_l : ∀ k, (∀ y0 y1 y2 y3, LeO (quarryref07_marks.l0 k y0 y1 y2 y3) (quarryref07_marks.l0 (k + 1) y0 y1 y2 y3))
  | 0 => fun _ _ _ _ r h => by simp [quarryref07_marks.l0] at h
  | k + 1 => by
    have ih0 := quarryref07_marks.mono_l k
    · intro y0 y1 y2 y3
      unfold quarryref07_marks.l0
      repeat' first
      | (with_reducible exact ih0 _ _ _ _)
      | (with_reducible exact LeO.refl _)
      | (with_reducible exact LeO.none _)
      | (with_reducible refine LeO.ite ?_ ?_)
      | (with_reducible refine LeO.bind ?_ (fun _ => ?_))
      | exact ih0 _ _ _ _
      | exact LeO.none _
      | refine LeO.ite ?_ ?_
      | refine LeO.bind ?_ (fun _ => ?_)
theorem quarryref07_marks.mono : ∀ a0 k, LeO (quarryref07_marks.f k a0) (quarryref07_marks.f (k + 1) a0) := by
  intro a0 k
  have ih0 := quarryref07_marks.mono_l k
  unfold quarryref07_marks.f
  repeat' first
      | (with_reducible exact ih0 _ _ _ _)
      | (with_reducible exact LeO.refl _)
      | (with_reducible exact LeO.none _)
      | (with_reducible refine LeO.ite ?_ ?_)
      | (with_reducible refine LeO.bind ?_ (fun _ => ?_))
      | exact ih0 _ _ _ _
      | exact LeO.none _
      | refine LeO.ite ?_ ?_
      | refine LeO.bind ?_ (fun _ => ?_)
set_option maxHeartbeats 8000000 in
set_option maxRecDepth 100000 in
theorem quarryref07_marks.calls (k : Nat) (a0 : ByteArray) (r : List Bool) (w : World) (h : quarryref07_marks.f k a0 = some r) :
    Calls Tryd.prog 110 #[.string a0] w fun e w' => ∃ v0_ : Value, e = .returned (v0_) ∧ Kd.R Kd.bool 4 w' w.heap.size (fun _ => True) v0_ r ∧ Below w.heap.size w w' := by
  have HB := Aside0.mk (Below.refl w.heap.size w)
  have H : (if 0 ≤ (a0.size : Int) then (if ((a0.size : Int) : Int).toNat ≤ 281474976710656 then (quarryref07_marks.l0 k a0 (List.replicate ((a0.size : Int) : Int).toNat false) false 0) else (none)) else (none)) = some r := h
  clear h
  by_cases c2 : 0 ≤ (a0.size : Int)
  · rw [if_pos c2] at H
    have c2b0 := eq_true c2
    have c2b1 : decide (0 ≤ (a0.size : Int)) = true := decide_eq_true c2
    clear c2
    by_cases c3 : ((a0.size : Int) : Int).toNat ≤ 281474976710656
    · rw [if_pos c3] at H
      have c3b0 := eq_true c3
      have c3b1 : decide (((a0.size : Int) : Int).toNat ≤ 281474976710656) = true := decide_eq_true c3
      clear c3
      obtain ⟨y108, hy108⟩ : ∃ y_ : List Bool, y_ = (List.replicate ((a0.size : Int) : Int).toNat false) := ⟨_, rfl⟩
      replace H : (quarryref07_marks.l0 k a0 y108 false 0) = some r := by first | (rw [hy108]; with_reducible exact H) | (have H2_ := (Option.bind_some _ _).symm.trans H; rw [hy108]; with_reducible exact H2_) | (have H2_ := (Option.bind_some _ _).symm.trans H; with_reducible exact H2_) | with_reducible exact H | (rw [hy108]; exact H) | exact H
      have Ny108 := Aside0.mk hy108
      clear hy108
      have H' := Aside0.mk H
      clear H
      go_enter Tryd.func110, Tryd.ntmps110
      go_wp2_with (first | ((with_reducible refine gate_dst (N := 8) rfl ?_); refine Kd.R_make Kd.bool _ 4 rfl (N := 8) rfl 38 _ _ rfl (a0.size : Int) rfl rfl Tryd.underlying38 (.bool false) 1 info4 rfl (by decide) (by omega) false (ok := fun _ => True) (okp := fun _ => True) rfl (fun _ hk => hk) trivial (of_decide_eq_true (by first | (with_reducible assumption) | assumption)) (Nat.le_trans (Nat.mul_le_mul_right _ (of_decide_eq_true (by first | (with_reducible assumption) | assumption) : (a0.size : Int).toNat ≤ 281474976710656)) (by omega)) (Below.refl _ _) (Nat.le_refl _) ?_; intro v109 w4 ho5 hb hg_ hnew_; clear hg_ hnew_; (first | rw [← Ny108.out] at ho5 | (simp only [Int.reduceToNat] at ho5; rw [← Ny108.out] at ho5)); have n0_ := Aside0.mk (Kd.R_lower ho5 (below_size (by repeat (first | (with_reducible first | exact HB.out | apply below_alloc | apply pw_below_drewN | apply below_drew1) | exact HB.out)))); have n1_ := Aside0.mk (below_step (by repeat (first | (with_reducible first | exact HB.out | apply below_alloc | apply pw_below_drewN | apply below_drew1) | exact HB.out)) hb); clear HB; have HO110 := n0_; have HB := n1_; clear n0_ n1_; clear hb ho5))
      go_loopg [4, 5] k (fun kq v4 v5 w' => ∃ (x3_1 : List Bool) (x4_1 : Bool) (x5_1 : Int), v4 = .bool x4_1 ∧ v5 = .int .i64 x5_1 ∧ Aside0 (quarryref07_marks.l0 kq a0 x3_1 x4_1 x5_1 = some r) ∧ Aside0 (kq ≤ k) ∧ Aside0 (Kd.R Kd.bool 4 w' w.heap.size (fun _ => True) v109 x3_1) ∧ Aside0 (Below w.heap.size w w'))
      case atStart => exact ⟨(y108), (false), (0), (by first | rfl | (simp; done) | (simp [*]; done)), (by first | rfl | (simp; done) | (simp [*]; done)), H', ⟨Nat.le_refl _⟩, ⟨by (with_reducible repeat (first | apply Kd.R_alloc | apply Kd.R_drewN | apply Kd.R_drew)); exact HO110.out⟩, ⟨by repeat (first | (with_reducible first | exact HB.out | apply below_alloc | apply pw_below_drewN | apply below_drew1) | exact HB.out)⟩⟩
      case round =>
        clear H'
        try clear c1
        try clear c2
        try clear c2b0
        try clear c2b1
        try clear p2
        try clear c3
        try clear c3b0
        try clear c3b1
        obtain ⟨x3_1, x4_1, x5_1, rfl, rfl, HA, HK1, HO_3, HB⟩ := hrel
        cases gk with
        | zero => exact absurd HA.out (by simp [quarryref07_marks.l0])
        | succ k1 =>
          have H := HA.out
          clear HA
          simp only [quarryref07_marks.l0] at H
          by_cases c6 : x5_1 < (a0.size : Int)
          · rw [if_pos c6] at H
            have c6b0 : decide (x5_1 < (a0.size : Int)) = true := decide_eq_true c6
            clear c6
            by_cases c7 : 0 ≤ x5_1
            · rw [if_pos c7] at H
              have c7b0 : decide (0 ≤ x5_1) = true := decide_eq_true c7
              clear c7
              by_cases c9 : (bt a0 x5_1) = 34
              · rw [if_pos c9] at H
                have c9b0 : ((bt a0 x5_1) == 34) = true := beq_iff_eq.mpr c9
                have c9b1 : ((bt a0 x5_1) != 34) = false := bne_eq_false_iff_eq.mpr c9
                clear c9
                by_cases c10 : x5_1 < (x3_1.length : Int)
                · rw [if_pos c10] at H
                  have c10b0 : decide (x5_1 < (x3_1.length : Int)) = true := decide_eq_true c10
                  clear c10
                  obtain ⟨y111, hy111⟩ : ∃ y_ : List Bool, y_ = (x3_1.set (x5_1 : Int).toNat (!x4_1)) := ⟨_, rfl⟩
                  replace H : (if (bt a0 x5_1) = 92 then (quarryref07_marks.l0 k1 a0 y111 (!x4_1) (wrap64 (x5_1 + 1))) else (quarryref07_marks.l0 k1 a0 y111 false (wrap64 (x5_1 + 1)))) = some r := by first | (rw [hy111]; with_reducible exact H) | (have H2_ := (Option.bind_some _ _).symm.trans H; rw [hy111]; with_reducible exact H2_) | (have H2_ := (Option.bind_some _ _).symm.trans H; with_reducible exact H2_) | with_reducible exact H | (rw [hy111]; exact H) | exact H
                  have Ny111 := Aside0.mk hy111
                  clear hy111
                  by_cases c13 : (bt a0 x5_1) = 92
                  · rw [if_pos c13] at H
                    have c13b0 : ((bt a0 x5_1) == 92) = true := beq_iff_eq.mpr c13
                    have c13b1 : ((bt a0 x5_1) != 92) = false := bne_eq_false_iff_eq.mpr c13
                    clear c13
                    have H' := Aside0.mk H
                    clear H
                    have p8 : 0 ≤ (x5_1 : Int) := of_decide_eq_true (by first | (with_reducible assumption) | assumption)
                    have q8 : x5_1 < (a0.size : Int) := of_decide_eq_true (by first | (with_reducible assumption) | assumption)
                    have hx8 := bt_at a0 x5_1
                    replace p8 := eq_true p8
                    replace q8 := eq_true q8
                    have p11 : 0 ≤ (x5_1 : Int) := of_decide_eq_true (by first | (with_reducible assumption) | assumption)
                    have q11 : (x5_1 : Int) < ((x3_1.length : Int) : Int) := of_decide_eq_true (by first | (with_reducible assumption) | assumption)
                    obtain ⟨go11, co11, eo11, gb11, gl11, cl11, HG11⟩ := Kd.R_form HO_3.out (by omega)
                    (first | cases eo11 | (injection eo11 with ea_ en_ ec_; (first | subst ea_ | (injection ea_ with ea_; subst ea_)); subst ec_; clear en_))
                    have GB11 := Aside0.mk gb11
                    have GG11 := Aside0.mk HG11
                    clear gb11 gl11 HG11
                    obtain ⟨hx11_0, hf11_0⟩ := Kd.R_celln false HO_3.out (x5_1 : Int) p11 q11
                    replace p11 := eq_true p11
                    replace q11 := eq_true q11
                    have HP14 := Kd.R_putg HO_3.out (x5_1 : Int) (!x4_1)
                    go_wp2_with (first | ((with_reducible refine gate_store (t := 4) (p := 25) rfl ?_); refine store_event (t := 4) (p := 25) (v := ?vo_w15) (w1 := (wr.setCell ⟨go11, (x5_1 : Int).toNat, none⟩ (.bool (!x4_1)))) ?hg ?ho ?hn ?hr ?_; (case ho => rfl); (case hg => rfl); (case hn => rfl); (case hr => first | (go_simp; done) | (go_simp; rfl)); intro w15 hw; have hg : wr.grownBy w15 (some go11) := (by rw [hw]; exact HP14.2); have hp_ : Kd.R Kd.bool 4 w15 w.heap.size (fun _ => True) (.slice (some ⟨go11, 0, none⟩) x3_1.length co11) y111 := (by rw [hw, Ny111.out]; exact HP14.1); clear HP14; have n0_ := Aside0.mk (hp_); have n1_ := Aside0.mk ((by rw [hw]; exact below_set (HB.out) GB11.out : Below w.heap.size w w15)); clear HO_3; clear HB; have HO_3 := n0_; have HB := n1_; clear n0_ n1_; clear hg hw hp_; have p12 : 0 ≤ (x5_1 : Int) := of_decide_eq_true (by first | (with_reducible assumption) | assumption); have q12 : x5_1 < (a0.size : Int) := of_decide_eq_true (by first | (with_reducible assumption) | assumption); have hx12 := bt_at a0 x5_1; replace p12 := eq_true p12; replace q12 := eq_true q12))
                    go_roundg k1
                    case measure => have := HK1.out; omega
                    case rel => exact ⟨(y111), (!x4_1), (wrap64 (x5_1 + 1)), (by first | rfl | (simp; done) | (simp [*]; done)), (by first | rfl | (simp; done) | (simp [*]; done)), H', ⟨by have := HK1.out; omega⟩, ⟨by (with_reducible repeat (first | apply Kd.R_alloc | apply Kd.R_drewN | apply Kd.R_drew)); exact HO_3.out⟩, ⟨by repeat (first | (with_reducible first | exact HB.out | apply below_alloc | apply pw_below_drewN | apply below_drew1) | exact HB.out)⟩⟩
                  · rw [if_neg c13] at H
                    have c13b0 : ((bt a0 x5_1) == 92) = false := beq_eq_false_iff_ne.mpr c13
                    have c13b1 : ((bt a0 x5_1) != 92) = true := bne_iff_ne.mpr c13
                    have H' := Aside0.mk H
                    clear H
                    have p8 : 0 ≤ (x5_1 : Int) := of_decide_eq_true (by first | (with_reducible assumption) | assumption)
                    have q8 : x5_1 < (a0.size : Int) := of_decide_eq_true (by first | (with_reducible assumption) | assumption)
                    have hx8 := bt_at a0 x5_1
                    replace p8 := eq_true p8
                    replace q8 := eq_true q8
                    have p11 : 0 ≤ (x5_1 : Int) := of_decide_eq_true (by first | (with_reducible assumption) | assumption)
                    have q11 : (x5_1 : Int) < ((x3_1.length : Int) : Int) := of_decide_eq_true (by first | (with_reducible assumption) | assumption)
                    obtain ⟨go11, co11, eo11, gb11, gl11, cl11, HG11⟩ := Kd.R_form HO_3.out (by omega)
                    (first | cases eo11 | (injection eo11 with ea_ en_ ec_; (first | subst ea_ | (injection ea_ with ea_; subst ea_)); subst ec_; clear en_))
                    have GB11 := Aside0.mk gb11
                    have GG11 := Aside0.mk HG11
                    clear gb11 gl11 HG11
                    obtain ⟨hx11_0, hf11_0⟩ := Kd.R_celln false HO_3.out (x5_1 : Int) p11 q11
                    replace p11 := eq_true p11
                    replace q11 := eq_true q11
                    have HP16 := Kd.R_putg HO_3.out (x5_1 : Int) (!x4_1)
                    go_wp2_with (first | ((with_reducible refine gate_store (t := 4) (p := 25) rfl ?_); refine store_event (t := 4) (p := 25) (v := ?vo_w17) (w1 := (wr.setCell ⟨go11, (x5_1 : Int).toNat, none⟩ (.bool (!x4_1)))) ?hg ?ho ?hn ?hr ?_; (case ho => rfl); (case hg => rfl); (case hn => rfl); (case hr => first | (go_simp; done) | (go_simp; rfl)); intro w17 hw; have hg : wr.grownBy w17 (some go11) := (by rw [hw]; exact HP16.2); have hp_ : Kd.R Kd.bool 4 w17 w.heap.size (fun _ => True) (.slice (some ⟨go11, 0, none⟩) x3_1.length co11) y111 := (by rw [hw, Ny111.out]; exact HP16.1); clear HP16; have n0_ := Aside0.mk (hp_); have n1_ := Aside0.mk ((by rw [hw]; exact below_set (HB.out) GB11.out : Below w.heap.size w w17)); clear HO_3; clear HB; have HO_3 := n0_; have HB := n1_; clear n0_ n1_; clear hg hw hp_; have p12 : 0 ≤ (x5_1 : Int) := of_decide_eq_true (by first | (with_reducible assumption) | assumption); have q12 : x5_1 < (a0.size : Int) := of_decide_eq_true (by first | (with_reducible assumption) | assumption); have hx12 := bt_at a0 x5_1; replace p12 := eq_true p12; replace q12 := eq_true q12))
                    go_roundg k1
                    case measure => have := HK1.out; omega
                    case rel => exact ⟨(y111), (false), (wrap64 (x5_1 + 1)), (by first | rfl | (simp; done) | (simp [*]; done)), (by first | rfl | (simp; done) | (simp [*]; done)), H', ⟨by have := HK1.out; omega⟩, ⟨by (with_reducible repeat (first | apply Kd.R_alloc | apply Kd.R_drewN | apply Kd.R_drew)); exact HO_3.out⟩, ⟨by repeat (first | (with_reducible first | exact HB.out | apply below_alloc | apply pw_below_drewN | apply below_drew1) | exact HB.out)⟩⟩
                · rw [if_neg c10] at H
                  exact absurd H (by simp)
              · rw [if_neg c9] at H
                have c9b0 : ((bt a0 x5_1) == 34) = false := beq_eq_false_iff_ne.mpr c9
                have c9b1 : ((bt a0 x5_1) != 34) = true := bne_iff_ne.mpr c9
                by_cases c18 : x5_1 < (x3_1.length : Int)
                · rw [if_pos c18] at H
                  have c18b0 : decide (x5_1 < (x3_1.length : Int)) = true := decide_eq_true c18
                  clear c18
                  obtain ⟨y112, hy112⟩ : ∃ y_ : List Bool, y_ = (x3_1.set (x5_1 : Int).toNat false) := ⟨_, rfl⟩
                  replace H : (if (bt a0 x5_1) = 92 then (quarryref07_marks.l0 k1 a0 y112 (!x4_1) (wrap64 (x5_1 + 1))) else (quarryref07_marks.l0 k1 a0 y112 false (wrap64 (x5_1 + 1)))) = some r := by first | (rw [hy112]; with_reducible exact H) | (have H2_ := (Option.bind_some _ _).symm.trans H; rw [hy112]; with_reducible exact H2_) | (have H2_ := (Option.bind_some _ _).symm.trans H; with_reducible exact H2_) | with_reducible exact H | (rw [hy112]; exact H) | exact H
                  have Ny112 := Aside0.mk hy112
                  clear hy112
                  by_cases c21 : (bt a0 x5_1) = 92
                  · rw [if_pos c21] at H
                    have c21b0 : ((bt a0 x5_1) == 92) = true := beq_iff_eq.mpr c21
                    have c21b1 : ((bt a0 x5_1) != 92) = false := bne_eq_false_iff_eq.mpr c21
                    clear c21
                    have H' := Aside0.mk H
                    clear H
                    have p8 : 0 ≤ (x5_1 : Int) := of_decide_eq_true (by first | (with_reducible assumption) | assumption)
                    have q8 : x5_1 < (a0.size : Int) := of_decide_eq_true (by first | (with_reducible assumption) | assumption)
                    have hx8 := bt_at a0 x5_1
                    replace p8 := eq_true p8
                    replace q8 := eq_true q8
                    have p19 : 0 ≤ (x5_1 : Int) := of_decide_eq_true (by first | (with_reducible assumption) | assumption)
                    have q19 : (x5_1 : Int) < ((x3_1.length : Int) : Int) := of_decide_eq_true (by first | (with_reducible assumption) | assumption)
                    obtain ⟨go19, co19, eo19, gb19, gl19, cl19, HG19⟩ := Kd.R_form HO_3.out (by omega)
                    (first | cases eo19 | (injection eo19 with ea_ en_ ec_; (first | subst ea_ | (injection ea_ with ea_; subst ea_)); subst ec_; clear en_))
                    have GB19 := Aside0.mk gb19
                    have GG19 := Aside0.mk HG19
                    clear gb19 gl19 HG19
                    obtain ⟨hx19_0, hf19_0⟩ := Kd.R_celln false HO_3.out (x5_1 : Int) p19 q19
                    replace p19 := eq_true p19
                    replace q19 := eq_true q19
                    have HP22 := Kd.R_putg HO_3.out (x5_1 : Int) false
                    go_wp2_with (first | ((with_reducible refine gate_store (t := 4) (p := 25) rfl ?_); refine store_event (t := 4) (p := 25) (v := ?vo_w23) (w1 := (wr.setCell ⟨go19, (x5_1 : Int).toNat, none⟩ (.bool false))) ?hg ?ho ?hn ?hr ?_; (case ho => rfl); (case hg => rfl); (case hn => rfl); (case hr => first | (go_simp; done) | (go_simp; rfl)); intro w23 hw; have hg : wr.grownBy w23 (some go19) := (by rw [hw]; exact HP22.2); have hp_ : Kd.R Kd.bool 4 w23 w.heap.size (fun _ => True) (.slice (some ⟨go19, 0, none⟩) x3_1.length co19) y112 := (by rw [hw, Ny112.out]; exact HP22.1); clear HP22; have n0_ := Aside0.mk (hp_); have n1_ := Aside0.mk ((by rw [hw]; exact below_set (HB.out) GB19.out : Below w.heap.size w w23)); clear HO_3; clear HB; have HO_3 := n0_; have HB := n1_; clear n0_ n1_; clear hg hw hp_; have p20 : 0 ≤ (x5_1 : Int) := of_decide_eq_true (by first | (with_reducible assumption) | assumption); have q20 : x5_1 < (a0.size : Int) := of_decide_eq_true (by first | (with_reducible assumption) | assumption); have hx20 := bt_at a0 x5_1; replace p20 := eq_true p20; replace q20 := eq_true q20))
                    go_roundg k1
                    case measure => have := HK1.out; omega
                    case rel => exact ⟨(y112), (!x4_1), (wrap64 (x5_1 + 1)), (by first | rfl | (simp; done) | (simp [*]; done)), (by first | rfl | (simp; done) | (simp [*]; done)), H', ⟨by have := HK1.out; omega⟩, ⟨by (with_reducible repeat (first | apply Kd.R_alloc | apply Kd.R_drewN | apply Kd.R_drew)); exact HO_3.out⟩, ⟨by repeat (first | (with_reducible first | exact HB.out | apply below_alloc | apply pw_below_drewN | apply below_drew1) | exact HB.out)⟩⟩
                  · rw [if_neg c21] at H
                    have c21b0 : ((bt a0 x5_1) == 92) = false := beq_eq_false_iff_ne.mpr c21
                    have c21b1 : ((bt a0 x5_1) != 92) = true := bne_iff_ne.mpr c21
                    have H' := Aside0.mk H
                    clear H
                    have p8 : 0 ≤ (x5_1 : Int) := of_decide_eq_true (by first | (with_reducible assumption) | assumption)
                    have q8 : x5_1 < (a0.size : Int) := of_decide_eq_true (by first | (with_reducible assumption) | assumption)
                    have hx8 := bt_at a0 x5_1
                    replace p8 := eq_true p8
                    replace q8 := eq_true q8
                    have p19 : 0 ≤ (x5_1 : Int) := of_decide_eq_true (by first | (with_reducible assumption) | assumption)
                    have q19 : (x5_1 : Int) < ((x3_1.length : Int) : Int) := of_decide_eq_true (by first | (with_reducible assumption) | assumption)
                    obtain ⟨go19, co19, eo19, gb19, gl19, cl19, HG19⟩ := Kd.R_form HO_3.out (by omega)
                    (first | cases eo19 | (injection eo19 with ea_ en_ ec_; (first | subst ea_ | (injection ea_ with ea_; subst ea_)); subst ec_; clear en_))
                    have GB19 := Aside0.mk gb19
                    have GG19 := Aside0.mk HG19
                    clear gb19 gl19 HG19
                    obtain ⟨hx19_0, hf19_0⟩ := Kd.R_celln false HO_3.out (x5_1 : Int) p19 q19
                    replace p19 := eq_true p19
                    replace q19 := eq_true q19
                    have HP24 := Kd.R_putg HO_3.out (x5_1 : Int) false
                    go_wp2_with (first | ((with_reducible refine gate_store (t := 4) (p := 25) rfl ?_); refine store_event (t := 4) (p := 25) (v := ?vo_w25) (w1 := (wr.setCell ⟨go19, (x5_1 : Int).toNat, none⟩ (.bool false))) ?hg ?ho ?hn ?hr ?_; (case ho => rfl); (case hg => rfl); (case hn => rfl); (case hr => first | (go_simp; done) | (go_simp; rfl)); intro w25 hw; have hg : wr.grownBy w25 (some go19) := (by rw [hw]; exact HP24.2); have hp_ : Kd.R Kd.bool 4 w25 w.heap.size (fun _ => True) (.slice (some ⟨go19, 0, none⟩) x3_1.length co19) y112 := (by rw [hw, Ny112.out]; exact HP24.1); clear HP24; have n0_ := Aside0.mk (hp_); have n1_ := Aside0.mk ((by rw [hw]; exact below_set (HB.out) GB19.out : Below w.heap.size w w25)); clear HO_3; clear HB; have HO_3 := n0_; have HB := n1_; clear n0_ n1_; clear hg hw hp_; have p20 : 0 ≤ (x5_1 : Int) := of_decide_eq_true (by first | (with_reducible assumption) | assumption); have q20 : x5_1 < (a0.size : Int) := of_decide_eq_true (by first | (with_reducible assumption) | assumption); have hx20 := bt_at a0 x5_1; replace p20 := eq_true p20; replace q20 := eq_true q20))
                    go_roundg k1
                    case measure => have := HK1.out; omega
                    case rel => exact ⟨(y112), (false), (wrap64 (x5_1 + 1)), (by first | rfl | (simp; done) | (simp [*]; done)), (by first | rfl | (simp; done) | (simp [*]; done)), H', ⟨by have := HK1.out; omega⟩, ⟨by (with_reducible repeat (first | apply Kd.R_alloc | apply Kd.R_drewN | apply Kd.R_drew)); exact HO_3.out⟩, ⟨by repeat (first | (with_reducible first | exact HB.out | apply below_alloc | apply pw_below_drewN | apply below_drew1) | exact HB.out)⟩⟩
                · rw [if_neg c18] at H
                  exact absurd H (by simp)
            · rw [if_neg c7] at H
              exact absurd H (by simp)
          · rw [if_neg c6] at H
            have c6b0 : decide (x5_1 < (a0.size : Int)) = false := decide_eq_false c6
            clear c6
            obtain rfl := Option.some.inj H
            go_wp2
            go_ret
            exact ⟨_, by first | rfl | (simp [errW_none, errW_some] <;> rfl) | (simp [*, errW_none, errW_some] <;> rfl), by (with_reducible repeat (first | apply Kd.R_alloc | apply Kd.R_drewN | apply Kd.R_drew)); exact HO_3.out, by repeat (first | (with_reducible first | exact HB.out | apply below_alloc | apply pw_below_drewN | apply below_drew1) | exact HB.out)⟩
    · rw [if_neg c3] at H
      exact absurd H (by simp)
  · rw [if_neg c2] at H
    exact absurd H (by simp)

def quarryref07_Marks.f (k : Nat) (a0 : ByteArray) : Option (Int × List Int) := (quarryref07_marks.f k a0).bind fun t114 => ((quarryref04_Of.f k t114).bind fun bt117 => (some (bt117.1, bt117.2)))
theorem quarryref07_Marks.mono : ∀ a0 k, LeO (quarryref07_Marks.f k a0) (quarryref07_Marks.f (k + 1) a0) := by
  intro a0 k
  unfold quarryref07_Marks.f
  repeat' first
      | (with_reducible exact quarryref04_Of.mono _ _)
      | (with_reducible exact quarryref07_marks.mono _ _)
      | (with_reducible exact LeO.refl _)
      | (with_reducible exact LeO.none _)
      | (with_reducible refine LeO.ite ?_ ?_)
      | (with_reducible refine LeO.bind ?_ (fun _ => ?_))
      | exact quarryref04_Of.mono _ _
      | exact quarryref07_marks.mono _ _
      | exact LeO.none _
      | refine LeO.ite ?_ ?_
      | refine LeO.bind ?_ (fun _ => ?_)
set_option maxHeartbeats 8000000 in
set_option maxRecDepth 100000 in
theorem quarryref07_Marks.calls (k : Nat) (a0 : ByteArray) (r1 : Int) (r2 : List Int) (w : World) (h : quarryref07_Marks.f k a0 = some (r1, r2)) :
    Calls Tryd.prog 88 #[.string a0] w fun e w' => ∃ v1_ : Value, e = .returned (.agg #[.int .i64 r1, v1_]) ∧ Kd.R (Kd.int .u64) 75 w' w.heap.size (fun _ => True) v1_ r2 ∧ Below w.heap.size w w' := by
  have hu34 := Tryd.underlying34
  have HB := Aside0.mk (Below.refl w.heap.size w)
  have H : ((quarryref07_marks.f k a0).bind fun t114 => ((quarryref04_Of.f k t114).bind fun bt117 => (some (bt117.1, bt117.2)))) = some (r1, r2) := h
  clear h
  replace H := Option.bind_eq_some_iff.mp H
  obtain ⟨t114, A20, H⟩ := H
  replace H : ((quarryref04_Of.f k t114).bind fun bt117 => (some (bt117.1, bt117.2))) = some (r1, r2) := H
  have A2 := Aside0.mk A20
  clear A20
  replace H := Option.bind_eq_some_iff.mp H
  obtain ⟨⟨t117, t118⟩, A30, H⟩ := H
  replace H : (some (t117, t118)) = some (r1, r2) := H
  have A3 := Aside0.mk A30
  clear A30
  simp only [Option.some.injEq, Prod.mk.injEq] at H
  obtain ⟨rfl, rfl⟩ := H
  go_enter Tryd.func88, Tryd.ntmps88
  go_wp2_with (first | ((with_reducible refine gate_dst (N := 2) rfl ?_); refine box_event ?hg (N := 2) ?hd (cs := #[.int .i64 0, .slice none 0 0]) (t := 34) ?hr ?_; (case hd => rfl); (case hg => rfl); (case hr => first | (go_simp; done) | (go_simp; rfl)); intro gb113 hg w4 hbox hb; have n0_ := Aside0.mk (below_step (by repeat (first | (with_reducible first | exact HB.out | apply below_alloc | apply pw_below_drewN | apply below_drew1) | exact HB.out)) hb); have n1_ := Aside0.mk (hbox); have n2_ := Aside0.mk ((by rw [hg]; exact (below_size (by repeat (first | (with_reducible first | exact HB.out | apply below_alloc | apply pw_below_drewN | apply below_drew1) | exact HB.out))) : w.heap.size ≤ gb113)); have n3_ := Aside0.mk ((by rw [hg]; exact (below_size (by repeat (first | (with_reducible first | exact HB.out | apply below_alloc | apply pw_below_drewN | apply below_drew1) | exact HB.out))) : w.heap.size ≤ gb113)); clear HB; have HB := n0_; have BK113 := n1_; have GW113 := n2_; have GE113 := n3_; clear n0_ n1_ n2_ n3_; clear hb hbox hg) | ((with_reducible refine gate_callee (f := 110) rfl ?_); refine goesL_ (some 4) rfl rfl Tryd.func110 (by kernel_rfl) rfl #[.string a0] rfl (by (try simp only [List.map_toArray, List.map_cons, List.map_nil]); first | done | rfl | (simp only [List.length_drop, List.length_take]; rfl)) ?_; (with_reducible refine (quarryref07_marks.calls k a0 t114 _ A2.out).mono ?_); rintro e w5 ⟨v115, rfl, ho0, hb⟩; refine ⟨_, rfl, ?_⟩; have n0_ := Aside0.mk (Kd.R_lower ho0 (below_size (by repeat (first | (with_reducible first | exact HB.out | apply below_alloc | apply pw_below_drewN | apply below_drew1 | refine below_set ?_ GE113.out) | exact HB.out)))); have n1_ := Aside0.mk (blk_below (g := gb113) (o := .cells #[.int .i64 0, .slice none 0 0] 34 (0, 0)) (by (with_reducible repeat (first | refine blk_drewN ?_ _ | refine blk_drew ?_ | refine blk_alloc ?_ _)); exact BK113.out) hb); have n2_ := Aside0.mk (below_step (by repeat (first | (with_reducible first | exact HB.out | apply below_alloc | apply pw_below_drewN | apply below_drew1 | refine below_set ?_ GE113.out) | exact HB.out)) hb); clear BK113; clear HB; have HO116 := n0_; have BK113 := n1_; have HB := n2_; clear n0_ n1_ n2_; (try clear hb); (try clear hb2); (try clear hk); (try clear hi); (try clear ho0); obtain ⟨Ao6, co6, eo6⟩ := Kd.R_slice HO116.out; subst eo6) | ((with_reducible refine gate_callee (f := 68) rfl ?_); refine goesL_ (some 5) rfl rfl Tryd.func68 (by kernel_rfl) rfl #[.slice Ao6 t114.length co6] rfl (by (try simp only [List.map_toArray, List.map_cons, List.map_nil]); first | done | rfl | (simp only [List.length_drop, List.length_take]; rfl)) ?_; (with_reducible refine (quarryref04_Of.calls k _ _ t114 t117 t118 _ ?side1 ?side2 A3.out).mono ?_); (case side1 => repeat (first | exact (Kd.R_reads' HO116.out).2.2 | (with_reducible refine Kd.C_alloc ?_ _) | (with_reducible refine Kd.C_drewN ?_ _) | (with_reducible refine Kd.C_drew ?_))); (case side2 => exact (Kd.R_reads' HO116.out).2.1); rintro e w7 ⟨v119, rfl, ho0, hb⟩; refine ⟨_, rfl, ?_⟩; have n0_ := Aside0.mk (Kd.R_below (by (with_reducible repeat (first | apply Kd.R_alloc | apply Kd.R_drewN | apply Kd.R_drew)); exact HO116.out) hb); have n1_ := Aside0.mk (Kd.R_lower ho0 (below_size (by repeat (first | (with_reducible first | exact HB.out | apply below_alloc | apply pw_below_drewN | apply below_drew1 | refine below_set ?_ GE113.out) | exact HB.out)))); have n2_ := Aside0.mk (blk_below (g := gb113) (o := .cells #[.int .i64 0, .slice none 0 0] 34 (0, 0)) (by (with_reducible repeat (first | refine blk_drewN ?_ _ | refine blk_drew ?_ | refine blk_alloc ?_ _)); exact BK113.out) hb); have n3_ := Aside0.mk (below_step (by repeat (first | (with_reducible first | exact HB.out | apply below_alloc | apply pw_below_drewN | apply below_drew1 | refine below_set ?_ GE113.out) | exact HB.out)) hb); clear HO116; clear BK113; clear HB; have HO116 := n0_; have HO120 := n1_; have BK113 := n2_; have HB := n3_; clear n0_ n1_ n2_ n3_; (try clear hb); (try clear hb2); (try clear hk); (try clear hi); (try clear ho0); have hcz8_0 : w7.cell? ⟨gb113, 0, none⟩ = some (.int .i64 0) := (blk_cell BK113.out 0).trans rfl; have hcz8_1 : w7.cell? ⟨gb113, 1, none⟩ = some (.slice none 0 0) := (blk_cell BK113.out 1).trans rfl; have hfz8_0 := blk_frozen BK113.out 0; have hfz8_1 := blk_frozen BK113.out 1; obtain ⟨Ao9, co9, eo9⟩ := Kd.R_slice HO120.out; subst eo9))
  refine bodyPost_ret (results_cell_row rfl _ _ gb113 34 #[.int .i64 t117, .slice Ao9 t118.length co9] (0, 0) _ rfl (by (with_reducible repeat (first | refine blk_drewN ?_ _ | refine blk_drew ?_ | refine blk_alloc ?_ _)); refine blk_put (cs := #[.int .i64 t117, .slice none 0 0]) ?_ 1 _ rfl; (with_reducible repeat (first | refine blk_drewN ?_ _ | refine blk_drew ?_ | refine blk_alloc ?_ _)); refine blk_put (cs := #[.int .i64 0, .slice none 0 0]) ?_ 0 _ rfl; (with_reducible repeat (first | refine blk_drewN ?_ _ | refine blk_drew ?_ | refine blk_alloc ?_ _)); exact BK113.out) Tryd.underlying34 rfl (by kernel_rfl)) rfl ?_
  exact ⟨_, by first | rfl | (simp [errW_none, errW_some] <;> rfl) | (simp [*, errW_none, errW_some] <;> rfl), by (with_reducible repeat (first | apply Kd.R_alloc | apply Kd.R_drewN | apply Kd.R_drew)); exact Kd.R_mono (Kd.R_far (p := ⟨gb113, 1, none⟩) (Kd.R_far (p := ⟨gb113, 0, none⟩) (Kd.R_types HO120.out BK113.out (by decide)) (fun _ hk => hk.2) (.int .i64 t117)) (fun _ hk => hk.2) (.slice Ao9 t118.length co9)) (fun _ hk => trivial), by repeat (first | (with_reducible first | exact HB.out | apply below_alloc | apply pw_below_drewN | apply below_drew1 | refine below_set ?_ GE113.out) | exact HB.out)⟩

def quarryref07_inside.l0 : Nat → List Bool → Bool → Int → Option (List Bool)
  | 0, _, _, _ => none
  | k + 1, x3, x4, x5 => if x5 < (x3.length : Int) then (if 0 ≤ x5 then (if rdOf false x3 x5 = true then (quarryref07_inside.l0 k (x3.set (x5 : Int).toNat (!x4)) (!x4) (wrap64 (x5 + 1))) else (quarryref07_inside.l0 k (x3.set (x5 : Int).toNat x4) x4 (wrap64 (x5 + 1)))) else (none)) else (some x3)
def quarryref07_inside.f (k : Nat) (a0 : ByteArray) : Option (List Bool) := (quarryref07_marks.f k a0).bind fun t121 => (quarryref07_inside.l0 k t121 false 0)
theorem quarryref07_inside.mono_l : ∀ k, (∀ y0 y1 y2, LeO (quarryref07_inside.l0 k y0 y1 y2) (quarryref07_inside.l0 (k + 1) y0 y1 y2))
  | 0 => fun _ _ _ r h => by simp [quarryref07_inside.l0] at h
  | k + 1 => by
    have ih0 := quarryref07_inside.mono_l k
    · intro y0 y1 y2
      unfold quarryref07_inside.l0
      repeat' first
      | (with_reducible exact ih0 _ _ _)
      | (with_reducible exact quarryref07_marks.mono _ _)
      | (with_reducible exact LeO.refl _)
      | (with_reducible exact LeO.none _)
      | (with_reducible refine LeO.ite ?_ ?_)
      | (with_reducible refine LeO.bind ?_ (fun _ => ?_))
      | exact ih0 _ _ _
      | exact quarryref07_marks.mono _ _
      | exact LeO.none _
      | refine LeO.ite ?_ ?_
      | refine LeO.bind ?_ (fun _ => ?_)
theorem quarryref07_inside.mono : ∀ a0 k, LeO (quarryref07_inside.f k a0) (quarryref07_inside.f (k + 1) a0) := by
  intro a0 k
  have ih0 := quarryref07_inside.mono_l k
  unfold quarryref07_inside.f
  repeat' first
      | (with_reducible exact ih0 _ _ _)
      | (with_reducible exact quarryref07_marks.mono _ _)
      | (with_reducible exact LeO.refl _)
      | (with_reducible exact LeO.none _)
      | (with_reducible refine LeO.ite ?_ ?_)
      | (with_reducible refine LeO.bind ?_ (fun _ => ?_))
      | exact ih0 _ _ _
      | exact quarryref07_marks.mono _ _
      | exact LeO.none _
      | refine LeO.ite ?_ ?_
      | refine LeO.bind ?_ (fun _ => ?_)
set_option maxHeartbeats 8000000 in
set_option maxRecDepth 100000 in
theorem quarryref07_inside.calls (k : Nat) (a0 : ByteArray) (r : List Bool) (w : World) (h : quarryref07_inside.f k a0 = some r) :
    Calls Tryd.prog 111 #[.string a0] w fun e w' => ∃ v0_ : Value, e = .returned (v0_) ∧ Kd.R Kd.bool 4 w' w.heap.size (fun _ => True) v0_ r ∧ Below w.heap.size w w' := by
  have HB := Aside0.mk (Below.refl w.heap.size w)
  have H : ((quarryref07_marks.f k a0).bind fun t121 => (quarryref07_inside.l0 k t121 false 0)) = some r := h
  clear h
  replace H := Option.bind_eq_some_iff.mp H
  obtain ⟨t121, A20, H⟩ := H
  replace H : (quarryref07_inside.l0 k t121 false 0) = some r := H
  have A2 := Aside0.mk A20
  clear A20
  have H' := Aside0.mk H
  clear H
  go_enter Tryd.func111, Tryd.ntmps111
  go_wp2_with (first | ((with_reducible refine gate_callee (f := 110) rfl ?_); refine goesL_ (some 7) rfl rfl Tryd.func110 (by kernel_rfl) rfl #[.string a0] rfl (by (try simp only [List.map_toArray, List.map_cons, List.map_nil]); first | done | rfl | (simp only [List.length_drop, List.length_take]; rfl)) ?_; (with_reducible refine (quarryref07_marks.calls k a0 t121 _ A2.out).mono ?_); rintro e w3 ⟨v122, rfl, ho0, hb⟩; refine ⟨_, rfl, ?_⟩; have n0_ := Aside0.mk (Kd.R_lower ho0 (below_size (by repeat (first | (with_reducible first | exact HB.out | apply below_alloc | apply pw_below_drewN | apply below_drew1) | exact HB.out)))); have n1_ := Aside0.mk (below_step (by repeat (first | (with_reducible first | exact HB.out | apply below_alloc | apply pw_below_drewN | apply below_drew1) | exact HB.out)) hb); clear HB; have HO123 := n0_; have HB := n1_; clear n0_ n1_; (try clear hb); (try clear hb2); (try clear hk); (try clear hi); (try clear ho0)))
  go_loopg [4, 5] k (fun kq v4 v5 w' => ∃ (x3_1 : List Bool) (x4_1 : Bool) (x5_1 : Int), v4 = .bool x4_1 ∧ v5 = .int .i64 x5_1 ∧ Aside0 (quarryref07_inside.l0 kq x3_1 x4_1 x5_1 = some r) ∧ Aside0 (kq ≤ k) ∧ Aside0 (Kd.R Kd.bool 4 w' w.heap.size (fun _ => True) v122 x3_1) ∧ Aside0 (Below w.heap.size w w'))
  case atStart => exact ⟨(t121), (false), (0), (by first | rfl | (simp; done) | (simp [*]; done)), (by first | rfl | (simp; done) | (simp [*]; done)), H', ⟨Nat.le_refl _⟩, ⟨by (with_reducible repeat (first | apply Kd.R_alloc | apply Kd.R_drewN | apply Kd.R_drew)); exact HO123.out⟩, ⟨by repeat (first | (with_reducible first | exact HB.out | apply below_alloc | apply pw_below_drewN | apply below_drew1) | exact HB.out)⟩⟩
  case round =>
    clear H'
    try clear c1
    try clear p2
    obtain ⟨x3_1, x4_1, x5_1, rfl, rfl, HA, HK1, HO_3, HB⟩ := hrel
    cases gk with
    | zero => exact absurd HA.out (by simp [quarryref07_inside.l0])
    | succ k1 =>
      have H := HA.out
      clear HA
      simp only [quarryref07_inside.l0] at H
      by_cases c4 : x5_1 < (x3_1.length : Int)
      · rw [if_pos c4] at H
        have c4b0 : decide (x5_1 < (x3_1.length : Int)) = true := decide_eq_true c4
        clear c4
        by_cases c5 : 0 ≤ x5_1
        · rw [if_pos c5] at H
          have c5b0 : decide (0 ≤ x5_1) = true := decide_eq_true c5
          clear c5
          obtain ⟨bq6, hbq6⟩ : ∃ b_ : Bool, b_ = (rdOf false x3_1 x5_1) := ⟨_, rfl⟩
          replace H : (if bq6 = true then (quarryref07_inside.l0 k1 (x3_1.set (x5_1 : Int).toNat (!x4_1)) (!x4_1) (wrap64 (x5_1 + 1))) else (quarryref07_inside.l0 k1 (x3_1.set (x5_1 : Int).toNat x4_1) x4_1 (wrap64 (x5_1 + 1)))) = some r := by rw [← hbq6] at H; exact H
          have Nbq6 := Aside0.mk hbq6
          clear hbq6
          by_cases c7 : bq6 = true
          · subst c7
            have H1 : (quarryref07_inside.l0 k1 (x3_1.set (x5_1 : Int).toNat (!x4_1)) (!x4_1) (wrap64 (x5_1 + 1))) = some r := by rw [if_pos rfl] at H; exact H
            clear H
            have H := H1
            clear H1
            obtain ⟨y125, hy125⟩ : ∃ y_ : List Bool, y_ = (x3_1.set (x5_1 : Int).toNat (!x4_1)) := ⟨_, rfl⟩
            replace H : (quarryref07_inside.l0 k1 y125 (!x4_1) (wrap64 (x5_1 + 1))) = some r := by first | (rw [hy125]; with_reducible exact H) | (have H2_ := (Option.bind_some _ _).symm.trans H; rw [hy125]; with_reducible exact H2_) | (have H2_ := (Option.bind_some _ _).symm.trans H; with_reducible exact H2_) | with_reducible exact H | (rw [hy125]; exact H) | exact H
            have Ny125 := Aside0.mk hy125
            clear hy125
            have H' := Aside0.mk H
            clear H
            obtain ⟨Ao9, co9, eo9⟩ := Kd.R_slice HO_3.out
            subst eo9
            have p124 : 0 ≤ (x5_1 : Int) := of_decide_eq_true (by first | (with_reducible assumption) | assumption)
            have q124 : x5_1 < (x3_1.length : Int) := of_decide_eq_true (by first | (with_reducible assumption) | assumption)
            obtain ⟨ad124, e124, hx124_0⟩ := Kd.at_bool (Kd.R_reads' HO_3.out).2.2 x5_1 p124 q124
            (try rw [← Nbq6.out] at hx124_0)
            cases e124
            replace p124 := eq_true p124
            replace q124 := eq_true q124
            have p8 : 0 ≤ (x5_1 : Int) := of_decide_eq_true (by first | (with_reducible assumption) | assumption)
            have q8 : (x5_1 : Int) < ((x3_1.length : Int) : Int) := of_decide_eq_true (by first | (with_reducible assumption) | assumption)
            obtain ⟨go8, co8, eo8, gb8, gl8, cl8, HG8⟩ := Kd.R_form HO_3.out (by omega)
            (first | cases eo8 | (injection eo8 with ea_ en_ ec_; (first | subst ea_ | (injection ea_ with ea_; subst ea_)); subst ec_; clear en_))
            have GB8 := Aside0.mk gb8
            have GG8 := Aside0.mk HG8
            clear gb8 gl8 HG8
            (first | simp only [add_plain] at hx124_0 | skip)
            obtain ⟨hx8_0, hf8_0⟩ := Kd.R_celln false HO_3.out (x5_1 : Int) p8 q8
            replace p8 := eq_true p8
            replace q8 := eq_true q8
            have HP10 := Kd.R_putg HO_3.out (x5_1 : Int) (!x4_1)
            go_wp2_with (first | ((with_reducible refine gate_store (t := 4) (p := 23) rfl ?_); refine store_event (t := 4) (p := 23) (v := ?vo_w11) (w1 := (wr.setCell ⟨go8, (x5_1 : Int).toNat, none⟩ (.bool (!x4_1)))) ?hg ?ho ?hn ?hr ?_; (case ho => rfl); (case hg => rfl); (case hn => rfl); (case hr => first | (go_simp; done) | (go_simp; rfl)); intro w11 hw; have hg : wr.grownBy w11 (some go8) := (by rw [hw]; exact HP10.2); have hp_ : Kd.R Kd.bool 4 w11 w.heap.size (fun _ => True) (.slice (some ⟨go8, 0, none⟩) x3_1.length co9) y125 := (by rw [hw, Ny125.out]; exact HP10.1); clear HP10; have n0_ := Aside0.mk (hp_); have n1_ := Aside0.mk ((by rw [hw]; exact below_set (HB.out) GB8.out : Below w.heap.size w w11)); clear HO_3; clear HB; have HO_3 := n0_; have HB := n1_; clear n0_ n1_; clear hg hw hp_))
            go_roundg k1
            case measure => have := HK1.out; omega
            case rel => exact ⟨(y125), (!x4_1), (wrap64 (x5_1 + 1)), (by first | rfl | (simp; done) | (simp [*]; done)), (by first | rfl | (simp; done) | (simp [*]; done)), H', ⟨by have := HK1.out; omega⟩, ⟨by (with_reducible repeat (first | apply Kd.R_alloc | apply Kd.R_drewN | apply Kd.R_drew)); exact HO_3.out⟩, ⟨by repeat (first | (with_reducible first | exact HB.out | apply below_alloc | apply pw_below_drewN | apply below_drew1) | exact HB.out)⟩⟩
          · replace c7 := Bool.eq_false_iff.mpr c7
            subst c7
            have H1 : (quarryref07_inside.l0 k1 (x3_1.set (x5_1 : Int).toNat x4_1) x4_1 (wrap64 (x5_1 + 1))) = some r := by rw [if_neg (show ¬ (false = true) by decide)] at H; exact H
            clear H
            have H := H1
            clear H1
            obtain ⟨y126, hy126⟩ : ∃ y_ : List Bool, y_ = (x3_1.set (x5_1 : Int).toNat x4_1) := ⟨_, rfl⟩
            replace H : (quarryref07_inside.l0 k1 y126 x4_1 (wrap64 (x5_1 + 1))) = some r := by first | (rw [hy126]; with_reducible exact H) | (have H2_ := (Option.bind_some _ _).symm.trans H; rw [hy126]; with_reducible exact H2_) | (have H2_ := (Option.bind_some _ _).symm.trans H; with_reducible exact H2_) | with_reducible exact H | (rw [hy126]; exact H) | exact H
            have Ny126 := Aside0.mk hy126
            clear hy126
            have H' := Aside0.mk H
            clear H
            obtain ⟨Ao13, co13, eo13⟩ := Kd.R_slice HO_3.out
            subst eo13
            have p124 : 0 ≤ (x5_1 : Int) := of_decide_eq_true (by first | (with_reducible assumption) | assumption)
            have q124 : x5_1 < (x3_1.length : Int) := of_decide_eq_true (by first | (with_reducible assumption) | assumption)
            obtain ⟨ad124, e124, hx124_0⟩ := Kd.at_bool (Kd.R_reads' HO_3.out).2.2 x5_1 p124 q124
            (try rw [← Nbq6.out] at hx124_0)
            cases e124
            replace p124 := eq_true p124
            replace q124 := eq_true q124
            have p12 : 0 ≤ (x5_1 : Int) := of_decide_eq_true (by first | (with_reducible assumption) | assumption)
            have q12 : (x5_1 : Int) < ((x3_1.length : Int) : Int) := of_decide_eq_true (by first | (with_reducible assumption) | assumption)
            obtain ⟨go12, co12, eo12, gb12, gl12, cl12, HG12⟩ := Kd.R_form HO_3.out (by omega)
            (first | cases eo12 | (injection eo12 with ea_ en_ ec_; (first | subst ea_ | (injection ea_ with ea_; subst ea_)); subst ec_; clear en_))
            have GB12 := Aside0.mk gb12
            have GG12 := Aside0.mk HG12
            clear gb12 gl12 HG12
            (first | simp only [add_plain] at hx124_0 | skip)
            obtain ⟨hx12_0, hf12_0⟩ := Kd.R_celln false HO_3.out (x5_1 : Int) p12 q12
            replace p12 := eq_true p12
            replace q12 := eq_true q12
            have HP14 := Kd.R_putg HO_3.out (x5_1 : Int) x4_1
            go_wp2_with (first | ((with_reducible refine gate_store (t := 4) (p := 23) rfl ?_); refine store_event (t := 4) (p := 23) (v := ?vo_w15) (w1 := (wr.setCell ⟨go12, (x5_1 : Int).toNat, none⟩ (.bool x4_1))) ?hg ?ho ?hn ?hr ?_; (case ho => rfl); (case hg => rfl); (case hn => rfl); (case hr => first | (go_simp; done) | (go_simp; rfl)); intro w15 hw; have hg : wr.grownBy w15 (some go12) := (by rw [hw]; exact HP14.2); have hp_ : Kd.R Kd.bool 4 w15 w.heap.size (fun _ => True) (.slice (some ⟨go12, 0, none⟩) x3_1.length co13) y126 := (by rw [hw, Ny126.out]; exact HP14.1); clear HP14; have n0_ := Aside0.mk (hp_); have n1_ := Aside0.mk ((by rw [hw]; exact below_set (HB.out) GB12.out : Below w.heap.size w w15)); clear HO_3; clear HB; have HO_3 := n0_; have HB := n1_; clear n0_ n1_; clear hg hw hp_))
            go_roundg k1
            case measure => have := HK1.out; omega
            case rel => exact ⟨(y126), (x4_1), (wrap64 (x5_1 + 1)), (by first | rfl | (simp; done) | (simp [*]; done)), (by first | rfl | (simp; done) | (simp [*]; done)), H', ⟨by have := HK1.out; omega⟩, ⟨by (with_reducible repeat (first | apply Kd.R_alloc | apply Kd.R_drewN | apply Kd.R_drew)); exact HO_3.out⟩, ⟨by repeat (first | (with_reducible first | exact HB.out | apply below_alloc | apply pw_below_drewN | apply below_drew1) | exact HB.out)⟩⟩
        · rw [if_neg c5] at H
          exact absurd H (by simp)
      · rw [if_neg c4] at H
        have c4b0 : decide (x5_1 < (x3_1.length : Int)) = false := decide_eq_false c4
        clear c4
        obtain rfl := Option.some.inj H
        obtain ⟨Ao16, co16, eo16⟩ := Kd.R_slice HO_3.out
        subst eo16
        go_wp2
        go_ret
        exact ⟨_, by first | rfl | (simp [errW_none, errW_some] <;> rfl) | (simp [*, errW_none, errW_some] <;> rfl), by (with_reducible repeat (first | apply Kd.R_alloc | apply Kd.R_drewN | apply Kd.R_drew)); exact HO_3.out, by repeat (first | (with_reducible first | exact HB.out | apply below_alloc | apply pw_below_drewN | apply below_drew1) | exact HB.out)⟩

def quarryref07_Inside.f (k : Nat) (a0 : ByteArray) : Option (Int × List Int) := (quarryref07_inside.f k a0).bind fun t128 => ((quarryref04_Of.f k t128).bind fun bt131 => (some (bt131.1, bt131.2)))
theorem quarryref07_Inside.mono : ∀ a0 k, LeO (quarryref07_Inside.f k a0) (quarryref07_Inside.f (k + 1) a0) := by
  intro a0 k
  unfold quarryref07_Inside.f
  repeat' first
      | (with_reducible exact quarryref04_Of.mono _ _)
      | (with_reducible exact quarryref07_inside.mono _ _)
      | (with_reducible exact LeO.refl _)
      | (with_reducible exact LeO.none _)
      | (with_reducible refine LeO.ite ?_ ?_)
      | (with_reducible refine LeO.bind ?_ (fun _ => ?_))
      | exact quarryref04_Of.mono _ _
      | exact quarryref07_inside.mono _ _
      | exact LeO.none _
      | refine LeO.ite ?_ ?_
      | refine LeO.bind ?_ (fun _ => ?_)
set_option maxHeartbeats 8000000 in
set_option maxRecDepth 100000 in
theorem quarryref07_Inside.calls (k : Nat) (a0 : ByteArray) (r1 : Int) (r2 : List Int) (w : World) (h : quarryref07_Inside.f k a0 = some (r1, r2)) :
    Calls Tryd.prog 89 #[.string a0] w fun e w' => ∃ v1_ : Value, e = .returned (.agg #[.int .i64 r1, v1_]) ∧ Kd.R (Kd.int .u64) 75 w' w.heap.size (fun _ => True) v1_ r2 ∧ Below w.heap.size w w' := by
  have hu34 := Tryd.underlying34
  have HB := Aside0.mk (Below.refl w.heap.size w)
  have H : ((quarryref07_inside.f k a0).bind fun t128 => ((quarryref04_Of.f k t128).bind fun bt131 => (some (bt131.1, bt131.2)))) = some (r1, r2) := h
  clear h
  replace H := Option.bind_eq_some_iff.mp H
  obtain ⟨t128, A20, H⟩ := H
  replace H : ((quarryref04_Of.f k t128).bind fun bt131 => (some (bt131.1, bt131.2))) = some (r1, r2) := H
  have A2 := Aside0.mk A20
  clear A20
  replace H := Option.bind_eq_some_iff.mp H
  obtain ⟨⟨t131, t132⟩, A30, H⟩ := H
  replace H : (some (t131, t132)) = some (r1, r2) := H
  have A3 := Aside0.mk A30
  clear A30
  simp only [Option.some.injEq, Prod.mk.injEq] at H
  obtain ⟨rfl, rfl⟩ := H
  go_enter Tryd.func89, Tryd.ntmps89
  go_wp2_with (first | ((with_reducible refine gate_dst (N := 2) rfl ?_); refine box_event ?hg (N := 2) ?hd (cs := #[.int .i64 0, .slice none 0 0]) (t := 34) ?hr ?_; (case hd => rfl); (case hg => rfl); (case hr => first | (go_simp; done) | (go_simp; rfl)); intro gb127 hg w4 hbox hb; have n0_ := Aside0.mk (below_step (by repeat (first | (with_reducible first | exact HB.out | apply below_alloc | apply pw_below_drewN | apply below_drew1) | exact HB.out)) hb); have n1_ := Aside0.mk (hbox); have n2_ := Aside0.mk ((by rw [hg]; exact (below_size (by repeat (first | (with_reducible first | exact HB.out | apply below_alloc | apply pw_below_drewN | apply below_drew1) | exact HB.out))) : w.heap.size ≤ gb127)); have n3_ := Aside0.mk ((by rw [hg]; exact (below_size (by repeat (first | (with_reducible first | exact HB.out | apply below_alloc | apply pw_below_drewN | apply below_drew1) | exact HB.out))) : w.heap.size ≤ gb127)); clear HB; have HB := n0_; have BK127 := n1_; have GW127 := n2_; have GE127 := n3_; clear n0_ n1_ n2_ n3_; clear hb hbox hg) | ((with_reducible refine gate_callee (f := 111) rfl ?_); refine goesL_ (some 4) rfl rfl Tryd.func111 (by kernel_rfl) rfl #[.string a0] rfl (by (try simp only [List.map_toArray, List.map_cons, List.map_nil]); first | done | rfl | (simp only [List.length_drop, List.length_take]; rfl)) ?_; (with_reducible refine (quarryref07_inside.calls k a0 t128 _ A2.out).mono ?_); rintro e w5 ⟨v129, rfl, ho0, hb⟩; refine ⟨_, rfl, ?_⟩; have n0_ := Aside0.mk (Kd.R_lower ho0 (below_size (by repeat (first | (with_reducible first | exact HB.out | apply below_alloc | apply pw_below_drewN | apply below_drew1 | refine below_set ?_ GE127.out) | exact HB.out)))); have n1_ := Aside0.mk (blk_below (g := gb127) (o := .cells #[.int .i64 0, .slice none 0 0] 34 (0, 0)) (by (with_reducible repeat (first | refine blk_drewN ?_ _ | refine blk_drew ?_ | refine blk_alloc ?_ _)); exact BK127.out) hb); have n2_ := Aside0.mk (below_step (by repeat (first | (with_reducible first | exact HB.out | apply below_alloc | apply pw_below_drewN | apply below_drew1 | refine below_set ?_ GE127.out) | exact HB.out)) hb); clear BK127; clear HB; have HO130 := n0_; have BK127 := n1_; have HB := n2_; clear n0_ n1_ n2_; (try clear hb); (try clear hb2); (try clear hk); (try clear hi); (try clear ho0); obtain ⟨Ao6, co6, eo6⟩ := Kd.R_slice HO130.out; subst eo6) | ((with_reducible refine gate_callee (f := 68) rfl ?_); refine goesL_ (some 5) rfl rfl Tryd.func68 (by kernel_rfl) rfl #[.slice Ao6 t128.length co6] rfl (by (try simp only [List.map_toArray, List.map_cons, List.map_nil]); first | done | rfl | (simp only [List.length_drop, List.length_take]; rfl)) ?_; (with_reducible refine (quarryref04_Of.calls k _ _ t128 t131 t132 _ ?side1 ?side2 A3.out).mono ?_); (case side1 => repeat (first | exact (Kd.R_reads' HO130.out).2.2 | (with_reducible refine Kd.C_alloc ?_ _) | (with_reducible refine Kd.C_drewN ?_ _) | (with_reducible refine Kd.C_drew ?_))); (case side2 => exact (Kd.R_reads' HO130.out).2.1); rintro e w7 ⟨v133, rfl, ho0, hb⟩; refine ⟨_, rfl, ?_⟩; have n0_ := Aside0.mk (Kd.R_below (by (with_reducible repeat (first | apply Kd.R_alloc | apply Kd.R_drewN | apply Kd.R_drew)); exact HO130.out) hb); have n1_ := Aside0.mk (Kd.R_lower ho0 (below_size (by repeat (first | (with_reducible first | exact HB.out | apply below_alloc | apply pw_below_drewN | apply below_drew1 | refine below_set ?_ GE127.out) | exact HB.out)))); have n2_ := Aside0.mk (blk_below (g := gb127) (o := .cells #[.int .i64 0, .slice none 0 0] 34 (0, 0)) (by (with_reducible repeat (first | refine blk_drewN ?_ _ | refine blk_drew ?_ | refine blk_alloc ?_ _)); exact BK127.out) hb); have n3_ := Aside0.mk (below_step (by repeat (first | (with_reducible first | exact HB.out | apply below_alloc | apply pw_below_drewN | apply below_drew1 | refine below_set ?_ GE127.out) | exact HB.out)) hb); clear HO130; clear BK127; clear HB; have HO130 := n0_; have HO134 := n1_; have BK127 := n2_; have HB := n3_; clear n0_ n1_ n2_ n3_; (try clear hb); (try clear hb2); (try clear hk); (try clear hi); (try clear ho0); have hcz8_0 : w7.cell? ⟨gb127, 0, none⟩ = some (.int .i64 0) := (blk_cell BK127.out 0).trans rfl; have hcz8_1 : w7.cell? ⟨gb127, 1, none⟩ = some (.slice none 0 0) := (blk_cell BK127.out 1).trans rfl; have hfz8_0 := blk_frozen BK127.out 0; have hfz8_1 := blk_frozen BK127.out 1; obtain ⟨Ao9, co9, eo9⟩ := Kd.R_slice HO134.out; subst eo9))
  refine bodyPost_ret (results_cell_row rfl _ _ gb127 34 #[.int .i64 t131, .slice Ao9 t132.length co9] (0, 0) _ rfl (by (with_reducible repeat (first | refine blk_drewN ?_ _ | refine blk_drew ?_ | refine blk_alloc ?_ _)); refine blk_put (cs := #[.int .i64 t131, .slice none 0 0]) ?_ 1 _ rfl; (with_reducible repeat (first | refine blk_drewN ?_ _ | refine blk_drew ?_ | refine blk_alloc ?_ _)); refine blk_put (cs := #[.int .i64 0, .slice none 0 0]) ?_ 0 _ rfl; (with_reducible repeat (first | refine blk_drewN ?_ _ | refine blk_drew ?_ | refine blk_alloc ?_ _)); exact BK127.out) Tryd.underlying34 rfl (by kernel_rfl)) rfl ?_
  exact ⟨_, by first | rfl | (simp [errW_none, errW_some] <;> rfl) | (simp [*, errW_none, errW_some] <;> rfl), by (with_reducible repeat (first | apply Kd.R_alloc | apply Kd.R_drewN | apply Kd.R_drew)); exact Kd.R_mono (Kd.R_far (p := ⟨gb127, 1, none⟩) (Kd.R_far (p := ⟨gb127, 0, none⟩) (Kd.R_types HO134.out BK127.out (by decide)) (fun _ hk => hk.2) (.int .i64 t131)) (fun _ hk => hk.2) (.slice Ao9 t132.length co9)) (fun _ hk => trivial), by repeat (first | (with_reducible first | exact HB.out | apply below_alloc | apply pw_below_drewN | apply below_drew1 | refine below_set ?_ GE127.out) | exact HB.out)⟩

def quarryref08_set.f (a0_0 : Int) (l0_1 : List Int) (a1 : Int) : Option (Bool) := if 0 ≤ (wrap64 (Int.tdiv a1 64)) then (if (wrap64 (Int.tdiv a1 64)) < (l0_1.length : Int) then (if 0 ≤ (IntKind.u64.wrap (Int.tmod a1 64)) then (some ((Go.bits .and .u64 (shr .u64 (rd l0_1 (wrap64 (Int.tdiv a1 64))) (IntKind.u64.wrap (Int.tmod a1 64))) 1) == 1)) else (none)) else (none)) else (none)
set_option maxHeartbeats 8000000 in
set_option maxRecDepth 100000 in
theorem quarryref08_set.calls (a0_0 : Int) (A0_1 : Option Addr) (c0_1 : Nat) (l0_1 : List Int) (a1 : Int) (r : Bool) (w : World) (hr0_1 : Kd.C (Kd.int .u64) w A0_1 l0_1.length l0_1) (hc0_1 : l0_1.length ≤ c0_1) (h : quarryref08_set.f a0_0 l0_1 a1 = some r) :
    Calls Tryd.prog 90 #[.agg #[.int .i64 a0_0, .slice A0_1 l0_1.length c0_1], .int .i64 a1] w fun e w' => e = .returned (.bool r) ∧ Below w.heap.size w w' := by
  have hu34 := Tryd.underlying34
  have HR0_1 := Aside0.mk hr0_1
  have HC0_1 := Aside0.mk hc0_1
  clear hr0_1 hc0_1
  have HB := Aside0.mk (Below.refl w.heap.size w)
  have H : (if 0 ≤ (wrap64 (Int.tdiv a1 64)) then (if (wrap64 (Int.tdiv a1 64)) < (l0_1.length : Int) then (if 0 ≤ (IntKind.u64.wrap (Int.tmod a1 64)) then (some ((Go.bits .and .u64 (shr .u64 (rd l0_1 (wrap64 (Int.tdiv a1 64))) (IntKind.u64.wrap (Int.tmod a1 64))) 1) == 1)) else (none)) else (none)) else (none)) = some r := h
  clear h
  obtain ⟨ji3, hji3⟩ : ∃ j_ : Int, (wrap64 (Int.tdiv a1 64)) = j_ := ⟨_, rfl⟩
  replace H : (if 0 ≤ (ji3) then (if (ji3) < (l0_1.length : Int) then (if 0 ≤ (IntKind.u64.wrap (Int.tmod a1 64)) then (some ((Go.bits .and .u64 (shr .u64 (rd l0_1 (ji3)) (IntKind.u64.wrap (Int.tmod a1 64))) 1) == 1)) else (none)) else (none)) else (none)) = some r := by first | (rw [hji3] at H; exact H) | (simp only [hji3] at H ⊢; exact H)
  have hji3w : (IntKind.i64.wrap (Int.tdiv a1 64)) = ji3 := (i64_w _).trans hji3
  by_cases c4 : 0 ≤ (ji3)
  · rw [if_pos c4] at H
    have c4b0 : decide (0 ≤ (ji3)) = true := decide_eq_true c4
    clear c4
    by_cases c5 : (ji3) < (l0_1.length : Int)
    · rw [if_pos c5] at H
      have c5b0 : decide ((ji3) < (l0_1.length : Int)) = true := decide_eq_true c5
      clear c5
      obtain ⟨ji6, hji6⟩ : ∃ j_ : Int, (IntKind.u64.wrap (Int.tmod a1 64)) = j_ := ⟨_, rfl⟩
      replace H : (if 0 ≤ (ji6) then (some ((Go.bits .and .u64 (shr .u64 (rd l0_1 (ji3)) (ji6)) 1) == 1)) else (none)) = some r := by first | (rw [hji6] at H; exact H) | (simp only [hji6] at H ⊢; exact H)
      by_cases c7 : 0 ≤ (ji6)
      · rw [if_pos c7] at H
        have c7b0 := eq_true c7
        have c7b1 : decide (0 ≤ (ji6)) = true := decide_eq_true c7
        clear c7
        obtain ⟨ji8, hji8⟩ : ∃ j_ : Int, (shr .u64 (rd l0_1 (ji3)) (ji6)) = j_ := ⟨_, rfl⟩
        replace H : (some ((Go.bits .and .u64 (ji8) 1) == 1)) = some r := by first | (rw [hji8] at H; exact H) | (simp only [hji8] at H ⊢; exact H)
        have hji8_ : ((rd l0_1 (ji3)) / 2 ^ min (ji6).toNat 64) = ji8 := hji8
        have hji8z : (ji6) ≤ 64 → ((rd l0_1 (ji3)) / 2 ^ (ji6).toNat) = ji8 := shr_small hji8
        obtain rfl := Option.some.inj H
        go_enter Tryd.func90, Tryd.ntmps90
        go_wp2_with (first | ((with_reducible refine gate_dst (N := 2) rfl ?_); refine box_event ?hg (N := 2) ?hd (cs := #[.int .i64 a0_0, .slice A0_1 l0_1.length c0_1]) (t := 34) ?hr ?_; (case hd => rfl); (case hg => rfl); (case hr => first | (go_simp; done) | (go_simp; rfl)); intro gb135 hg w9 hbox hb; have n0_ := Aside0.mk (below_step (by repeat (first | (with_reducible first | exact HB.out | apply below_alloc | apply pw_below_drewN | apply below_drew1) | exact HB.out)) hb); have n1_ := Aside0.mk (hbox); have n2_ := Aside0.mk ((by rw [hg]; exact (below_size (by repeat (first | (with_reducible first | exact HB.out | apply below_alloc | apply pw_below_drewN | apply below_drew1) | exact HB.out))) : w.heap.size ≤ gb135)); have n3_ := Aside0.mk ((by rw [hg]; exact (below_size (by repeat (first | (with_reducible first | exact HB.out | apply below_alloc | apply pw_below_drewN | apply below_drew1) | exact HB.out))) : w.heap.size ≤ gb135)); clear HB; have HB := n0_; have BK135 := n1_; have GW135 := n2_; have GE135 := n3_; clear n0_ n1_ n2_ n3_; clear hb hbox hg; have hcz10_0 : w9.cell? ⟨gb135, 0, none⟩ = some (.int .i64 a0_0) := (blk_cell BK135.out 0).trans rfl; have hcz10_1 : w9.cell? ⟨gb135, 1, none⟩ = some (.slice A0_1 l0_1.length c0_1) := (blk_cell BK135.out 1).trans rfl; have hfz10_0 := blk_frozen BK135.out 0; have hfz10_1 := blk_frozen BK135.out 1; have p136 : 0 ≤ ((ji3) : Int) := of_decide_eq_true (by first | (with_reducible assumption) | assumption); have q136 : (ji3) < (l0_1.length : Int) := of_decide_eq_true (by first | (with_reducible assumption) | assumption); obtain ⟨ad136, e136, hx136_0⟩ := Kd.at_int HR0_1.out (ji3) p136 q136; cases e136; replace hx136_0 := (HB.out.cell (World.block_lt_of_cell? w _ hx136_0)).trans hx136_0; replace p136 := eq_true p136; replace q136 := eq_true q136))
        go_ret
        exact ⟨by first | rfl | (simp [errW_none, errW_some] <;> rfl) | (simp only [← hji3, ← hji6, ← hji8]; first | rfl | (simp [errW_none, errW_some] <;> rfl)) | (simp [*, errW_none, errW_some] <;> rfl), by repeat (first | (with_reducible first | exact HB.out | apply below_alloc | apply pw_below_drewN | apply below_drew1 | refine below_set ?_ GE135.out) | exact HB.out)⟩
      · rw [if_neg c7] at H
        exact absurd H (by simp)
    · rw [if_neg c5] at H
      exact absurd H (by simp)
  · rw [if_neg c4] at H
    exact absurd H (by simp)

mutual
def quarryref08_Bytes.l0 : Nat → ByteArray → List Int → Int → Int → List Int → Int → List Int → Option (List Int)
  | 0, _, _, _, _, _, _, _ => none
  | k + 1, x0, x5, x6, x142000, x142001, x147000, x147001 => if x6 < (x0.size : Int) then (if 0 ≤ x6 then ((quarryref08_set.f x142000 x142001 x6).bind fun t147 => (if t147 = true then ((quarryref08_set.f x147000 x147001 x6).bind fun t148 => (quarryref08_Bytes.j1 k x0 x5 x6 (bt x0 x6) t148 x142000 x142001 x147000 x147001)) else (quarryref08_Bytes.j1 k x0 x5 x6 (bt x0 x6) false x142000 x142001 x147000 x147001))) else (none)) else (some x5)
def quarryref08_Bytes.j1 : Nat → ByteArray → List Int → Int → Int → Bool → Int → List Int → Int → List Int → Option (List Int)
  | 0, _, _, _, _, _, _, _, _, _ => none
  | k + 1, x0, x5, x6, x7, x24, x142000, x142001, x147000, x147001 => if x24 = true then (if x5.length < 17592186044416 then (quarryref08_Bytes.l0 k x0 (x5 ++ [3]) (wrap64 (x6 + 1)) x142000 x142001 x147000 x147001) else (none)) else ((quarryref08_set.f x142000 x142001 x6).bind fun t152 => (if t152 = true then (if x5.length < 17592186044416 then (quarryref08_Bytes.l0 k x0 (x5 ++ [4]) (wrap64 (x6 + 1)) x142000 x142001 x147000 x147001) else (none)) else ((quarryref08_set.f x147000 x147001 x6).bind fun t156 => (if t156 = true then (if x5.length < 17592186044416 then (quarryref08_Bytes.l0 k x0 (x5 ++ [5]) (wrap64 (x6 + 1)) x142000 x142001 x147000 x147001) else (none)) else (if x7 = 123 then (quarryref08_Bytes.j2 k x0 x5 x6 x7 true x142000 x142001 x147000 x147001) else (if x7 = 125 then (quarryref08_Bytes.j2 k x0 x5 x6 x7 true x142000 x142001 x147000 x147001) else (if x7 = 91 then (quarryref08_Bytes.j2 k x0 x5 x6 x7 true x142000 x142001 x147000 x147001) else (if x7 = 93 then (quarryref08_Bytes.j2 k x0 x5 x6 x7 true x142000 x142001 x147000 x147001) else (if x7 = 58 then (quarryref08_Bytes.j2 k x0 x5 x6 x7 true x142000 x142001 x147000 x147001) else (quarryref08_Bytes.j2 k x0 x5 x6 x7 (x7 == 44) x142000 x142001 x147000 x147001))))))))))
def quarryref08_Bytes.j2 : Nat → ByteArray → List Int → Int → Int → Bool → Int → List Int → Int → List Int → Option (List Int)
  | 0, _, _, _, _, _, _, _, _, _ => none
  | k + 1, x0, x5, x6, x7, x50, x142000, x142001, x147000, x147001 => if x50 = true then (if x5.length < 17592186044416 then (quarryref08_Bytes.l0 k x0 (x5 ++ [1]) (wrap64 (x6 + 1)) x142000 x142001 x147000 x147001) else (none)) else (if x7 = 32 then (if x5.length < 17592186044416 then (quarryref08_Bytes.l0 k x0 (x5 ++ [2]) (wrap64 (x6 + 1)) x142000 x142001 x147000 x147001) else (none)) else (if x7 = 9 then (if x5.length < 17592186044416 then (quarryref08_Bytes.l0 k x0 (x5 ++ [2]) (wrap64 (x6 + 1)) x142000 x142001 x147000 x147001) else (none)) else (if x7 = 10 then (if x5.length < 17592186044416 then (quarryref08_Bytes.l0 k x0 (x5 ++ [2]) (wrap64 (x6 + 1)) x142000 x142001 x147000 x147001) else (none)) else (if x7 = 13 then (if x5.length < 17592186044416 then (quarryref08_Bytes.l0 k x0 (x5 ++ [2]) (wrap64 (x6 + 1)) x142000 x142001 x147000 x147001) else (none)) else (if x5.length < 17592186044416 then (quarryref08_Bytes.l0 k x0 (x5 ++ [6]) (wrap64 (x6 + 1)) x142000 x142001 x147000 x147001) else (none))))))
end
def quarryref08_Bytes.f (k : Nat) (a0 : ByteArray) : Option (List Int) := (quarryref07_Marks.f k a0).bind fun bt137 => ((quarryref07_Inside.f k a0).bind fun bt142 => (quarryref08_Bytes.l0 k a0 ([] : List Int) 0 bt137.1 bt137.2 bt142.1 bt142.2))
theorem quarryref08_Bytes.mono_l : ∀ k, (∀ y0 y1 y2 y3 y4 y5 y6, LeO (quarryref08_Bytes.l0 k y0 y1 y2 y3 y4 y5 y6) (quarryref08_Bytes.l0 (k + 1) y0 y1 y2 y3 y4 y5 y6)) ∧ (∀ y0 y1 y2 y3 y4 y5 y6 y7 y8, LeO (quarryref08_Bytes.j1 k y0 y1 y2 y3 y4 y5 y6 y7 y8) (quarryref08_Bytes.j1 (k + 1) y0 y1 y2 y3 y4 y5 y6 y7 y8)) ∧ (∀ y0 y1 y2 y3 y4 y5 y6 y7 y8, LeO (quarryref08_Bytes.j2 k y0 y1 y2 y3 y4 y5 y6 y7 y8) (quarryref08_Bytes.j2 (k + 1) y0 y1 y2 y3 y4 y5 y6 y7 y8))
  | 0 => ⟨fun _ _ _ _ _ _ _ r h => by simp [quarryref08_Bytes.l0] at h, fun _ _ _ _ _ _ _ _ _ r h => by simp [quarryref08_Bytes.j1] at h, fun _ _ _ _ _ _ _ _ _ r h => by simp [quarryref08_Bytes.j2] at h⟩
  | k + 1 => by
    obtain ⟨ih0, ih1, ih2⟩ := quarryref08_Bytes.mono_l k
    refine ⟨?_, ?_, ?_⟩
    · intro y0 y1 y2 y3 y4 y5 y6
      unfold quarryref08_Bytes.l0
      repeat' first
      | (with_reducible exact ih0 _ _ _ _ _ _ _)
      | (with_reducible exact ih1 _ _ _ _ _ _ _ _ _)
      | (with_reducible exact ih2 _ _ _ _ _ _ _ _ _)
      | (with_reducible exact quarryref07_Inside.mono _ _)
      | (with_reducible exact quarryref07_Marks.mono _ _)
      | (with_reducible exact LeO.refl _)
      | (with_reducible exact LeO.none _)
      | (with_reducible refine LeO.ite ?_ ?_)
      | (with_reducible refine LeO.bind ?_ (fun _ => ?_))
      | exact ih0 _ _ _ _ _ _ _
      | exact ih1 _ _ _ _ _ _ _ _ _
      | exact ih2 _ _ _ _ _ _ _ _ _
      | exact quarryref07_Inside.mono _ _
      | exact quarryref07_Marks.mono _ _
      | exact LeO.none _
      | refine LeO.ite ?_ ?_
      | refine LeO.bind ?_ (fun _ => ?_)
    · intro y0 y1 y2 y3 y4 y5 y6 y7 y8
      unfold quarryref08_Bytes.j1
      repeat' first
      | (with_reducible exact ih0 _ _ _ _ _ _ _)
      | (with_reducible exact ih1 _ _ _ _ _ _ _ _ _)
      | (with_reducible exact ih2 _ _ _ _ _ _ _ _ _)
      | (with_reducible exact quarryref07_Inside.mono _ _)
      | (with_reducible exact quarryref07_Marks.mono _ _)
      | (with_reducible exact LeO.refl _)
      | (with_reducible exact LeO.none _)
      | (with_reducible refine LeO.ite ?_ ?_)
      | (with_reducible refine LeO.bind ?_ (fun _ => ?_))
      | exact ih0 _ _ _ _ _ _ _
      | exact ih1 _ _ _ _ _ _ _ _ _
      | exact ih2 _ _ _ _ _ _ _ _ _
      | exact quarryref07_Inside.mono _ _
      | exact quarryref07_Marks.mono _ _
      | exact LeO.none _
      | refine LeO.ite ?_ ?_
      | refine LeO.bind ?_ (fun _ => ?_)
    · intro y0 y1 y2 y3 y4 y5 y6 y7 y8
      unfold quarryref08_Bytes.j2
      repeat' first
      | (with_reducible exact ih0 _ _ _ _ _ _ _)
      | (with_reducible exact ih1 _ _ _ _ _ _ _ _ _)
      | (with_reducible exact ih2 _ _ _ _ _ _ _ _ _)
      | (with_reducible exact quarryref07_Inside.mono _ _)
      | (with_reducible exact quarryref07_Marks.mono _ _)
      | (with_reducible exact LeO.refl _)
      | (with_reducible exact LeO.none _)
      | (with_reducible refine LeO.ite ?_ ?_)
      | (with_reducible refine LeO.bind ?_ (fun _ => ?_))
      | exact ih0 _ _ _ _ _ _ _
      | exact ih1 _ _ _ _ _ _ _ _ _
      | exact ih2 _ _ _ _ _ _ _ _ _
      | exact quarryref07_Inside.mono _ _
      | exact quarryref07_Marks.mono _ _
      | exact LeO.none _
      | refine LeO.ite ?_ ?_
      | refine LeO.bind ?_ (fun _ => ?_)
theorem quarryref08_Bytes.mono : ∀ a0 k, LeO (quarryref08_Bytes.f k a0) (quarryref08_Bytes.f (k + 1) a0) := by
  intro a0 k
  obtain ⟨ih0, ih1, ih2⟩ := quarryref08_Bytes.mono_l k
  unfold quarryref08_Bytes.f
  repeat' first
      | (with_reducible exact ih0 _ _ _ _ _ _ _)
      | (with_reducible exact ih1 _ _ _ _ _ _ _ _ _)
      | (with_reducible exact ih2 _ _ _ _ _ _ _ _ _)
      | (with_reducible exact quarryref07_Inside.mono _ _)
      | (with_reducible exact quarryref07_Marks.mono _ _)
      | (with_reducible exact LeO.refl _)
      | (with_reducible exact LeO.none _)
      | (with_reducible refine LeO.ite ?_ ?_)
      | (with_reducible refine LeO.bind ?_ (fun _ => ?_))
      | exact ih0 _ _ _ _ _ _ _
      | exact ih1 _ _ _ _ _ _ _ _ _
      | exact ih2 _ _ _ _ _ _ _ _ _
      | exact quarryref07_Inside.mono _ _
      | exact quarryref07_Marks.mono _ _
      | exact LeO.none _
      | refine LeO.ite ?_ ?_
      | refine LeO.bind ?_ (fun _ => ?_)
set_option maxHeartbeats 8000000 in
set_option maxRecDepth 100000 in
theorem quarryref08_Bytes.calls (k : Nat) (a0 : ByteArray) (r : List Int) (w : World) (h : quarryref08_Bytes.f k a0 = some r) :
    Calls Tryd.prog 52 #[.string a0] w fun e w' => ∃ v0_ : Value, e = .returned (v0_) ∧ Kd.R (Kd.int .i64) 3 w' w.heap.size (fun _ => True) v0_ r ∧ Below w.heap.size w w' := by
  have hu34 := Tryd.underlying34
  have HB := Aside0.mk (Below.refl w.heap.size w)
  have H : ((quarryref07_Marks.f k a0).bind fun bt137 => ((quarryref07_Inside.f k a0).bind fun bt142 => (quarryref08_Bytes.l0 k a0 ([] : List Int) 0 bt137.1 bt137.2 bt142.1 bt142.2))) = some r := h
  clear h
  replace H := Option.bind_eq_some_iff.mp H
  obtain ⟨⟨t137, t138⟩, A20, H⟩ := H
  replace H : ((quarryref07_Inside.f k a0).bind fun bt142 => (quarryref08_Bytes.l0 k a0 ([] : List Int) 0 t137 t138 bt142.1 bt142.2)) = some r := H
  have A2 := Aside0.mk A20
  clear A20
  replace H := Option.bind_eq_some_iff.mp H
  obtain ⟨⟨t142, t143⟩, A30, H⟩ := H
  replace H : (quarryref08_Bytes.l0 k a0 ([] : List Int) 0 t137 t138 t142 t143) = some r := H
  have A3 := Aside0.mk A30
  clear A30
  have H' := Aside0.mk H
  clear H
  go_enter Tryd.func52, Tryd.ntmps52
  go_wp2_with (first | ((with_reducible refine gate_callee (f := 88) rfl ?_); refine goesL_ (some 9) rfl rfl Tryd.func88 (by kernel_rfl) rfl #[.string a0] rfl (by (try simp only [List.map_toArray, List.map_cons, List.map_nil]); first | done | rfl | (simp only [List.length_drop, List.length_take]; rfl)) ?_; (with_reducible refine (quarryref07_Marks.calls k a0 t137 t138 _ A2.out).mono ?_); rintro e w4 ⟨v139, rfl, ho0, hb⟩; refine ⟨_, rfl, ?_⟩; have n0_ := Aside0.mk (Kd.R_lower ho0 (below_size (by repeat (first | (with_reducible first | exact HB.out | apply below_alloc | apply pw_below_drewN | apply below_drew1) | exact HB.out)))); have n1_ := Aside0.mk (below_step (by repeat (first | (with_reducible first | exact HB.out | apply below_alloc | apply pw_below_drewN | apply below_drew1) | exact HB.out)) hb); clear HB; have HO140 := n0_; have HB := n1_; clear n0_ n1_; (try clear hb); (try clear hb2); (try clear hk); (try clear hi); (try clear ho0)) | ((with_reducible refine gate_dst (N := 3) rfl ?_); refine box_event ?hg (N := 3) ?hd (cs := #[.int .i64 0, .slice none 0 0]) (t := 34) ?hr ?_; (case hd => rfl); (case hg => rfl); (case hr => first | (go_simp; done) | (go_simp; rfl)); intro gb141 hg w5 hbox hb; have n0_ := Aside0.mk (Kd.R_below (by (with_reducible repeat (first | apply Kd.R_alloc | apply Kd.R_drewN | apply Kd.R_drew)); exact HO140.out) hb); have n1_ := Aside0.mk (below_step (by repeat (first | (with_reducible first | exact HB.out | apply below_alloc | apply pw_below_drewN | apply below_drew1) | exact HB.out)) hb); have n2_ := Aside0.mk (hbox); have n3_ := Aside0.mk ((by rw [hg]; exact (below_size (by repeat (first | (with_reducible first | exact HB.out | apply below_alloc | apply pw_below_drewN | apply below_drew1) | exact HB.out))) : w.heap.size ≤ gb141)); have n4_ := Aside0.mk ((by rw [hg]; exact (below_size (by repeat (first | (with_reducible first | exact HB.out | apply below_alloc | apply pw_below_drewN | apply below_drew1) | exact HB.out))) : w.heap.size ≤ gb141)); clear HO140; clear HB; have HO140 := n0_; have HB := n1_; have BK141 := n2_; have GW141 := n3_; have GE141 := n4_; clear n0_ n1_ n2_ n3_ n4_; clear hb hbox hg; have hcz6_0 : w5.cell? ⟨gb141, 0, none⟩ = some (.int .i64 0) := (blk_cell BK141.out 0).trans rfl; have hcz6_1 : w5.cell? ⟨gb141, 1, none⟩ = some (.slice none 0 0) := (blk_cell BK141.out 1).trans rfl; have hfz6_0 := blk_frozen BK141.out 0; have hfz6_1 := blk_frozen BK141.out 1; obtain ⟨Ao7, co7, eo7⟩ := Kd.R_slice HO140.out; subst eo7) | ((with_reducible refine gate_callee (f := 89) rfl ?_); refine goesL_ (some 11) rfl rfl Tryd.func89 (by kernel_rfl) rfl #[.string a0] rfl (by (try simp only [List.map_toArray, List.map_cons, List.map_nil]); first | done | rfl | (simp only [List.length_drop, List.length_take]; rfl)) ?_; (with_reducible refine (quarryref07_Inside.calls k a0 t142 t143 _ A3.out).mono ?_); rintro e w8 ⟨v144, rfl, ho0, hb⟩; refine ⟨_, rfl, ?_⟩; have n0_ := Aside0.mk (Kd.R_elder' (by (with_reducible repeat (first | apply Kd.R_alloc | apply Kd.R_drewN | apply Kd.R_drew)); exact (Kd.R_mono (Kd.R_far (p := ⟨gb141, 1, none⟩) (Kd.R_far (p := ⟨gb141, 0, none⟩) (Kd.R_types HO140.out BK141.out (by decide)) (fun _ hk => hk.2) (.int .i64 t137)) (fun _ hk => hk.2) (.slice Ao7 t138.length co7)) (fun _ h_ => h_.1))) (Kd.R_base ho0) hb); have n1_ := Aside0.mk (Kd.R_lower (Kd.R_new' ho0 (Kd.R_lt (by (with_reducible repeat (first | apply Kd.R_alloc | apply Kd.R_drewN | apply Kd.R_drew)); exact (Kd.R_mono (Kd.R_far (p := ⟨gb141, 1, none⟩) (Kd.R_far (p := ⟨gb141, 0, none⟩) (Kd.R_types HO140.out BK141.out (by decide)) (fun _ hk => hk.2) (.int .i64 t137)) (fun _ hk => hk.2) (.slice Ao7 t138.length co7)) (fun _ h_ => h_.1))))) (below_size (by repeat (first | (with_reducible first | exact HB.out | apply below_alloc | apply pw_below_drewN | apply below_drew1 | refine below_set ?_ GE141.out) | exact HB.out)))); have n2_ := Aside0.mk (blk_below (g := gb141) (o := .cells #[.int .i64 t137, .slice Ao7 t138.length co7] 34 (0, 0)) (by (with_reducible repeat (first | refine blk_drewN ?_ _ | refine blk_drew ?_ | refine blk_alloc ?_ _)); refine blk_put (cs := #[.int .i64 t137, .slice none 0 0]) ?_ 1 _ rfl; (with_reducible repeat (first | refine blk_drewN ?_ _ | refine blk_drew ?_ | refine blk_alloc ?_ _)); refine blk_put (cs := #[.int .i64 0, .slice none 0 0]) ?_ 0 _ rfl; (with_reducible repeat (first | refine blk_drewN ?_ _ | refine blk_drew ?_ | refine blk_alloc ?_ _)); exact BK141.out) hb); have n3_ := Aside0.mk (below_step (by repeat (first | (with_reducible first | exact HB.out | apply below_alloc | apply pw_below_drewN | apply below_drew1 | refine below_set ?_ GE141.out) | exact HB.out)) hb); clear HO140; clear BK141; clear HB; have HO140 := n0_; have HO145 := n1_; have BK141 := n2_; have HB := n3_; clear n0_ n1_ n2_ n3_; (try clear hb); (try clear hb2); (try clear hk); (try clear hi); (try clear ho0)) | ((with_reducible refine gate_dst (N := 4) rfl ?_); refine box_event ?hg (N := 4) ?hd (cs := #[.int .i64 0, .slice none 0 0]) (t := 34) ?hr ?_; (case hd => rfl); (case hg => rfl); (case hr => first | (go_simp; done) | (go_simp; rfl)); intro gb146 hg w9 hbox hb; have n0_ := Aside0.mk (Kd.R_below (by (with_reducible repeat (first | apply Kd.R_alloc | apply Kd.R_drewN | apply Kd.R_drew)); exact HO140.out) hb); have n1_ := Aside0.mk (Kd.R_below (by (with_reducible repeat (first | apply Kd.R_alloc | apply Kd.R_drewN | apply Kd.R_drew)); exact HO145.out) hb); have n2_ := Aside0.mk (blk_below (g := gb141) (o := .cells #[.int .i64 t137, .slice Ao7 t138.length co7] 34 (0, 0)) (by (with_reducible repeat (first | refine blk_drewN ?_ _ | refine blk_drew ?_ | refine blk_alloc ?_ _)); exact BK141.out) hb); have n3_ := Aside0.mk (below_step (by repeat (first | (with_reducible first | exact HB.out | apply below_alloc | apply pw_below_drewN | apply below_drew1 | refine below_set ?_ GE141.out) | exact HB.out)) hb); have n4_ := Aside0.mk (hbox); have n5_ := Aside0.mk ((by rw [hg]; exact (below_size (by repeat (first | (with_reducible first | exact HB.out | apply below_alloc | apply pw_below_drewN | apply below_drew1 | refine below_set ?_ GE141.out) | exact HB.out))) : w.heap.size ≤ gb146)); have n6_ := Aside0.mk ((by rw [hg]; exact (below_size (by repeat (first | (with_reducible first | exact HB.out | apply below_alloc | apply pw_below_drewN | apply below_drew1 | refine below_set ?_ GE141.out) | exact HB.out))) : w.heap.size ≤ gb146)); have n7_ := Aside0.mk ((by rw [hg]; exact Nat.ne_of_lt (blk_lt (g := gb141) (o := .cells #[.int .i64 t137, .slice Ao7 t138.length co7] 34 (0, 0)) (by (with_reducible repeat (first | refine blk_drewN ?_ _ | refine blk_drew ?_ | refine blk_alloc ?_ _)); exact BK141.out)) : gb141 ≠ gb146)); have n8_ := Aside0.mk ((by rw [hg]; exact Nat.ne_of_gt (blk_lt (g := gb141) (o := .cells #[.int .i64 t137, .slice Ao7 t138.length co7] 34 (0, 0)) (by (with_reducible repeat (first | refine blk_drewN ?_ _ | refine blk_drew ?_ | refine blk_alloc ?_ _)); exact BK141.out)) : gb146 ≠ gb141)); clear HO140; clear HO145; clear BK141; clear HB; have HO140 := n0_; have HO145 := n1_; have BK141 := n2_; have HB := n3_; have BK146 := n4_; have GW146 := n5_; have GE146 := n6_; have NB141_146 := n7_; have NB146_141 := n8_; clear n0_ n1_ n2_ n3_ n4_ n5_ n6_ n7_ n8_; clear hb hbox hg; have hnb10 := NB146_141.out; have hnc10 := NB141_146.out; have hcz11_0 : w9.cell? ⟨gb146, 0, none⟩ = some (.int .i64 0) := (blk_cell BK146.out 0).trans rfl; have hcz11_1 : w9.cell? ⟨gb146, 1, none⟩ = some (.slice none 0 0) := (blk_cell BK146.out 1).trans rfl; have hfz11_0 := blk_frozen BK146.out 0; have hfz11_1 := blk_frozen BK146.out 1; obtain ⟨Ao12, co12, eo12⟩ := Kd.R_slice HO145.out; subst eo12))
  go_loopg [5, 6] k (fun kq v5 v6 w' => ∃ (x5_1 : List Int) (x6_1 : Int), v6 = .int .i64 x6_1 ∧ Aside0 (quarryref08_Bytes.l0 kq a0 x5_1 x6_1 t137 t138 t142 t143 = some r) ∧ Aside0 (kq ≤ k) ∧ Aside0 (Kd.R (Kd.int .i64) 3 w' w.heap.size (fun _ => True) v5 x5_1) ∧ Aside0 (Kd.R (Kd.int .u64) 75 w' w.heap.size (fun k_ => some k_ ≠ ((.slice Ao12 t143.length co12) : Value).ownBlock) (.slice Ao7 t138.length co7) t138) ∧ Aside0 (Kd.R (Kd.int .u64) 75 w' w.heap.size (fun k_ => some k_ ≠ ((.slice Ao7 t138.length co7) : Value).ownBlock) (.slice Ao12 t143.length co12) t143) ∧ Aside0 (w'.heap[gb141]? = some (.cells #[.int .i64 t137, (.slice Ao7 t138.length co7)] 34 (0, 0))) ∧ Aside0 (w'.heap[gb146]? = some (.cells #[.int .i64 t142, (.slice Ao12 t143.length co12)] 34 (0, 0))) ∧ Aside0 (Below w.heap.size w w'))
  case atStart => exact ⟨(([] : List Int)), (0), (by first | rfl | (simp; done) | (simp [*]; done)), H', ⟨Nat.le_refl _⟩, ⟨by first | exact Kd.R_nil _ _ _ _ _ | exact Kd.N_nil _ _ _ _ _ | exact Kd.V_nil _ _ _ _ _ | exact Kd.Q_nil _ _ _ _ _ | exact Kd.S_nil _ _ _ _ _⟩, ⟨by (with_reducible repeat (first | apply Kd.R_alloc | apply Kd.R_drewN | apply Kd.R_drew)); exact Kd.R_mono (Kd.R_far (p := ⟨gb146, 1, none⟩) (Kd.R_far (p := ⟨gb146, 0, none⟩) (Kd.R_types HO140.out BK146.out (by decide)) (fun _ hk => hk.2) (.int .i64 t142)) (fun _ hk => hk.2) (.slice Ao12 t143.length co12)) (fun _ hk => hk.1.2)⟩, ⟨by (with_reducible repeat (first | apply Kd.R_alloc | apply Kd.R_drewN | apply Kd.R_drew)); exact Kd.R_mono (Kd.R_far (p := ⟨gb146, 1, none⟩) (Kd.R_far (p := ⟨gb146, 0, none⟩) (Kd.R_types HO145.out BK146.out (by decide)) (fun _ hk => hk.2) (.int .i64 t142)) (fun _ hk => hk.2) (.slice Ao12 t143.length co12)) (fun _ hk => hk.1.2)⟩, ⟨by (with_reducible repeat (first | refine blk_drewN ?_ _ | refine blk_drew ?_ | refine blk_alloc ?_ _)); refine blk_far ?_ NB141_146.out _; (with_reducible repeat (first | refine blk_drewN ?_ _ | refine blk_drew ?_ | refine blk_alloc ?_ _)); refine blk_far ?_ NB141_146.out _; (with_reducible repeat (first | refine blk_drewN ?_ _ | refine blk_drew ?_ | refine blk_alloc ?_ _)); exact BK141.out⟩, ⟨by (with_reducible repeat (first | refine blk_drewN ?_ _ | refine blk_drew ?_ | refine blk_alloc ?_ _)); refine blk_put (cs := #[.int .i64 t142, .slice none 0 0]) ?_ 1 _ rfl; (with_reducible repeat (first | refine blk_drewN ?_ _ | refine blk_drew ?_ | refine blk_alloc ?_ _)); refine blk_put (cs := #[.int .i64 0, .slice none 0 0]) ?_ 0 _ rfl; (with_reducible repeat (first | refine blk_drewN ?_ _ | refine blk_drew ?_ | refine blk_alloc ?_ _)); exact BK146.out⟩, ⟨by repeat (first | (with_reducible first | exact HB.out | apply below_alloc | apply pw_below_drewN | apply below_drew1 | refine below_set ?_ GE141.out | refine below_set ?_ GE146.out) | exact HB.out)⟩⟩
  case round =>
    clear H'
    try clear c1
    try clear p2
    try clear c5
    try clear c8
    try clear c10
    try clear hcz11_0
    try clear hcz11_1
    try clear hcz6_0
    try clear hcz6_1
    try clear hfz11_0
    try clear hfz11_1
    try clear hfz6_0
    try clear hfz6_1
    obtain ⟨x5_1, x6_1, rfl, HA, HK1, HO_5, HO_142001, HO_147001, BK141, BK146, HB⟩ := hrel
    cases gk with
    | zero => exact absurd HA.out (by simp [quarryref08_Bytes.l0])
    | succ k1 =>
      have H := HA.out
      clear HA
      simp only [quarryref08_Bytes.l0] at H
      by_cases c13 : x6_1 < (a0.size : Int)
      · rw [if_pos c13] at H
        have c13b0 : decide (x6_1 < (a0.size : Int)) = true := decide_eq_true c13
        clear c13
        by_cases c14 : 0 ≤ x6_1
        · rw [if_pos c14] at H
          have c14b0 : decide (0 ≤ x6_1) = true := decide_eq_true c14
          clear c14
          have HC16 := Aside0.mk H
          clear H
          have p15 : 0 ≤ (x6_1 : Int) := of_decide_eq_true (by first | (with_reducible assumption) | assumption)
          have q15 : x6_1 < (a0.size : Int) := of_decide_eq_true (by first | (with_reducible assumption) | assumption)
          have hx15 := bt_at a0 x6_1
          replace p15 := eq_true p15
          replace q15 := eq_true q15
          go_upto_region 9 with (fail)
          go_cut [24] (fun v24 wc => ∃ (kq : Nat) (x24_15 : Bool), v24 = .bool x24_15 ∧ Aside0 (quarryref08_Bytes.j1 kq a0 x5_1 x6_1 (bt a0 x6_1) x24_15 t137 t138 t142 t143 = some r) ∧ Aside0 (kq ≤ k1) ∧ Aside0 (Kd.R (Kd.int .i64) 3 wc w.heap.size (fun _ => True) u5 x5_1) ∧ Aside0 (Kd.R (Kd.int .u64) 75 wc w.heap.size (fun k_ => some k_ ≠ ((.slice Ao12 t143.length co12) : Value).ownBlock) (.slice Ao7 t138.length co7) t138) ∧ Aside0 (Kd.R (Kd.int .u64) 75 wc w.heap.size (fun k_ => some k_ ≠ ((.slice Ao7 t138.length co7) : Value).ownBlock) (.slice Ao12 t143.length co12) t143) ∧ Aside0 (wc.heap[gb141]? = some (.cells #[.int .i64 t137, (.slice Ao7 t138.length co7)] 34 (0, 0))) ∧ Aside0 (wc.heap[gb146]? = some (.cells #[.int .i64 t142, (.slice Ao12 t143.length co12)] 34 (0, 0))) ∧ Aside0 (Below w.heap.size w wc))
          case first =>
            have H := HC16.out
            clear HC16
            replace H := Option.bind_eq_some_iff.mp H
            obtain ⟨t147, A170, H⟩ := H
            replace H : (if t147 = true then ((quarryref08_set.f t142 t143 x6_1).bind fun t148 => (quarryref08_Bytes.j1 k1 a0 x5_1 x6_1 (bt a0 x6_1) t148 t137 t138 t142 t143)) else (quarryref08_Bytes.j1 k1 a0 x5_1 x6_1 (bt a0 x6_1) false t137 t138 t142 t143)) = some r := H
            have A17 := Aside0.mk A170
            clear A170
            by_cases c18 : t147 = true
            · subst c18
              have H1 : ((quarryref08_set.f t142 t143 x6_1).bind fun t148 => (quarryref08_Bytes.j1 k1 a0 x5_1 x6_1 (bt a0 x6_1) t148 t137 t138 t142 t143)) = some r := by rw [if_pos rfl] at H; exact H
              clear H
              have H := H1
              clear H1
              replace H := Option.bind_eq_some_iff.mp H
              obtain ⟨t148, A190, H⟩ := H
              replace H : (quarryref08_Bytes.j1 k1 a0 x5_1 x6_1 (bt a0 x6_1) t148 t137 t138 t142 t143) = some r := H
              have A19 := Aside0.mk A190
              clear A190
              have H' := Aside0.mk H
              clear H
              have hnb20 := NB141_146.out
              have hnc20 := NB146_141.out
              have hcz21_0 : wr.cell? ⟨gb141, 0, none⟩ = some (.int .i64 t137) := (blk_cell BK141.out 0).trans rfl
              have hcz21_1 : wr.cell? ⟨gb141, 1, none⟩ = some (.slice Ao7 t138.length co7) := (blk_cell BK141.out 1).trans rfl
              have hfz21_0 := blk_frozen BK141.out 0
              have hfz21_1 := blk_frozen BK141.out 1
              go_wp2_with (first | ((with_reducible refine gate_callee (f := 90) rfl ?_); refine goesL_ (some 27) rfl rfl Tryd.func90 (by kernel_rfl) rfl #[.agg #[.int .i64 t137, .slice Ao7 t138.length co7], .int .i64 x6_1] rfl (by (try simp only [List.map_toArray, List.map_cons, List.map_nil]); first | done | rfl | (simp only [List.length_drop, List.length_take]; rfl)) ?_; (with_reducible refine (quarryref08_set.calls t137 _ _ t138 x6_1 true _ ?side1 ?side2 A17.out).mono ?_); (case side1 => repeat (first | exact (Kd.R_reads' HO_142001.out).2.2 | (with_reducible refine Kd.C_alloc ?_ _) | (with_reducible refine Kd.C_drewN ?_ _) | (with_reducible refine Kd.C_drew ?_))); (case side2 => exact (Kd.R_reads' HO_142001.out).2.1); rintro e w22 ⟨rfl, hb⟩; refine ⟨_, rfl, ?_⟩; have n0_ := Aside0.mk (Kd.R_below (by (with_reducible repeat (first | apply Kd.R_alloc | apply Kd.R_drewN | apply Kd.R_drew)); exact HO_5.out) hb); have n1_ := Aside0.mk (Kd.R_below (by (with_reducible repeat (first | apply Kd.R_alloc | apply Kd.R_drewN | apply Kd.R_drew)); exact HO_142001.out) hb); have n2_ := Aside0.mk (Kd.R_below (by (with_reducible repeat (first | apply Kd.R_alloc | apply Kd.R_drewN | apply Kd.R_drew)); exact HO_147001.out) hb); have n3_ := Aside0.mk (blk_below (g := gb141) (o := .cells #[.int .i64 t137, .slice Ao7 t138.length co7] 34 (0, 0)) (by (with_reducible repeat (first | refine blk_drewN ?_ _ | refine blk_drew ?_ | refine blk_alloc ?_ _)); exact BK141.out) hb); have n4_ := Aside0.mk (blk_below (g := gb146) (o := .cells #[.int .i64 t142, .slice Ao12 t143.length co12] 34 (0, 0)) (by (with_reducible repeat (first | refine blk_drewN ?_ _ | refine blk_drew ?_ | refine blk_alloc ?_ _)); exact BK146.out) hb); have n5_ := Aside0.mk (below_step (by repeat (first | (with_reducible first | exact HB.out | apply below_alloc | apply pw_below_drewN | apply below_drew1 | refine below_set ?_ GE141.out | refine below_set ?_ GE146.out) | exact HB.out)) hb); clear HO_5; clear HO_142001; clear HO_147001; clear BK141; clear BK146; clear HB; have HO_5 := n0_; have HO_142001 := n1_; have HO_147001 := n2_; have BK141 := n3_; have BK146 := n4_; have HB := n5_; clear n0_ n1_ n2_ n3_ n4_ n5_; (try clear hb); (try clear hb2); (try clear hk); (try clear hi); have hcz23_0 : w22.cell? ⟨gb146, 0, none⟩ = some (.int .i64 t142) := (blk_cell BK146.out 0).trans rfl; have hcz23_1 : w22.cell? ⟨gb146, 1, none⟩ = some (.slice Ao12 t143.length co12) := (blk_cell BK146.out 1).trans rfl; have hfz23_0 := blk_frozen BK146.out 0; have hfz23_1 := blk_frozen BK146.out 1) | (go_at_call 90; (with_reducible refine (quarryref08_set.calls t142 _ _ t143 x6_1 t148 _ ?side1 ?side2 A19.out).mono ?_); (case side1 => repeat (first | exact (Kd.R_reads' HO_147001.out).2.2 | (with_reducible refine Kd.C_alloc ?_ _) | (with_reducible refine Kd.C_drewN ?_ _) | (with_reducible refine Kd.C_drew ?_))); (case side2 => exact (Kd.R_reads' HO_147001.out).2.1); rintro e w24 ⟨rfl, hb⟩; have n0_ := Aside0.mk (Kd.R_below (by (with_reducible repeat (first | apply Kd.R_alloc | apply Kd.R_drewN | apply Kd.R_drew)); exact HO_5.out) hb); have n1_ := Aside0.mk (Kd.R_below (by (with_reducible repeat (first | apply Kd.R_alloc | apply Kd.R_drewN | apply Kd.R_drew)); exact HO_142001.out) hb); have n2_ := Aside0.mk (Kd.R_below (by (with_reducible repeat (first | apply Kd.R_alloc | apply Kd.R_drewN | apply Kd.R_drew)); exact HO_147001.out) hb); have n3_ := Aside0.mk (blk_below (g := gb141) (o := .cells #[.int .i64 t137, .slice Ao7 t138.length co7] 34 (0, 0)) (by (with_reducible repeat (first | refine blk_drewN ?_ _ | refine blk_drew ?_ | refine blk_alloc ?_ _)); exact BK141.out) hb); have n4_ := Aside0.mk (blk_below (g := gb146) (o := .cells #[.int .i64 t142, .slice Ao12 t143.length co12] 34 (0, 0)) (by (with_reducible repeat (first | refine blk_drewN ?_ _ | refine blk_drew ?_ | refine blk_alloc ?_ _)); exact BK146.out) hb); have n5_ := Aside0.mk (below_step (by repeat (first | (with_reducible first | exact HB.out | apply below_alloc | apply pw_below_drewN | apply below_drew1 | refine below_set ?_ GE141.out | refine below_set ?_ GE146.out) | exact HB.out)) hb); clear HO_5; clear HO_142001; clear HO_147001; clear BK141; clear BK146; clear HB; have HO_5 := n0_; have HO_142001 := n1_; have HO_147001 := n2_; have BK141 := n3_; have BK146 := n4_; have HB := n5_; clear n0_ n1_ n2_ n3_ n4_ n5_; (try clear hb); (try clear hb2); (try clear hk); (try clear hi)))
              go_meet
              case rel => exact ⟨_, (t148), (by first | rfl | (simp; done) | (simp [*]; done)), H', ⟨by have := HK1.out; first | omega | exact Nat.le_refl _⟩, ⟨by (with_reducible repeat (first | apply Kd.R_alloc | apply Kd.R_drewN | apply Kd.R_drew)); exact HO_5.out⟩, ⟨by (with_reducible repeat (first | apply Kd.R_alloc | apply Kd.R_drewN | apply Kd.R_drew)); exact HO_142001.out⟩, ⟨by (with_reducible repeat (first | apply Kd.R_alloc | apply Kd.R_drewN | apply Kd.R_drew)); exact HO_147001.out⟩, ⟨by (with_reducible repeat (first | refine blk_drewN ?_ _ | refine blk_drew ?_ | refine blk_alloc ?_ _)); exact BK141.out⟩, ⟨by (with_reducible repeat (first | refine blk_drewN ?_ _ | refine blk_drew ?_ | refine blk_alloc ?_ _)); exact BK146.out⟩, ⟨by repeat (first | (with_reducible first | exact HB.out | apply below_alloc | apply pw_below_drewN | apply below_drew1 | refine below_set ?_ GE141.out | refine below_set ?_ GE146.out) | exact HB.out)⟩⟩
            · replace c18 := Bool.eq_false_iff.mpr c18
              subst c18
              have H1 : (quarryref08_Bytes.j1 k1 a0 x5_1 x6_1 (bt a0 x6_1) false t137 t138 t142 t143) = some r := by rw [if_neg (show ¬ (false = true) by decide)] at H; exact H
              clear H
              have H := H1
              clear H1
              have H' := Aside0.mk H
              clear H
              have hnb25 := NB141_146.out
              have hnc25 := NB146_141.out
              have hcz26_0 : wr.cell? ⟨gb141, 0, none⟩ = some (.int .i64 t137) := (blk_cell BK141.out 0).trans rfl
              have hcz26_1 : wr.cell? ⟨gb141, 1, none⟩ = some (.slice Ao7 t138.length co7) := (blk_cell BK141.out 1).trans rfl
              have hfz26_0 := blk_frozen BK141.out 0
              have hfz26_1 := blk_frozen BK141.out 1
              go_wp2_with (first | ((with_reducible refine gate_callee (f := 90) rfl ?_); refine goesL_ (some 27) rfl rfl Tryd.func90 (by kernel_rfl) rfl #[.agg #[.int .i64 t137, .slice Ao7 t138.length co7], .int .i64 x6_1] rfl (by (try simp only [List.map_toArray, List.map_cons, List.map_nil]); first | done | rfl | (simp only [List.length_drop, List.length_take]; rfl)) ?_; (with_reducible refine (quarryref08_set.calls t137 _ _ t138 x6_1 false _ ?side1 ?side2 A17.out).mono ?_); (case side1 => repeat (first | exact (Kd.R_reads' HO_142001.out).2.2 | (with_reducible refine Kd.C_alloc ?_ _) | (with_reducible refine Kd.C_drewN ?_ _) | (with_reducible refine Kd.C_drew ?_))); (case side2 => exact (Kd.R_reads' HO_142001.out).2.1); rintro e w27 ⟨rfl, hb⟩; refine ⟨_, rfl, ?_⟩; have n0_ := Aside0.mk (Kd.R_below (by (with_reducible repeat (first | apply Kd.R_alloc | apply Kd.R_drewN | apply Kd.R_drew)); exact HO_5.out) hb); have n1_ := Aside0.mk (Kd.R_below (by (with_reducible repeat (first | apply Kd.R_alloc | apply Kd.R_drewN | apply Kd.R_drew)); exact HO_142001.out) hb); have n2_ := Aside0.mk (Kd.R_below (by (with_reducible repeat (first | apply Kd.R_alloc | apply Kd.R_drewN | apply Kd.R_drew)); exact HO_147001.out) hb); have n3_ := Aside0.mk (blk_below (g := gb141) (o := .cells #[.int .i64 t137, .slice Ao7 t138.length co7] 34 (0, 0)) (by (with_reducible repeat (first | refine blk_drewN ?_ _ | refine blk_drew ?_ | refine blk_alloc ?_ _)); exact BK141.out) hb); have n4_ := Aside0.mk (blk_below (g := gb146) (o := .cells #[.int .i64 t142, .slice Ao12 t143.length co12] 34 (0, 0)) (by (with_reducible repeat (first | refine blk_drewN ?_ _ | refine blk_drew ?_ | refine blk_alloc ?_ _)); exact BK146.out) hb); have n5_ := Aside0.mk (below_step (by repeat (first | (with_reducible first | exact HB.out | apply below_alloc | apply pw_below_drewN | apply below_drew1 | refine below_set ?_ GE141.out | refine below_set ?_ GE146.out) | exact HB.out)) hb); clear HO_5; clear HO_142001; clear HO_147001; clear BK141; clear BK146; clear HB; have HO_5 := n0_; have HO_142001 := n1_; have HO_147001 := n2_; have BK141 := n3_; have BK146 := n4_; have HB := n5_; clear n0_ n1_ n2_ n3_ n4_ n5_; (try clear hb); (try clear hb2); (try clear hk); (try clear hi)))
              go_meet
              case rel => exact ⟨_, (false), (by first | rfl | (simp; done) | (simp [*]; done)), H', ⟨by have := HK1.out; first | omega | exact Nat.le_refl _⟩, ⟨by (with_reducible repeat (first | apply Kd.R_alloc | apply Kd.R_drewN | apply Kd.R_drew)); exact HO_5.out⟩, ⟨by (with_reducible repeat (first | apply Kd.R_alloc | apply Kd.R_drewN | apply Kd.R_drew)); exact HO_142001.out⟩, ⟨by (with_reducible repeat (first | apply Kd.R_alloc | apply Kd.R_drewN | apply Kd.R_drew)); exact HO_147001.out⟩, ⟨by (with_reducible repeat (first | refine blk_drewN ?_ _ | refine blk_drew ?_ | refine blk_alloc ?_ _)); exact BK141.out⟩, ⟨by (with_reducible repeat (first | refine blk_drewN ?_ _ | refine blk_drew ?_ | refine blk_alloc ?_ _)); exact BK146.out⟩, ⟨by repeat (first | (with_reducible first | exact HB.out | apply below_alloc | apply pw_below_drewN | apply below_drew1 | refine below_set ?_ GE141.out | refine below_set ?_ GE146.out) | exact HB.out)⟩⟩
          case rest =>
            clear HC16
            try clear c1
            try clear p1
            try clear q1
            try clear hx1
            try clear c2
            try clear p2
            try clear c5
            try clear c8
            try clear c9
            try clear c10
            try clear c13
            try clear c13b0
            try clear c14
            try clear c14b0
            try clear p15
            try clear q15
            try clear hx15
            try clear c18
            try clear c20
            try clear c25
            try clear hcz11_0
            try clear hcz11_1
            try clear hcz21_0
            try clear hcz21_1
            try clear hcz23_0
            try clear hcz23_1
            try clear hcz26_0
            try clear hcz26_1
            try clear hcz6_0
            try clear hcz6_1
            try clear hfz11_0
            try clear hfz11_1
            try clear hfz21_0
            try clear hfz21_1
            try clear hfz23_0
            try clear hfz23_1
            try clear hfz26_0
            try clear hfz26_1
            try clear hfz6_0
            try clear hfz6_1
            try clear p15
            try clear p2
            try clear q15
            obtain ⟨kq, x24_15, rfl, HA, HJ15, HO_5, HO_142001, HO_147001, BK141, BK146, HB⟩ := hcut
            cases kq with
            | zero => exact absurd HA.out (by simp [quarryref08_Bytes.j1])
            | succ kj15 =>
              have H := HA.out
              clear HA
              simp only [quarryref08_Bytes.j1] at H
              by_cases c28 : x24_15 = true
              · subst c28
                have H1 : (if x5_1.length < 17592186044416 then (quarryref08_Bytes.l0 kj15 a0 (x5_1 ++ [3]) (wrap64 (x6_1 + 1)) t137 t138 t142 t143) else (none)) = some r := by rw [if_pos rfl] at H; exact H
                clear H
                have H := H1
                clear H1
                by_cases c29 : x5_1.length < 17592186044416
                · rw [if_pos c29] at H
                  have LMc29 := Aside0.mk c29
                  clear c29
                  obtain ⟨y149, hy149⟩ : ∃ y_ : List Int, y_ = (x5_1 ++ [3]) := ⟨_, rfl⟩
                  replace H : (quarryref08_Bytes.l0 kj15 a0 y149 (wrap64 (x6_1 + 1)) t137 t138 t142 t143) = some r := by first | (rw [hy149]; with_reducible exact H) | (have H2_ := (Option.bind_some _ _).symm.trans H; rw [hy149]; with_reducible exact H2_) | (have H2_ := (Option.bind_some _ _).symm.trans H; with_reducible exact H2_) | with_reducible exact H | (rw [hy149]; exact H) | exact H
                  have Ny149 := Aside0.mk hy149
                  clear hy149
                  have H' := Aside0.mk H
                  clear H
                  go_wp2_with (first | ((with_reducible refine gate_builtin (b := .append) (xs := #[.tmp 33, .tmp 34]) rfl ?_); at_builtin; refine Kd.R_append (Kd.int .i64) (w0 := w) w.heap.size rfl (.tmp 33) (.tmp 34) 36 3 (.int .i64 0) 8 rfl Tryd.underlying36 info3 rfl (by decide) (by omega) u5 x5_1 3 [.int .i64 3] (fun _ => True) (fun _ => False) rfl rfl ?aP (fun _ hk => hk.elim) ?aF ?aO ?aB ?aS ?aL ?_; (case aP => exact rfl); (case aB => exact (by repeat (first | (with_reducible first | exact HB.out | apply below_alloc | apply pw_below_drewN | apply below_drew1 | refine below_set ?_ GE141.out | refine below_set ?_ GE146.out) | exact HB.out))); (case aF => exact (fun _ _ => trivial)); (case aO => exact (by (with_reducible repeat (first | apply Kd.R_alloc | apply Kd.R_drewN | apply Kd.R_drew)); exact HO_5.out)); (case aS => exact (below_size (by repeat (first | (with_reducible first | exact HB.out | apply below_alloc | apply pw_below_drewN | apply below_drew1 | refine below_set ?_ GE141.out | refine below_set ?_ GE146.out) | exact HB.out)))); (case aL => have := LMc29.out; omega); intro v150 w30 ho hb hg hat; rw [← Ny149.out] at ho; have n0_ := Aside0.mk (Kd.R_over' (by (with_reducible repeat (first | apply Kd.R_alloc | apply Kd.R_drewN | apply Kd.R_drew)); exact HO_142001.out) (Kd.R_typed (by (with_reducible repeat (first | apply Kd.R_alloc | apply Kd.R_drewN | apply Kd.R_drew)); exact HO_5.out)) (by decide) hg); have n1_ := Aside0.mk (Kd.R_over' (by (with_reducible repeat (first | apply Kd.R_alloc | apply Kd.R_drewN | apply Kd.R_drew)); exact HO_147001.out) (Kd.R_typed (by (with_reducible repeat (first | apply Kd.R_alloc | apply Kd.R_drewN | apply Kd.R_drew)); exact HO_5.out)) (by decide) hg); have n2_ := Aside0.mk (blk_grown (g := gb141) (o := .cells #[.int .i64 t137, .slice Ao7 t138.length co7] 34 (0, 0)) (by (with_reducible repeat (first | refine blk_drewN ?_ _ | refine blk_drew ?_ | refine blk_alloc ?_ _)); exact BK141.out) hg (Kd.R_ne HO_5.out BK141.out (by decide))); have n3_ := Aside0.mk (blk_grown (g := gb146) (o := .cells #[.int .i64 t142, .slice Ao12 t143.length co12] 34 (0, 0)) (by (with_reducible repeat (first | refine blk_drewN ?_ _ | refine blk_drew ?_ | refine blk_alloc ?_ _)); exact BK146.out) hg (Kd.R_ne HO_5.out BK146.out (by decide))); have n4_ := Aside0.mk (hb); have n5_ := Aside0.mk (ho); clear HO_142001; clear HO_147001; clear BK141; clear BK146; clear HB; clear HO_5; have HO_142001 := n0_; have HO_147001 := n1_; have BK141 := n2_; have BK146 := n3_; have HB := n4_; have HO151 := n5_; clear n0_ n1_ n2_ n3_ n4_ n5_; clear ho hb hg hat))
                  go_roundg kj15
                  case measure => have := HK1.out; have := HJ15.out; omega
                  case rel => exact ⟨(y149), (wrap64 (x6_1 + 1)), (by first | rfl | (simp; done) | (simp [*]; done)), H', ⟨by have := HK1.out; have := HJ15.out; omega⟩, ⟨by (with_reducible repeat (first | apply Kd.R_alloc | apply Kd.R_drewN | apply Kd.R_drew)); exact HO151.out⟩, ⟨by (with_reducible repeat (first | apply Kd.R_alloc | apply Kd.R_drewN | apply Kd.R_drew)); exact HO_142001.out⟩, ⟨by (with_reducible repeat (first | apply Kd.R_alloc | apply Kd.R_drewN | apply Kd.R_drew)); exact HO_147001.out⟩, ⟨by (with_reducible repeat (first | refine blk_drewN ?_ _ | refine blk_drew ?_ | refine blk_alloc ?_ _)); exact BK141.out⟩, ⟨by (with_reducible repeat (first | refine blk_drewN ?_ _ | refine blk_drew ?_ | refine blk_alloc ?_ _)); exact BK146.out⟩, ⟨by repeat (first | (with_reducible first | exact HB.out | apply below_alloc | apply pw_below_drewN | apply below_drew1 | refine below_set ?_ GE141.out | refine below_set ?_ GE146.out) | exact HB.out)⟩⟩
                · rw [if_neg c29] at H
                  exact absurd H (by simp)
              · replace c28 := Bool.eq_false_iff.mpr c28
                subst c28
                have H1 : ((quarryref08_set.f t137 t138 x6_1).bind fun t152 => (if t152 = true then (if x5_1.length < 17592186044416 then (quarryref08_Bytes.l0 kj15 a0 (x5_1 ++ [4]) (wrap64 (x6_1 + 1)) t137 t138 t142 t143) else (none)) else ((quarryref08_set.f t142 t143 x6_1).bind fun t156 => (if t156 = true then (if x5_1.length < 17592186044416 then (quarryref08_Bytes.l0 kj15 a0 (x5_1 ++ [5]) (wrap64 (x6_1 + 1)) t137 t138 t142 t143) else (none)) else (if (bt a0 x6_1) = 123 then (quarryref08_Bytes.j2 kj15 a0 x5_1 x6_1 (bt a0 x6_1) true t137 t138 t142 t143) else (if (bt a0 x6_1) = 125 then (quarryref08_Bytes.j2 kj15 a0 x5_1 x6_1 (bt a0 x6_1) true t137 t138 t142 t143) else (if (bt a0 x6_1) = 91 then (quarryref08_Bytes.j2 kj15 a0 x5_1 x6_1 (bt a0 x6_1) true t137 t138 t142 t143) else (if (bt a0 x6_1) = 93 then (quarryref08_Bytes.j2 kj15 a0 x5_1 x6_1 (bt a0 x6_1) true t137 t138 t142 t143) else (if (bt a0 x6_1) = 58 then (quarryref08_Bytes.j2 kj15 a0 x5_1 x6_1 (bt a0 x6_1) true t137 t138 t142 t143) else (quarryref08_Bytes.j2 kj15 a0 x5_1 x6_1 (bt a0 x6_1) ((bt a0 x6_1) == 44) t137 t138 t142 t143)))))))))) = some r := by rw [if_neg (show ¬ (false = true) by decide)] at H; exact H
                clear H
                have H := H1
                clear H1
                replace H := Option.bind_eq_some_iff.mp H
                obtain ⟨t152, A310, H⟩ := H
                replace H : (if t152 = true then (if x5_1.length < 17592186044416 then (quarryref08_Bytes.l0 kj15 a0 (x5_1 ++ [4]) (wrap64 (x6_1 + 1)) t137 t138 t142 t143) else (none)) else ((quarryref08_set.f t142 t143 x6_1).bind fun t156 => (if t156 = true then (if x5_1.length < 17592186044416 then (quarryref08_Bytes.l0 kj15 a0 (x5_1 ++ [5]) (wrap64 (x6_1 + 1)) t137 t138 t142 t143) else (none)) else (if (bt a0 x6_1) = 123 then (quarryref08_Bytes.j2 kj15 a0 x5_1 x6_1 (bt a0 x6_1) true t137 t138 t142 t143) else (if (bt a0 x6_1) = 125 then (quarryref08_Bytes.j2 kj15 a0 x5_1 x6_1 (bt a0 x6_1) true t137 t138 t142 t143) else (if (bt a0 x6_1) = 91 then (quarryref08_Bytes.j2 kj15 a0 x5_1 x6_1 (bt a0 x6_1) true t137 t138 t142 t143) else (if (bt a0 x6_1) = 93 then (quarryref08_Bytes.j2 kj15 a0 x5_1 x6_1 (bt a0 x6_1) true t137 t138 t142 t143) else (if (bt a0 x6_1) = 58 then (quarryref08_Bytes.j2 kj15 a0 x5_1 x6_1 (bt a0 x6_1) true t137 t138 t142 t143) else (quarryref08_Bytes.j2 kj15 a0 x5_1 x6_1 (bt a0 x6_1) ((bt a0 x6_1) == 44) t137 t138 t142 t143))))))))) = some r := H
                have A31 := Aside0.mk A310
                clear A310
                by_cases c32 : t152 = true
                · subst c32
                  have H1 : (if x5_1.length < 17592186044416 then (quarryref08_Bytes.l0 kj15 a0 (x5_1 ++ [4]) (wrap64 (x6_1 + 1)) t137 t138 t142 t143) else (none)) = some r := by rw [if_pos rfl] at H; exact H
                  clear H
                  have H := H1
                  clear H1
                  by_cases c33 : x5_1.length < 17592186044416
                  · rw [if_pos c33] at H
                    have LMc33 := Aside0.mk c33
                    clear c33
                    obtain ⟨y153, hy153⟩ : ∃ y_ : List Int, y_ = (x5_1 ++ [4]) := ⟨_, rfl⟩
                    replace H : (quarryref08_Bytes.l0 kj15 a0 y153 (wrap64 (x6_1 + 1)) t137 t138 t142 t143) = some r := by first | (rw [hy153]; with_reducible exact H) | (have H2_ := (Option.bind_some _ _).symm.trans H; rw [hy153]; with_reducible exact H2_) | (have H2_ := (Option.bind_some _ _).symm.trans H; with_reducible exact H2_) | with_reducible exact H | (rw [hy153]; exact H) | exact H
                    have Ny153 := Aside0.mk hy153
                    clear hy153
                    have H' := Aside0.mk H
                    clear H
                    have hnb34 := NB141_146.out
                    have hnc34 := NB146_141.out
                    have hcz35_0 : wc.cell? ⟨gb141, 0, none⟩ = some (.int .i64 t137) := (blk_cell BK141.out 0).trans rfl
                    have hcz35_1 : wc.cell? ⟨gb141, 1, none⟩ = some (.slice Ao7 t138.length co7) := (blk_cell BK141.out 1).trans rfl
                    have hfz35_0 := blk_frozen BK141.out 0
                    have hfz35_1 := blk_frozen BK141.out 1
                    go_wp2_with (first | ((with_reducible refine gate_callee (f := 90) rfl ?_); refine goesL_ (some 39) rfl rfl Tryd.func90 (by kernel_rfl) rfl #[.agg #[.int .i64 t137, .slice Ao7 t138.length co7], .int .i64 x6_1] rfl (by (try simp only [List.map_toArray, List.map_cons, List.map_nil]); first | done | rfl | (simp only [List.length_drop, List.length_take]; rfl)) ?_; (with_reducible refine (quarryref08_set.calls t137 _ _ t138 x6_1 true _ ?side1 ?side2 A31.out).mono ?_); (case side1 => repeat (first | exact (Kd.R_reads' HO_142001.out).2.2 | (with_reducible refine Kd.C_alloc ?_ _) | (with_reducible refine Kd.C_drewN ?_ _) | (with_reducible refine Kd.C_drew ?_))); (case side2 => exact (Kd.R_reads' HO_142001.out).2.1); rintro e w36 ⟨rfl, hb⟩; refine ⟨_, rfl, ?_⟩; have n0_ := Aside0.mk (Kd.R_below (by (with_reducible repeat (first | apply Kd.R_alloc | apply Kd.R_drewN | apply Kd.R_drew)); exact HO_5.out) hb); have n1_ := Aside0.mk (Kd.R_below (by (with_reducible repeat (first | apply Kd.R_alloc | apply Kd.R_drewN | apply Kd.R_drew)); exact HO_142001.out) hb); have n2_ := Aside0.mk (Kd.R_below (by (with_reducible repeat (first | apply Kd.R_alloc | apply Kd.R_drewN | apply Kd.R_drew)); exact HO_147001.out) hb); have n3_ := Aside0.mk (blk_below (g := gb141) (o := .cells #[.int .i64 t137, .slice Ao7 t138.length co7] 34 (0, 0)) (by (with_reducible repeat (first | refine blk_drewN ?_ _ | refine blk_drew ?_ | refine blk_alloc ?_ _)); exact BK141.out) hb); have n4_ := Aside0.mk (blk_below (g := gb146) (o := .cells #[.int .i64 t142, .slice Ao12 t143.length co12] 34 (0, 0)) (by (with_reducible repeat (first | refine blk_drewN ?_ _ | refine blk_drew ?_ | refine blk_alloc ?_ _)); exact BK146.out) hb); have n5_ := Aside0.mk (below_step (by repeat (first | (with_reducible first | exact HB.out | apply below_alloc | apply pw_below_drewN | apply below_drew1 | refine below_set ?_ GE141.out | refine below_set ?_ GE146.out) | exact HB.out)) hb); clear HO_5; clear HO_142001; clear HO_147001; clear BK141; clear BK146; clear HB; have HO_5 := n0_; have HO_142001 := n1_; have HO_147001 := n2_; have BK141 := n3_; have BK146 := n4_; have HB := n5_; clear n0_ n1_ n2_ n3_ n4_ n5_; (try clear hb); (try clear hb2); (try clear hk); (try clear hi)) | ((with_reducible refine gate_builtin (b := .append) (xs := #[.tmp 40, .tmp 41]) rfl ?_); at_builtin; refine Kd.R_append (Kd.int .i64) (w0 := w) w.heap.size rfl (.tmp 40) (.tmp 41) 36 3 (.int .i64 0) 8 rfl Tryd.underlying36 info3 rfl (by decide) (by omega) u5 x5_1 4 [.int .i64 4] (fun _ => True) (fun _ => False) rfl rfl ?aP (fun _ hk => hk.elim) ?aF ?aO ?aB ?aS ?aL ?_; (case aP => exact rfl); (case aB => exact (by repeat (first | (with_reducible first | exact HB.out | apply below_alloc | apply pw_below_drewN | apply below_drew1 | refine below_set ?_ GE141.out | refine below_set ?_ GE146.out) | exact HB.out))); (case aF => exact (fun _ _ => trivial)); (case aO => exact (by (with_reducible repeat (first | apply Kd.R_alloc | apply Kd.R_drewN | apply Kd.R_drew)); exact HO_5.out)); (case aS => exact (below_size (by repeat (first | (with_reducible first | exact HB.out | apply below_alloc | apply pw_below_drewN | apply below_drew1 | refine below_set ?_ GE141.out | refine below_set ?_ GE146.out) | exact HB.out)))); (case aL => have := LMc33.out; omega); intro v154 w37 ho hb hg hat; rw [← Ny153.out] at ho; have n0_ := Aside0.mk (Kd.R_over' (by (with_reducible repeat (first | apply Kd.R_alloc | apply Kd.R_drewN | apply Kd.R_drew)); exact HO_142001.out) (Kd.R_typed (by (with_reducible repeat (first | apply Kd.R_alloc | apply Kd.R_drewN | apply Kd.R_drew)); exact HO_5.out)) (by decide) hg); have n1_ := Aside0.mk (Kd.R_over' (by (with_reducible repeat (first | apply Kd.R_alloc | apply Kd.R_drewN | apply Kd.R_drew)); exact HO_147001.out) (Kd.R_typed (by (with_reducible repeat (first | apply Kd.R_alloc | apply Kd.R_drewN | apply Kd.R_drew)); exact HO_5.out)) (by decide) hg); have n2_ := Aside0.mk (blk_grown (g := gb141) (o := .cells #[.int .i64 t137, .slice Ao7 t138.length co7] 34 (0, 0)) (by (with_reducible repeat (first | refine blk_drewN ?_ _ | refine blk_drew ?_ | refine blk_alloc ?_ _)); exact BK141.out) hg (Kd.R_ne HO_5.out BK141.out (by decide))); have n3_ := Aside0.mk (blk_grown (g := gb146) (o := .cells #[.int .i64 t142, .slice Ao12 t143.length co12] 34 (0, 0)) (by (with_reducible repeat (first | refine blk_drewN ?_ _ | refine blk_drew ?_ | refine blk_alloc ?_ _)); exact BK146.out) hg (Kd.R_ne HO_5.out BK146.out (by decide))); have n4_ := Aside0.mk (hb); have n5_ := Aside0.mk (ho); clear HO_142001; clear HO_147001; clear BK141; clear BK146; clear HB; clear HO_5; have HO_142001 := n0_; have HO_147001 := n1_; have BK141 := n2_; have BK146 := n3_; have HB := n4_; have HO155 := n5_; clear n0_ n1_ n2_ n3_ n4_ n5_; clear ho hb hg hat))
                    go_roundg kj15
                    case measure => have := HK1.out; have := HJ15.out; omega
                    case rel => exact ⟨(y153), (wrap64 (x6_1 + 1)), (by first | rfl | (simp; done) | (simp [*]; done)), H', ⟨by have := HK1.out; have := HJ15.out; omega⟩, ⟨by (with_reducible repeat (first | apply Kd.R_alloc | apply Kd.R_drewN | apply Kd.R_drew)); exact HO155.out⟩, ⟨by (with_reducible repeat (first | apply Kd.R_alloc | apply Kd.R_drewN | apply Kd.R_drew)); exact HO_142001.out⟩, ⟨by (with_reducible repeat (first | apply Kd.R_alloc | apply Kd.R_drewN | apply Kd.R_drew)); exact HO_147001.out⟩, ⟨by (with_reducible repeat (first | refine blk_drewN ?_ _ | refine blk_drew ?_ | refine blk_alloc ?_ _)); exact BK141.out⟩, ⟨by (with_reducible repeat (first | refine blk_drewN ?_ _ | refine blk_drew ?_ | refine blk_alloc ?_ _)); exact BK146.out⟩, ⟨by repeat (first | (with_reducible first | exact HB.out | apply below_alloc | apply pw_below_drewN | apply below_drew1 | refine below_set ?_ GE141.out | refine below_set ?_ GE146.out) | exact HB.out)⟩⟩
                  · rw [if_neg c33] at H
                    exact absurd H (by simp)
                · replace c32 := Bool.eq_false_iff.mpr c32
                  subst c32
                  have H1 : ((quarryref08_set.f t142 t143 x6_1).bind fun t156 => (if t156 = true then (if x5_1.length < 17592186044416 then (quarryref08_Bytes.l0 kj15 a0 (x5_1 ++ [5]) (wrap64 (x6_1 + 1)) t137 t138 t142 t143) else (none)) else (if (bt a0 x6_1) = 123 then (quarryref08_Bytes.j2 kj15 a0 x5_1 x6_1 (bt a0 x6_1) true t137 t138 t142 t143) else (if (bt a0 x6_1) = 125 then (quarryref08_Bytes.j2 kj15 a0 x5_1 x6_1 (bt a0 x6_1) true t137 t138 t142 t143) else (if (bt a0 x6_1) = 91 then (quarryref08_Bytes.j2 kj15 a0 x5_1 x6_1 (bt a0 x6_1) true t137 t138 t142 t143) else (if (bt a0 x6_1) = 93 then (quarryref08_Bytes.j2 kj15 a0 x5_1 x6_1 (bt a0 x6_1) true t137 t138 t142 t143) else (if (bt a0 x6_1) = 58 then (quarryref08_Bytes.j2 kj15 a0 x5_1 x6_1 (bt a0 x6_1) true t137 t138 t142 t143) else (quarryref08_Bytes.j2 kj15 a0 x5_1 x6_1 (bt a0 x6_1) ((bt a0 x6_1) == 44) t137 t138 t142 t143)))))))) = some r := by rw [if_neg (show ¬ (false = true) by decide)] at H; exact H
                  clear H
                  have H := H1
                  clear H1
                  replace H := Option.bind_eq_some_iff.mp H
                  obtain ⟨t156, A380, H⟩ := H
                  replace H : (if t156 = true then (if x5_1.length < 17592186044416 then (quarryref08_Bytes.l0 kj15 a0 (x5_1 ++ [5]) (wrap64 (x6_1 + 1)) t137 t138 t142 t143) else (none)) else (if (bt a0 x6_1) = 123 then (quarryref08_Bytes.j2 kj15 a0 x5_1 x6_1 (bt a0 x6_1) true t137 t138 t142 t143) else (if (bt a0 x6_1) = 125 then (quarryref08_Bytes.j2 kj15 a0 x5_1 x6_1 (bt a0 x6_1) true t137 t138 t142 t143) else (if (bt a0 x6_1) = 91 then (quarryref08_Bytes.j2 kj15 a0 x5_1 x6_1 (bt a0 x6_1) true t137 t138 t142 t143) else (if (bt a0 x6_1) = 93 then (quarryref08_Bytes.j2 kj15 a0 x5_1 x6_1 (bt a0 x6_1) true t137 t138 t142 t143) else (if (bt a0 x6_1) = 58 then (quarryref08_Bytes.j2 kj15 a0 x5_1 x6_1 (bt a0 x6_1) true t137 t138 t142 t143) else (quarryref08_Bytes.j2 kj15 a0 x5_1 x6_1 (bt a0 x6_1) ((bt a0 x6_1) == 44) t137 t138 t142 t143))))))) = some r := H
                  have A38 := Aside0.mk A380
                  clear A380
                  by_cases c39 : t156 = true
                  · subst c39
                    have H1 : (if x5_1.length < 17592186044416 then (quarryref08_Bytes.l0 kj15 a0 (x5_1 ++ [5]) (wrap64 (x6_1 + 1)) t137 t138 t142 t143) else (none)) = some r := by rw [if_pos rfl] at H; exact H
                    clear H
                    have H := H1
                    clear H1
                    by_cases c40 : x5_1.length < 17592186044416
                    · rw [if_pos c40] at H
                      have LMc40 := Aside0.mk c40
                      clear c40
                      obtain ⟨y157, hy157⟩ : ∃ y_ : List Int, y_ = (x5_1 ++ [5]) := ⟨_, rfl⟩
                      replace H : (quarryref08_Bytes.l0 kj15 a0 y157 (wrap64 (x6_1 + 1)) t137 t138 t142 t143) = some r := by first | (rw [hy157]; with_reducible exact H) | (have H2_ := (Option.bind_some _ _).symm.trans H; rw [hy157]; with_reducible exact H2_) | (have H2_ := (Option.bind_some _ _).symm.trans H; with_reducible exact H2_) | with_reducible exact H | (rw [hy157]; exact H) | exact H
                      have Ny157 := Aside0.mk hy157
                      clear hy157
                      have H' := Aside0.mk H
                      clear H
                      have hnb41 := NB141_146.out
                      have hnc41 := NB146_141.out
                      have hcz42_0 : wc.cell? ⟨gb141, 0, none⟩ = some (.int .i64 t137) := (blk_cell BK141.out 0).trans rfl
                      have hcz42_1 : wc.cell? ⟨gb141, 1, none⟩ = some (.slice Ao7 t138.length co7) := (blk_cell BK141.out 1).trans rfl
                      have hfz42_0 := blk_frozen BK141.out 0
                      have hfz42_1 := blk_frozen BK141.out 1
                      go_wp2_with (first | ((with_reducible refine gate_callee (f := 90) rfl ?_); refine goesL_ (some 39) rfl rfl Tryd.func90 (by kernel_rfl) rfl #[.agg #[.int .i64 t137, .slice Ao7 t138.length co7], .int .i64 x6_1] rfl (by (try simp only [List.map_toArray, List.map_cons, List.map_nil]); first | done | rfl | (simp only [List.length_drop, List.length_take]; rfl)) ?_; (with_reducible refine (quarryref08_set.calls t137 _ _ t138 x6_1 false _ ?side1 ?side2 A31.out).mono ?_); (case side1 => repeat (first | exact (Kd.R_reads' HO_142001.out).2.2 | (with_reducible refine Kd.C_alloc ?_ _) | (with_reducible refine Kd.C_drewN ?_ _) | (with_reducible refine Kd.C_drew ?_))); (case side2 => exact (Kd.R_reads' HO_142001.out).2.1); rintro e w43 ⟨rfl, hb⟩; refine ⟨_, rfl, ?_⟩; have n0_ := Aside0.mk (Kd.R_below (by (with_reducible repeat (first | apply Kd.R_alloc | apply Kd.R_drewN | apply Kd.R_drew)); exact HO_5.out) hb); have n1_ := Aside0.mk (Kd.R_below (by (with_reducible repeat (first | apply Kd.R_alloc | apply Kd.R_drewN | apply Kd.R_drew)); exact HO_142001.out) hb); have n2_ := Aside0.mk (Kd.R_below (by (with_reducible repeat (first | apply Kd.R_alloc | apply Kd.R_drewN | apply Kd.R_drew)); exact HO_147001.out) hb); have n3_ := Aside0.mk (blk_below (g := gb141) (o := .cells #[.int .i64 t137, .slice Ao7 t138.length co7] 34 (0, 0)) (by (with_reducible repeat (first | refine blk_drewN ?_ _ | refine blk_drew ?_ | refine blk_alloc ?_ _)); exact BK141.out) hb); have n4_ := Aside0.mk (blk_below (g := gb146) (o := .cells #[.int .i64 t142, .slice Ao12 t143.length co12] 34 (0, 0)) (by (with_reducible repeat (first | refine blk_drewN ?_ _ | refine blk_drew ?_ | refine blk_alloc ?_ _)); exact BK146.out) hb); have n5_ := Aside0.mk (below_step (by repeat (first | (with_reducible first | exact HB.out | apply below_alloc | apply pw_below_drewN | apply below_drew1 | refine below_set ?_ GE141.out | refine below_set ?_ GE146.out) | exact HB.out)) hb); clear HO_5; clear HO_142001; clear HO_147001; clear BK141; clear BK146; clear HB; have HO_5 := n0_; have HO_142001 := n1_; have HO_147001 := n2_; have BK141 := n3_; have BK146 := n4_; have HB := n5_; clear n0_ n1_ n2_ n3_ n4_ n5_; (try clear hb); (try clear hb2); (try clear hk); (try clear hi); have hcz44_0 : w43.cell? ⟨gb146, 0, none⟩ = some (.int .i64 t142) := (blk_cell BK146.out 0).trans rfl; have hcz44_1 : w43.cell? ⟨gb146, 1, none⟩ = some (.slice Ao12 t143.length co12) := (blk_cell BK146.out 1).trans rfl; have hfz44_0 := blk_frozen BK146.out 0; have hfz44_1 := blk_frozen BK146.out 1) | ((with_reducible refine gate_callee (f := 90) rfl ?_); refine goesL_ (some 46) rfl rfl Tryd.func90 (by kernel_rfl) rfl #[.agg #[.int .i64 t142, .slice Ao12 t143.length co12], .int .i64 x6_1] rfl (by (try simp only [List.map_toArray, List.map_cons, List.map_nil]); first | done | rfl | (simp only [List.length_drop, List.length_take]; rfl)) ?_; (with_reducible refine (quarryref08_set.calls t142 _ _ t143 x6_1 true _ ?side1 ?side2 A38.out).mono ?_); (case side1 => repeat (first | exact (Kd.R_reads' HO_147001.out).2.2 | (with_reducible refine Kd.C_alloc ?_ _) | (with_reducible refine Kd.C_drewN ?_ _) | (with_reducible refine Kd.C_drew ?_))); (case side2 => exact (Kd.R_reads' HO_147001.out).2.1); rintro e w45 ⟨rfl, hb⟩; refine ⟨_, rfl, ?_⟩; have n0_ := Aside0.mk (Kd.R_below (by (with_reducible repeat (first | apply Kd.R_alloc | apply Kd.R_drewN | apply Kd.R_drew)); exact HO_5.out) hb); have n1_ := Aside0.mk (Kd.R_below (by (with_reducible repeat (first | apply Kd.R_alloc | apply Kd.R_drewN | apply Kd.R_drew)); exact HO_142001.out) hb); have n2_ := Aside0.mk (Kd.R_below (by (with_reducible repeat (first | apply Kd.R_alloc | apply Kd.R_drewN | apply Kd.R_drew)); exact HO_147001.out) hb); have n3_ := Aside0.mk (blk_below (g := gb141) (o := .cells #[.int .i64 t137, .slice Ao7 t138.length co7] 34 (0, 0)) (by (with_reducible repeat (first | refine blk_drewN ?_ _ | refine blk_drew ?_ | refine blk_alloc ?_ _)); exact BK141.out) hb); have n4_ := Aside0.mk (blk_below (g := gb146) (o := .cells #[.int .i64 t142, .slice Ao12 t143.length co12] 34 (0, 0)) (by (with_reducible repeat (first | refine blk_drewN ?_ _ | refine blk_drew ?_ | refine blk_alloc ?_ _)); exact BK146.out) hb); have n5_ := Aside0.mk (below_step (by repeat (first | (with_reducible first | exact HB.out | apply below_alloc | apply pw_below_drewN | apply below_drew1 | refine below_set ?_ GE141.out | refine below_set ?_ GE146.out) | exact HB.out)) hb); clear HO_5; clear HO_142001; clear HO_147001; clear BK141; clear BK146; clear HB; have HO_5 := n0_; have HO_142001 := n1_; have HO_147001 := n2_; have BK141 := n3_; have BK146 := n4_; have HB := n5_; clear n0_ n1_ n2_ n3_ n4_ n5_; (try clear hb); (try clear hb2); (try clear hk); (try clear hi)) | ((with_reducible refine gate_builtin (b := .append) (xs := #[.tmp 47, .tmp 48]) rfl ?_); at_builtin; refine Kd.R_append (Kd.int .i64) (w0 := w) w.heap.size rfl (.tmp 47) (.tmp 48) 36 3 (.int .i64 0) 8 rfl Tryd.underlying36 info3 rfl (by decide) (by omega) u5 x5_1 5 [.int .i64 5] (fun _ => True) (fun _ => False) rfl rfl ?aP (fun _ hk => hk.elim) ?aF ?aO ?aB ?aS ?aL ?_; (case aP => exact rfl); (case aB => exact (by repeat (first | (with_reducible first | exact HB.out | apply below_alloc | apply pw_below_drewN | apply below_drew1 | refine below_set ?_ GE141.out | refine below_set ?_ GE146.out) | exact HB.out))); (case aF => exact (fun _ _ => trivial)); (case aO => exact (by (with_reducible repeat (first | apply Kd.R_alloc | apply Kd.R_drewN | apply Kd.R_drew)); exact HO_5.out)); (case aS => exact (below_size (by repeat (first | (with_reducible first | exact HB.out | apply below_alloc | apply pw_below_drewN | apply below_drew1 | refine below_set ?_ GE141.out | refine below_set ?_ GE146.out) | exact HB.out)))); (case aL => have := LMc40.out; omega); intro v158 w46 ho hb hg hat; rw [← Ny157.out] at ho; have n0_ := Aside0.mk (Kd.R_over' (by (with_reducible repeat (first | apply Kd.R_alloc | apply Kd.R_drewN | apply Kd.R_drew)); exact HO_142001.out) (Kd.R_typed (by (with_reducible repeat (first | apply Kd.R_alloc | apply Kd.R_drewN | apply Kd.R_drew)); exact HO_5.out)) (by decide) hg); have n1_ := Aside0.mk (Kd.R_over' (by (with_reducible repeat (first | apply Kd.R_alloc | apply Kd.R_drewN | apply Kd.R_drew)); exact HO_147001.out) (Kd.R_typed (by (with_reducible repeat (first | apply Kd.R_alloc | apply Kd.R_drewN | apply Kd.R_drew)); exact HO_5.out)) (by decide) hg); have n2_ := Aside0.mk (blk_grown (g := gb141) (o := .cells #[.int .i64 t137, .slice Ao7 t138.length co7] 34 (0, 0)) (by (with_reducible repeat (first | refine blk_drewN ?_ _ | refine blk_drew ?_ | refine blk_alloc ?_ _)); exact BK141.out) hg (Kd.R_ne HO_5.out BK141.out (by decide))); have n3_ := Aside0.mk (blk_grown (g := gb146) (o := .cells #[.int .i64 t142, .slice Ao12 t143.length co12] 34 (0, 0)) (by (with_reducible repeat (first | refine blk_drewN ?_ _ | refine blk_drew ?_ | refine blk_alloc ?_ _)); exact BK146.out) hg (Kd.R_ne HO_5.out BK146.out (by decide))); have n4_ := Aside0.mk (hb); have n5_ := Aside0.mk (ho); clear HO_142001; clear HO_147001; clear BK141; clear BK146; clear HB; clear HO_5; have HO_142001 := n0_; have HO_147001 := n1_; have BK141 := n2_; have BK146 := n3_; have HB := n4_; have HO159 := n5_; clear n0_ n1_ n2_ n3_ n4_ n5_; clear ho hb hg hat))
                      go_roundg kj15
                      case measure => have := HK1.out; have := HJ15.out; omega
                      case rel => exact ⟨(y157), (wrap64 (x6_1 + 1)), (by first | rfl | (simp; done) | (simp [*]; done)), H', ⟨by have := HK1.out; have := HJ15.out; omega⟩, ⟨by (with_reducible repeat (first | apply Kd.R_alloc | apply Kd.R_drewN | apply Kd.R_drew)); exact HO159.out⟩, ⟨by (with_reducible repeat (first | apply Kd.R_alloc | apply Kd.R_drewN | apply Kd.R_drew)); exact HO_142001.out⟩, ⟨by (with_reducible repeat (first | apply Kd.R_alloc | apply Kd.R_drewN | apply Kd.R_drew)); exact HO_147001.out⟩, ⟨by (with_reducible repeat (first | refine blk_drewN ?_ _ | refine blk_drew ?_ | refine blk_alloc ?_ _)); exact BK141.out⟩, ⟨by (with_reducible repeat (first | refine blk_drewN ?_ _ | refine blk_drew ?_ | refine blk_alloc ?_ _)); exact BK146.out⟩, ⟨by repeat (first | (with_reducible first | exact HB.out | apply below_alloc | apply pw_below_drewN | apply below_drew1 | refine below_set ?_ GE141.out | refine below_set ?_ GE146.out) | exact HB.out)⟩⟩
                    · rw [if_neg c40] at H
                      exact absurd H (by simp)
                  · replace c39 := Bool.eq_false_iff.mpr c39
                    subst c39
                    have H1 : (if (bt a0 x6_1) = 123 then (quarryref08_Bytes.j2 kj15 a0 x5_1 x6_1 (bt a0 x6_1) true t137 t138 t142 t143) else (if (bt a0 x6_1) = 125 then (quarryref08_Bytes.j2 kj15 a0 x5_1 x6_1 (bt a0 x6_1) true t137 t138 t142 t143) else (if (bt a0 x6_1) = 91 then (quarryref08_Bytes.j2 kj15 a0 x5_1 x6_1 (bt a0 x6_1) true t137 t138 t142 t143) else (if (bt a0 x6_1) = 93 then (quarryref08_Bytes.j2 kj15 a0 x5_1 x6_1 (bt a0 x6_1) true t137 t138 t142 t143) else (if (bt a0 x6_1) = 58 then (quarryref08_Bytes.j2 kj15 a0 x5_1 x6_1 (bt a0 x6_1) true t137 t138 t142 t143) else (quarryref08_Bytes.j2 kj15 a0 x5_1 x6_1 (bt a0 x6_1) ((bt a0 x6_1) == 44) t137 t138 t142 t143)))))) = some r := by rw [if_neg (show ¬ (false = true) by decide)] at H; exact H
                    clear H
                    have H := H1
                    clear H1
                    have HC47 := Aside0.mk H
                    clear H
                    have hnb48 := NB141_146.out
                    have hnc48 := NB146_141.out
                    have hcz49_0 : wc.cell? ⟨gb141, 0, none⟩ = some (.int .i64 t137) := (blk_cell BK141.out 0).trans rfl
                    have hcz49_1 : wc.cell? ⟨gb141, 1, none⟩ = some (.slice Ao7 t138.length co7) := (blk_cell BK141.out 1).trans rfl
                    have hfz49_0 := blk_frozen BK141.out 0
                    have hfz49_1 := blk_frozen BK141.out 1
                    go_upto_region 15 with (first | ((with_reducible refine gate_callee (f := 90) rfl ?_); refine goesL_ (some 39) rfl rfl Tryd.func90 (by kernel_rfl) rfl #[.agg #[.int .i64 t137, .slice Ao7 t138.length co7], .int .i64 x6_1] rfl (by (try simp only [List.map_toArray, List.map_cons, List.map_nil]); first | done | rfl | (simp only [List.length_drop, List.length_take]; rfl)) ?_; (with_reducible refine (quarryref08_set.calls t137 _ _ t138 x6_1 false _ ?side1 ?side2 A31.out).mono ?_); (case side1 => repeat (first | exact (Kd.R_reads' HO_142001.out).2.2 | (with_reducible refine Kd.C_alloc ?_ _) | (with_reducible refine Kd.C_drewN ?_ _) | (with_reducible refine Kd.C_drew ?_))); (case side2 => exact (Kd.R_reads' HO_142001.out).2.1); rintro e w50 ⟨rfl, hb⟩; refine ⟨_, rfl, ?_⟩; have n0_ := Aside0.mk (Kd.R_below (by (with_reducible repeat (first | apply Kd.R_alloc | apply Kd.R_drewN | apply Kd.R_drew)); exact HO_5.out) hb); have n1_ := Aside0.mk (Kd.R_below (by (with_reducible repeat (first | apply Kd.R_alloc | apply Kd.R_drewN | apply Kd.R_drew)); exact HO_142001.out) hb); have n2_ := Aside0.mk (Kd.R_below (by (with_reducible repeat (first | apply Kd.R_alloc | apply Kd.R_drewN | apply Kd.R_drew)); exact HO_147001.out) hb); have n3_ := Aside0.mk (blk_below (g := gb141) (o := .cells #[.int .i64 t137, .slice Ao7 t138.length co7] 34 (0, 0)) (by (with_reducible repeat (first | refine blk_drewN ?_ _ | refine blk_drew ?_ | refine blk_alloc ?_ _)); exact BK141.out) hb); have n4_ := Aside0.mk (blk_below (g := gb146) (o := .cells #[.int .i64 t142, .slice Ao12 t143.length co12] 34 (0, 0)) (by (with_reducible repeat (first | refine blk_drewN ?_ _ | refine blk_drew ?_ | refine blk_alloc ?_ _)); exact BK146.out) hb); have n5_ := Aside0.mk (below_step (by repeat (first | (with_reducible first | exact HB.out | apply below_alloc | apply pw_below_drewN | apply below_drew1 | refine below_set ?_ GE141.out | refine below_set ?_ GE146.out) | exact HB.out)) hb); clear HO_5; clear HO_142001; clear HO_147001; clear BK141; clear BK146; clear HB; have HO_5 := n0_; have HO_142001 := n1_; have HO_147001 := n2_; have BK141 := n3_; have BK146 := n4_; have HB := n5_; clear n0_ n1_ n2_ n3_ n4_ n5_; (try clear hb); (try clear hb2); (try clear hk); (try clear hi); have hcz51_0 : w50.cell? ⟨gb146, 0, none⟩ = some (.int .i64 t142) := (blk_cell BK146.out 0).trans rfl; have hcz51_1 : w50.cell? ⟨gb146, 1, none⟩ = some (.slice Ao12 t143.length co12) := (blk_cell BK146.out 1).trans rfl; have hfz51_0 := blk_frozen BK146.out 0; have hfz51_1 := blk_frozen BK146.out 1) | ((with_reducible refine gate_callee (f := 90) rfl ?_); refine goesL_ (some 46) rfl rfl Tryd.func90 (by kernel_rfl) rfl #[.agg #[.int .i64 t142, .slice Ao12 t143.length co12], .int .i64 x6_1] rfl (by (try simp only [List.map_toArray, List.map_cons, List.map_nil]); first | done | rfl | (simp only [List.length_drop, List.length_take]; rfl)) ?_; (with_reducible refine (quarryref08_set.calls t142 _ _ t143 x6_1 false _ ?side1 ?side2 A38.out).mono ?_); (case side1 => repeat (first | exact (Kd.R_reads' HO_147001.out).2.2 | (with_reducible refine Kd.C_alloc ?_ _) | (with_reducible refine Kd.C_drewN ?_ _) | (with_reducible refine Kd.C_drew ?_))); (case side2 => exact (Kd.R_reads' HO_147001.out).2.1); rintro e w52 ⟨rfl, hb⟩; refine ⟨_, rfl, ?_⟩; have n0_ := Aside0.mk (Kd.R_below (by (with_reducible repeat (first | apply Kd.R_alloc | apply Kd.R_drewN | apply Kd.R_drew)); exact HO_5.out) hb); have n1_ := Aside0.mk (Kd.R_below (by (with_reducible repeat (first | apply Kd.R_alloc | apply Kd.R_drewN | apply Kd.R_drew)); exact HO_142001.out) hb); have n2_ := Aside0.mk (Kd.R_below (by (with_reducible repeat (first | apply Kd.R_alloc | apply Kd.R_drewN | apply Kd.R_drew)); exact HO_147001.out) hb); have n3_ := Aside0.mk (blk_below (g := gb141) (o := .cells #[.int .i64 t137, .slice Ao7 t138.length co7] 34 (0, 0)) (by (with_reducible repeat (first | refine blk_drewN ?_ _ | refine blk_drew ?_ | refine blk_alloc ?_ _)); exact BK141.out) hb); have n4_ := Aside0.mk (blk_below (g := gb146) (o := .cells #[.int .i64 t142, .slice Ao12 t143.length co12] 34 (0, 0)) (by (with_reducible repeat (first | refine blk_drewN ?_ _ | refine blk_drew ?_ | refine blk_alloc ?_ _)); exact BK146.out) hb); have n5_ := Aside0.mk (below_step (by repeat (first | (with_reducible first | exact HB.out | apply below_alloc | apply pw_below_drewN | apply below_drew1 | refine below_set ?_ GE141.out | refine below_set ?_ GE146.out) | exact HB.out)) hb); clear HO_5; clear HO_142001; clear HO_147001; clear BK141; clear BK146; clear HB; have HO_5 := n0_; have HO_142001 := n1_; have HO_147001 := n2_; have BK141 := n3_; have BK146 := n4_; have HB := n5_; clear n0_ n1_ n2_ n3_ n4_ n5_; (try clear hb); (try clear hb2); (try clear hk); (try clear hi)))
                    (try simp only [Act.put, List.setIfInBounds_toArray, List.set_cons_zero, List.set_cons_succ])
                    go_cut [50] (fun v50 wc => ∃ (kq : Nat) (x50_46 : Bool), v50 = .bool x50_46 ∧ Aside0 (quarryref08_Bytes.j2 kq a0 x5_1 x6_1 (bt a0 x6_1) x50_46 t137 t138 t142 t143 = some r) ∧ Aside0 (kq ≤ kj15) ∧ Aside0 (Kd.R (Kd.int .i64) 3 wc w.heap.size (fun _ => True) u5 x5_1) ∧ Aside0 (Kd.R (Kd.int .u64) 75 wc w.heap.size (fun k_ => some k_ ≠ ((.slice Ao12 t143.length co12) : Value).ownBlock) (.slice Ao7 t138.length co7) t138) ∧ Aside0 (Kd.R (Kd.int .u64) 75 wc w.heap.size (fun k_ => some k_ ≠ ((.slice Ao7 t138.length co7) : Value).ownBlock) (.slice Ao12 t143.length co12) t143) ∧ Aside0 (wc.heap[gb141]? = some (.cells #[.int .i64 t137, (.slice Ao7 t138.length co7)] 34 (0, 0))) ∧ Aside0 (wc.heap[gb146]? = some (.cells #[.int .i64 t142, (.slice Ao12 t143.length co12)] 34 (0, 0))) ∧ Aside0 (Below w.heap.size w wc))
                    case first =>
                      have H := HC47.out
                      clear HC47
                      by_cases c53 : (bt a0 x6_1) = 123
                      · rw [if_pos c53] at H
                        have c53b0 : ((bt a0 x6_1) == 123) = true := beq_iff_eq.mpr c53
                        have c53b1 : ((bt a0 x6_1) != 123) = false := bne_eq_false_iff_eq.mpr c53
                        clear c53
                        (first | rw [c53b0] | (simp only [i64_w, i32_w]; rw [c53b0]) | skip)
                        have H' := Aside0.mk H
                        clear H
                        go_wp2
                        go_meet
                        case rel => exact ⟨_, (true), (by first | rfl | (simp; done) | (simp [*]; done)), H', ⟨by have := HK1.out; have := HJ15.out; first | omega | exact Nat.le_refl _⟩, ⟨by (with_reducible repeat (first | apply Kd.R_alloc | apply Kd.R_drewN | apply Kd.R_drew)); exact HO_5.out⟩, ⟨by (with_reducible repeat (first | apply Kd.R_alloc | apply Kd.R_drewN | apply Kd.R_drew)); exact HO_142001.out⟩, ⟨by (with_reducible repeat (first | apply Kd.R_alloc | apply Kd.R_drewN | apply Kd.R_drew)); exact HO_147001.out⟩, ⟨by (with_reducible repeat (first | refine blk_drewN ?_ _ | refine blk_drew ?_ | refine blk_alloc ?_ _)); exact BK141.out⟩, ⟨by (with_reducible repeat (first | refine blk_drewN ?_ _ | refine blk_drew ?_ | refine blk_alloc ?_ _)); exact BK146.out⟩, ⟨by repeat (first | (with_reducible first | exact HB.out | apply below_alloc | apply pw_below_drewN | apply below_drew1 | refine below_set ?_ GE141.out | refine below_set ?_ GE146.out) | exact HB.out)⟩⟩
                      · rw [if_neg c53] at H
                        have c53b0 : ((bt a0 x6_1) == 123) = false := beq_eq_false_iff_ne.mpr c53
                        have c53b1 : ((bt a0 x6_1) != 123) = true := bne_iff_ne.mpr c53
                        (first | rw [c53b0] | (simp only [i64_w, i32_w]; rw [c53b0]) | skip)
                        by_cases c54 : (bt a0 x6_1) = 125
                        · rw [if_pos c54] at H
                          have c54b0 : ((bt a0 x6_1) == 125) = true := beq_iff_eq.mpr c54
                          have c54b1 : ((bt a0 x6_1) != 125) = false := bne_eq_false_iff_eq.mpr c54
                          clear c54
                          have H' := Aside0.mk H
                          clear H
                          go_wp2
                          go_meet
                          case rel => exact ⟨_, (true), (by first | rfl | (simp; done) | (simp [*]; done)), H', ⟨by have := HK1.out; have := HJ15.out; first | omega | exact Nat.le_refl _⟩, ⟨by (with_reducible repeat (first | apply Kd.R_alloc | apply Kd.R_drewN | apply Kd.R_drew)); exact HO_5.out⟩, ⟨by (with_reducible repeat (first | apply Kd.R_alloc | apply Kd.R_drewN | apply Kd.R_drew)); exact HO_142001.out⟩, ⟨by (with_reducible repeat (first | apply Kd.R_alloc | apply Kd.R_drewN | apply Kd.R_drew)); exact HO_147001.out⟩, ⟨by (with_reducible repeat (first | refine blk_drewN ?_ _ | refine blk_drew ?_ | refine blk_alloc ?_ _)); exact BK141.out⟩, ⟨by (with_reducible repeat (first | refine blk_drewN ?_ _ | refine blk_drew ?_ | refine blk_alloc ?_ _)); exact BK146.out⟩, ⟨by repeat (first | (with_reducible first | exact HB.out | apply below_alloc | apply pw_below_drewN | apply below_drew1 | refine below_set ?_ GE141.out | refine below_set ?_ GE146.out) | exact HB.out)⟩⟩
                        · rw [if_neg c54] at H
                          have c54b0 : ((bt a0 x6_1) == 125) = false := beq_eq_false_iff_ne.mpr c54
                          have c54b1 : ((bt a0 x6_1) != 125) = true := bne_iff_ne.mpr c54
                          by_cases c55 : (bt a0 x6_1) = 91
                          · rw [if_pos c55] at H
                            have c55b0 : ((bt a0 x6_1) == 91) = true := beq_iff_eq.mpr c55
                            have c55b1 : ((bt a0 x6_1) != 91) = false := bne_eq_false_iff_eq.mpr c55
                            clear c55
                            have H' := Aside0.mk H
                            clear H
                            go_wp2
                            go_meet
                            case rel => exact ⟨_, (true), (by first | rfl | (simp; done) | (simp [*]; done)), H', ⟨by have := HK1.out; have := HJ15.out; first | omega | exact Nat.le_refl _⟩, ⟨by (with_reducible repeat (first | apply Kd.R_alloc | apply Kd.R_drewN | apply Kd.R_drew)); exact HO_5.out⟩, ⟨by (with_reducible repeat (first | apply Kd.R_alloc | apply Kd.R_drewN | apply Kd.R_drew)); exact HO_142001.out⟩, ⟨by (with_reducible repeat (first | apply Kd.R_alloc | apply Kd.R_drewN | apply Kd.R_drew)); exact HO_147001.out⟩, ⟨by (with_reducible repeat (first | refine blk_drewN ?_ _ | refine blk_drew ?_ | refine blk_alloc ?_ _)); exact BK141.out⟩, ⟨by (with_reducible repeat (first | refine blk_drewN ?_ _ | refine blk_drew ?_ | refine blk_alloc ?_ _)); exact BK146.out⟩, ⟨by repeat (first | (with_reducible first | exact HB.out | apply below_alloc | apply pw_below_drewN | apply below_drew1 | refine below_set ?_ GE141.out | refine below_set ?_ GE146.out) | exact HB.out)⟩⟩
                          · rw [if_neg c55] at H
                            have c55b0 : ((bt a0 x6_1) == 91) = false := beq_eq_false_iff_ne.mpr c55
                            have c55b1 : ((bt a0 x6_1) != 91) = true := bne_iff_ne.mpr c55
                            by_cases c56 : (bt a0 x6_1) = 93
                            · rw [if_pos c56] at H
                              have c56b0 : ((bt a0 x6_1) == 93) = true := beq_iff_eq.mpr c56
                              have c56b1 : ((bt a0 x6_1) != 93) = false := bne_eq_false_iff_eq.mpr c56
                              clear c56
                              have H' := Aside0.mk H
                              clear H
                              go_wp2
                              go_meet
                              case rel => exact ⟨_, (true), (by first | rfl | (simp; done) | (simp [*]; done)), H', ⟨by have := HK1.out; have := HJ15.out; first | omega | exact Nat.le_refl _⟩, ⟨by (with_reducible repeat (first | apply Kd.R_alloc | apply Kd.R_drewN | apply Kd.R_drew)); exact HO_5.out⟩, ⟨by (with_reducible repeat (first | apply Kd.R_alloc | apply Kd.R_drewN | apply Kd.R_drew)); exact HO_142001.out⟩, ⟨by (with_reducible repeat (first | apply Kd.R_alloc | apply Kd.R_drewN | apply Kd.R_drew)); exact HO_147001.out⟩, ⟨by (with_reducible repeat (first | refine blk_drewN ?_ _ | refine blk_drew ?_ | refine blk_alloc ?_ _)); exact BK141.out⟩, ⟨by (with_reducible repeat (first | refine blk_drewN ?_ _ | refine blk_drew ?_ | refine blk_alloc ?_ _)); exact BK146.out⟩, ⟨by repeat (first | (with_reducible first | exact HB.out | apply below_alloc | apply pw_below_drewN | apply below_drew1 | refine below_set ?_ GE141.out | refine below_set ?_ GE146.out) | exact HB.out)⟩⟩
                            · rw [if_neg c56] at H
                              have c56b0 : ((bt a0 x6_1) == 93) = false := beq_eq_false_iff_ne.mpr c56
                              have c56b1 : ((bt a0 x6_1) != 93) = true := bne_iff_ne.mpr c56
                              by_cases c57 : (bt a0 x6_1) = 58
                              · rw [if_pos c57] at H
                                have c57b0 : ((bt a0 x6_1) == 58) = true := beq_iff_eq.mpr c57
                                have c57b1 : ((bt a0 x6_1) != 58) = false := bne_eq_false_iff_eq.mpr c57
                                clear c57
                                have H' := Aside0.mk H
                                clear H
                                go_wp2
                                go_meet
                                case rel => exact ⟨_, (true), (by first | rfl | (simp; done) | (simp [*]; done)), H', ⟨by have := HK1.out; have := HJ15.out; first | omega | exact Nat.le_refl _⟩, ⟨by (with_reducible repeat (first | apply Kd.R_alloc | apply Kd.R_drewN | apply Kd.R_drew)); exact HO_5.out⟩, ⟨by (with_reducible repeat (first | apply Kd.R_alloc | apply Kd.R_drewN | apply Kd.R_drew)); exact HO_142001.out⟩, ⟨by (with_reducible repeat (first | apply Kd.R_alloc | apply Kd.R_drewN | apply Kd.R_drew)); exact HO_147001.out⟩, ⟨by (with_reducible repeat (first | refine blk_drewN ?_ _ | refine blk_drew ?_ | refine blk_alloc ?_ _)); exact BK141.out⟩, ⟨by (with_reducible repeat (first | refine blk_drewN ?_ _ | refine blk_drew ?_ | refine blk_alloc ?_ _)); exact BK146.out⟩, ⟨by repeat (first | (with_reducible first | exact HB.out | apply below_alloc | apply pw_below_drewN | apply below_drew1 | refine below_set ?_ GE141.out | refine below_set ?_ GE146.out) | exact HB.out)⟩⟩
                              · rw [if_neg c57] at H
                                have c57b0 : ((bt a0 x6_1) == 58) = false := beq_eq_false_iff_ne.mpr c57
                                have c57b1 : ((bt a0 x6_1) != 58) = true := bne_iff_ne.mpr c57
                                have H' := Aside0.mk H
                                clear H
                                go_wp2
                                go_meet
                                case rel => exact ⟨_, (((bt a0 x6_1) == 44)), (by first | rfl | (simp; done) | (simp [*]; done)), H', ⟨by have := HK1.out; have := HJ15.out; first | omega | exact Nat.le_refl _⟩, ⟨by (with_reducible repeat (first | apply Kd.R_alloc | apply Kd.R_drewN | apply Kd.R_drew)); exact HO_5.out⟩, ⟨by (with_reducible repeat (first | apply Kd.R_alloc | apply Kd.R_drewN | apply Kd.R_drew)); exact HO_142001.out⟩, ⟨by (with_reducible repeat (first | apply Kd.R_alloc | apply Kd.R_drewN | apply Kd.R_drew)); exact HO_147001.out⟩, ⟨by (with_reducible repeat (first | refine blk_drewN ?_ _ | refine blk_drew ?_ | refine blk_alloc ?_ _)); exact BK141.out⟩, ⟨by (with_reducible repeat (first | refine blk_drewN ?_ _ | refine blk_drew ?_ | refine blk_alloc ?_ _)); exact BK146.out⟩, ⟨by repeat (first | (with_reducible first | exact HB.out | apply below_alloc | apply pw_below_drewN | apply below_drew1 | refine below_set ?_ GE141.out | refine below_set ?_ GE146.out) | exact HB.out)⟩⟩
                    case rest =>
                      clear HC47
                      try clear c1
                      try clear p1
                      try clear q1
                      try clear hx1
                      try clear c2
                      try clear p2
                      try clear c3
                      try clear c4
                      try clear c5
                      try clear p6
                      try clear c8
                      try clear c9
                      try clear c10
                      try clear c13
                      try clear c13b0
                      try clear c14
                      try clear c14b0
                      try clear p15
                      try clear q15
                      try clear hx15
                      try clear c18
                      try clear c20
                      try clear c25
                      try clear c28
                      try clear c29
                      try clear c32
                      try clear c33
                      try clear c34
                      try clear c39
                      try clear c40
                      try clear c41
                      try clear c48
                      try clear c52
                      try clear c53
                      try clear c53b0
                      try clear c53b1
                      try clear c54
                      try clear c54b0
                      try clear c54b1
                      try clear c55
                      try clear c55b0
                      try clear c55b1
                      try clear c56
                      try clear c56b0
                      try clear c56b1
                      try clear c57
                      try clear c57b0
                      try clear c57b1
                      try clear hcz11_0
                      try clear hcz11_1
                      try clear hcz21_0
                      try clear hcz21_1
                      try clear hcz23_0
                      try clear hcz23_1
                      try clear hcz26_0
                      try clear hcz26_1
                      try clear hcz35_0
                      try clear hcz35_1
                      try clear hcz42_0
                      try clear hcz42_1
                      try clear hcz44_0
                      try clear hcz44_1
                      try clear hcz49_0
                      try clear hcz49_1
                      try clear hcz51_0
                      try clear hcz51_1
                      try clear hcz6_0
                      try clear hcz6_1
                      try clear hfz11_0
                      try clear hfz11_1
                      try clear hfz21_0
                      try clear hfz21_1
                      try clear hfz23_0
                      try clear hfz23_1
                      try clear hfz26_0
                      try clear hfz26_1
                      try clear hfz35_0
                      try clear hfz35_1
                      try clear hfz42_0
                      try clear hfz42_1
                      try clear hfz44_0
                      try clear hfz44_1
                      try clear hfz49_0
                      try clear hfz49_1
                      try clear hfz51_0
                      try clear hfz51_1
                      try clear hfz6_0
                      try clear hfz6_1
                      try clear p1
                      try clear p15
                      try clear p2
                      try clear q1
                      try clear q15
                      obtain ⟨kq, x50_46, rfl, HA, HJ46, HO_5, HO_142001, HO_147001, BK141, BK146, HB⟩ := hcut
                      cases kq with
                      | zero => exact absurd HA.out (by simp [quarryref08_Bytes.j2])
                      | succ kj46 =>
                        have H := HA.out
                        clear HA
                        simp only [quarryref08_Bytes.j2] at H
                        by_cases c58 : x50_46 = true
                        · subst c58
                          have H1 : (if x5_1.length < 17592186044416 then (quarryref08_Bytes.l0 kj46 a0 (x5_1 ++ [1]) (wrap64 (x6_1 + 1)) t137 t138 t142 t143) else (none)) = some r := by rw [if_pos rfl] at H; exact H
                          clear H
                          have H := H1
                          clear H1
                          by_cases c59 : x5_1.length < 17592186044416
                          · rw [if_pos c59] at H
                            have LMc59 := Aside0.mk c59
                            clear c59
                            obtain ⟨y160, hy160⟩ : ∃ y_ : List Int, y_ = (x5_1 ++ [1]) := ⟨_, rfl⟩
                            replace H : (quarryref08_Bytes.l0 kj46 a0 y160 (wrap64 (x6_1 + 1)) t137 t138 t142 t143) = some r := by first | (rw [hy160]; with_reducible exact H) | (have H2_ := (Option.bind_some _ _).symm.trans H; rw [hy160]; with_reducible exact H2_) | (have H2_ := (Option.bind_some _ _).symm.trans H; with_reducible exact H2_) | with_reducible exact H | (rw [hy160]; exact H) | exact H
                            have Ny160 := Aside0.mk hy160
                            clear hy160
                            have H' := Aside0.mk H
                            clear H
                            go_wp2_with (first | ((with_reducible refine gate_builtin (b := .append) (xs := #[.tmp 73, .tmp 74]) rfl ?_); at_builtin; refine Kd.R_append (Kd.int .i64) (w0 := w) w.heap.size rfl (.tmp 73) (.tmp 74) 36 3 (.int .i64 0) 8 rfl Tryd.underlying36 info3 rfl (by decide) (by omega) u5 x5_1 1 [.int .i64 1] (fun _ => True) (fun _ => False) rfl rfl ?aP (fun _ hk => hk.elim) ?aF ?aO ?aB ?aS ?aL ?_; (case aP => exact rfl); (case aB => exact (by repeat (first | (with_reducible first | exact HB.out | apply below_alloc | apply pw_below_drewN | apply below_drew1 | refine below_set ?_ GE141.out | refine below_set ?_ GE146.out) | exact HB.out))); (case aF => exact (fun _ _ => trivial)); (case aO => exact (by (with_reducible repeat (first | apply Kd.R_alloc | apply Kd.R_drewN | apply Kd.R_drew)); exact HO_5.out)); (case aS => exact (below_size (by repeat (first | (with_reducible first | exact HB.out | apply below_alloc | apply pw_below_drewN | apply below_drew1 | refine below_set ?_ GE141.out | refine below_set ?_ GE146.out) | exact HB.out)))); (case aL => have := LMc59.out; omega); intro v161 w60 ho hb hg hat; rw [← Ny160.out] at ho; have n0_ := Aside0.mk (Kd.R_over' (by (with_reducible repeat (first | apply Kd.R_alloc | apply Kd.R_drewN | apply Kd.R_drew)); exact HO_142001.out) (Kd.R_typed (by (with_reducible repeat (first | apply Kd.R_alloc | apply Kd.R_drewN | apply Kd.R_drew)); exact HO_5.out)) (by decide) hg); have n1_ := Aside0.mk (Kd.R_over' (by (with_reducible repeat (first | apply Kd.R_alloc | apply Kd.R_drewN | apply Kd.R_drew)); exact HO_147001.out) (Kd.R_typed (by (with_reducible repeat (first | apply Kd.R_alloc | apply Kd.R_drewN | apply Kd.R_drew)); exact HO_5.out)) (by decide) hg); have n2_ := Aside0.mk (blk_grown (g := gb141) (o := .cells #[.int .i64 t137, .slice Ao7 t138.length co7] 34 (0, 0)) (by (with_reducible repeat (first | refine blk_drewN ?_ _ | refine blk_drew ?_ | refine blk_alloc ?_ _)); exact BK141.out) hg (Kd.R_ne HO_5.out BK141.out (by decide))); have n3_ := Aside0.mk (blk_grown (g := gb146) (o := .cells #[.int .i64 t142, .slice Ao12 t143.length co12] 34 (0, 0)) (by (with_reducible repeat (first | refine blk_drewN ?_ _ | refine blk_drew ?_ | refine blk_alloc ?_ _)); exact BK146.out) hg (Kd.R_ne HO_5.out BK146.out (by decide))); have n4_ := Aside0.mk (hb); have n5_ := Aside0.mk (ho); clear HO_142001; clear HO_147001; clear BK141; clear BK146; clear HB; clear HO_5; have HO_142001 := n0_; have HO_147001 := n1_; have BK141 := n2_; have BK146 := n3_; have HB := n4_; have HO162 := n5_; clear n0_ n1_ n2_ n3_ n4_ n5_; clear ho hb hg hat))
                            go_roundg kj46
                            case measure => have := HK1.out; have := HJ15.out; have := HJ46.out; omega
                            case rel => exact ⟨(y160), (wrap64 (x6_1 + 1)), (by first | rfl | (simp; done) | (simp [*]; done)), H', ⟨by have := HK1.out; have := HJ15.out; have := HJ46.out; omega⟩, ⟨by (with_reducible repeat (first | apply Kd.R_alloc | apply Kd.R_drewN | apply Kd.R_drew)); exact HO162.out⟩, ⟨by (with_reducible repeat (first | apply Kd.R_alloc | apply Kd.R_drewN | apply Kd.R_drew)); exact HO_142001.out⟩, ⟨by (with_reducible repeat (first | apply Kd.R_alloc | apply Kd.R_drewN | apply Kd.R_drew)); exact HO_147001.out⟩, ⟨by (with_reducible repeat (first | refine blk_drewN ?_ _ | refine blk_drew ?_ | refine blk_alloc ?_ _)); exact BK141.out⟩, ⟨by (with_reducible repeat (first | refine blk_drewN ?_ _ | refine blk_drew ?_ | refine blk_alloc ?_ _)); exact BK146.out⟩, ⟨by repeat (first | (with_reducible first | exact HB.out | apply below_alloc | apply pw_below_drewN | apply below_drew1 | refine below_set ?_ GE141.out | refine below_set ?_ GE146.out) | exact HB.out)⟩⟩
                          · rw [if_neg c59] at H
                            exact absurd H (by simp)
                        · replace c58 := Bool.eq_false_iff.mpr c58
                          subst c58
                          have H1 : (if (bt a0 x6_1) = 32 then (if x5_1.length < 17592186044416 then (quarryref08_Bytes.l0 kj46 a0 (x5_1 ++ [2]) (wrap64 (x6_1 + 1)) t137 t138 t142 t143) else (none)) else (if (bt a0 x6_1) = 9 then (if x5_1.length < 17592186044416 then (quarryref08_Bytes.l0 kj46 a0 (x5_1 ++ [2]) (wrap64 (x6_1 + 1)) t137 t138 t142 t143) else (none)) else (if (bt a0 x6_1) = 10 then (if x5_1.length < 17592186044416 then (quarryref08_Bytes.l0 kj46 a0 (x5_1 ++ [2]) (wrap64 (x6_1 + 1)) t137 t138 t142 t143) else (none)) else (if (bt a0 x6_1) = 13 then (if x5_1.length < 17592186044416 then (quarryref08_Bytes.l0 kj46 a0 (x5_1 ++ [2]) (wrap64 (x6_1 + 1)) t137 t138 t142 t143) else (none)) else (if x5_1.length < 17592186044416 then (quarryref08_Bytes.l0 kj46 a0 (x5_1 ++ [6]) (wrap64 (x6_1 + 1)) t137 t138 t142 t143) else (none)))))) = some r := by rw [if_neg (show ¬ (false = true) by decide)] at H; exact H
                          clear H
                          have H := H1
                          clear H1
                          by_cases c61 : (bt a0 x6_1) = 32
                          · rw [if_pos c61] at H
                            have c61b0 : ((bt a0 x6_1) == 32) = true := beq_iff_eq.mpr c61
                            have c61b1 : ((bt a0 x6_1) != 32) = false := bne_eq_false_iff_eq.mpr c61
                            clear c61
                            by_cases c62 : x5_1.length < 17592186044416
                            · rw [if_pos c62] at H
                              have LMc62 := Aside0.mk c62
                              clear c62
                              obtain ⟨y163, hy163⟩ : ∃ y_ : List Int, y_ = (x5_1 ++ [2]) := ⟨_, rfl⟩
                              replace H : (quarryref08_Bytes.l0 kj46 a0 y163 (wrap64 (x6_1 + 1)) t137 t138 t142 t143) = some r := by first | (rw [hy163]; with_reducible exact H) | (have H2_ := (Option.bind_some _ _).symm.trans H; rw [hy163]; with_reducible exact H2_) | (have H2_ := (Option.bind_some _ _).symm.trans H; with_reducible exact H2_) | with_reducible exact H | (rw [hy163]; exact H) | exact H
                              have Ny163 := Aside0.mk hy163
                              clear hy163
                              have H' := Aside0.mk H
                              clear H
                              go_wp2_with (first | ((with_reducible refine gate_builtin (b := .append) (xs := #[.tmp 91, .tmp 92]) rfl ?_); at_builtin; refine Kd.R_append (Kd.int .i64) (w0 := w) w.heap.size rfl (.tmp 91) (.tmp 92) 36 3 (.int .i64 0) 8 rfl Tryd.underlying36 info3 rfl (by decide) (by omega) u5 x5_1 2 [.int .i64 2] (fun _ => True) (fun _ => False) rfl rfl ?aP (fun _ hk => hk.elim) ?aF ?aO ?aB ?aS ?aL ?_; (case aP => exact rfl); (case aB => exact (by repeat (first | (with_reducible first | exact HB.out | apply below_alloc | apply pw_below_drewN | apply below_drew1 | refine below_set ?_ GE141.out | refine below_set ?_ GE146.out) | exact HB.out))); (case aF => exact (fun _ _ => trivial)); (case aO => exact (by (with_reducible repeat (first | apply Kd.R_alloc | apply Kd.R_drewN | apply Kd.R_drew)); exact HO_5.out)); (case aS => exact (below_size (by repeat (first | (with_reducible first | exact HB.out | apply below_alloc | apply pw_below_drewN | apply below_drew1 | refine below_set ?_ GE141.out | refine below_set ?_ GE146.out) | exact HB.out)))); (case aL => have := LMc62.out; omega); intro v164 w63 ho hb hg hat; rw [← Ny163.out] at ho; have n0_ := Aside0.mk (Kd.R_over' (by (with_reducible repeat (first | apply Kd.R_alloc | apply Kd.R_drewN | apply Kd.R_drew)); exact HO_142001.out) (Kd.R_typed (by (with_reducible repeat (first | apply Kd.R_alloc | apply Kd.R_drewN | apply Kd.R_drew)); exact HO_5.out)) (by decide) hg); have n1_ := Aside0.mk (Kd.R_over' (by (with_reducible repeat (first | apply Kd.R_alloc | apply Kd.R_drewN | apply Kd.R_drew)); exact HO_147001.out) (Kd.R_typed (by (with_reducible repeat (first | apply Kd.R_alloc | apply Kd.R_drewN | apply Kd.R_drew)); exact HO_5.out)) (by decide) hg); have n2_ := Aside0.mk (blk_grown (g := gb141) (o := .cells #[.int .i64 t137, .slice Ao7 t138.length co7] 34 (0, 0)) (by (with_reducible repeat (first | refine blk_drewN ?_ _ | refine blk_drew ?_ | refine blk_alloc ?_ _)); exact BK141.out) hg (Kd.R_ne HO_5.out BK141.out (by decide))); have n3_ := Aside0.mk (blk_grown (g := gb146) (o := .cells #[.int .i64 t142, .slice Ao12 t143.length co12] 34 (0, 0)) (by (with_reducible repeat (first | refine blk_drewN ?_ _ | refine blk_drew ?_ | refine blk_alloc ?_ _)); exact BK146.out) hg (Kd.R_ne HO_5.out BK146.out (by decide))); have n4_ := Aside0.mk (hb); have n5_ := Aside0.mk (ho); clear HO_142001; clear HO_147001; clear BK141; clear BK146; clear HB; clear HO_5; have HO_142001 := n0_; have HO_147001 := n1_; have BK141 := n2_; have BK146 := n3_; have HB := n4_; have HO165 := n5_; clear n0_ n1_ n2_ n3_ n4_ n5_; clear ho hb hg hat))
                              go_roundg kj46
                              case measure => have := HK1.out; have := HJ15.out; have := HJ46.out; omega
                              case rel => exact ⟨(y163), (wrap64 (x6_1 + 1)), (by first | rfl | (simp; done) | (simp [*]; done)), H', ⟨by have := HK1.out; have := HJ15.out; have := HJ46.out; omega⟩, ⟨by (with_reducible repeat (first | apply Kd.R_alloc | apply Kd.R_drewN | apply Kd.R_drew)); exact HO165.out⟩, ⟨by (with_reducible repeat (first | apply Kd.R_alloc | apply Kd.R_drewN | apply Kd.R_drew)); exact HO_142001.out⟩, ⟨by (with_reducible repeat (first | apply Kd.R_alloc | apply Kd.R_drewN | apply Kd.R_drew)); exact HO_147001.out⟩, ⟨by (with_reducible repeat (first | refine blk_drewN ?_ _ | refine blk_drew ?_ | refine blk_alloc ?_ _)); exact BK141.out⟩, ⟨by (with_reducible repeat (first | refine blk_drewN ?_ _ | refine blk_drew ?_ | refine blk_alloc ?_ _)); exact BK146.out⟩, ⟨by repeat (first | (with_reducible first | exact HB.out | apply below_alloc | apply pw_below_drewN | apply below_drew1 | refine below_set ?_ GE141.out | refine below_set ?_ GE146.out) | exact HB.out)⟩⟩
                            · rw [if_neg c62] at H
                              exact absurd H (by simp)
                          · rw [if_neg c61] at H
                            have c61b0 : ((bt a0 x6_1) == 32) = false := beq_eq_false_iff_ne.mpr c61
                            have c61b1 : ((bt a0 x6_1) != 32) = true := bne_iff_ne.mpr c61
                            by_cases c64 : (bt a0 x6_1) = 9
                            · rw [if_pos c64] at H
                              have c64b0 : ((bt a0 x6_1) == 9) = true := beq_iff_eq.mpr c64
                              have c64b1 : ((bt a0 x6_1) != 9) = false := bne_eq_false_iff_eq.mpr c64
                              clear c64
                              by_cases c65 : x5_1.length < 17592186044416
                              · rw [if_pos c65] at H
                                have LMc65 := Aside0.mk c65
                                clear c65
                                obtain ⟨y166, hy166⟩ : ∃ y_ : List Int, y_ = (x5_1 ++ [2]) := ⟨_, rfl⟩
                                replace H : (quarryref08_Bytes.l0 kj46 a0 y166 (wrap64 (x6_1 + 1)) t137 t138 t142 t143) = some r := by first | (rw [hy166]; with_reducible exact H) | (have H2_ := (Option.bind_some _ _).symm.trans H; rw [hy166]; with_reducible exact H2_) | (have H2_ := (Option.bind_some _ _).symm.trans H; with_reducible exact H2_) | with_reducible exact H | (rw [hy166]; exact H) | exact H
                                have Ny166 := Aside0.mk hy166
                                clear hy166
                                have H' := Aside0.mk H
                                clear H
                                go_wp2_with (first | ((with_reducible refine gate_builtin (b := .append) (xs := #[.tmp 91, .tmp 92]) rfl ?_); at_builtin; refine Kd.R_append (Kd.int .i64) (w0 := w) w.heap.size rfl (.tmp 91) (.tmp 92) 36 3 (.int .i64 0) 8 rfl Tryd.underlying36 info3 rfl (by decide) (by omega) u5 x5_1 2 [.int .i64 2] (fun _ => True) (fun _ => False) rfl rfl ?aP (fun _ hk => hk.elim) ?aF ?aO ?aB ?aS ?aL ?_; (case aP => exact rfl); (case aB => exact (by repeat (first | (with_reducible first | exact HB.out | apply below_alloc | apply pw_below_drewN | apply below_drew1 | refine below_set ?_ GE141.out | refine below_set ?_ GE146.out) | exact HB.out))); (case aF => exact (fun _ _ => trivial)); (case aO => exact (by (with_reducible repeat (first | apply Kd.R_alloc | apply Kd.R_drewN | apply Kd.R_drew)); exact HO_5.out)); (case aS => exact (below_size (by repeat (first | (with_reducible first | exact HB.out | apply below_alloc | apply pw_below_drewN | apply below_drew1 | refine below_set ?_ GE141.out | refine below_set ?_ GE146.out) | exact HB.out)))); (case aL => have := LMc65.out; omega); intro v167 w66 ho hb hg hat; rw [← Ny166.out] at ho; have n0_ := Aside0.mk (Kd.R_over' (by (with_reducible repeat (first | apply Kd.R_alloc | apply Kd.R_drewN | apply Kd.R_drew)); exact HO_142001.out) (Kd.R_typed (by (with_reducible repeat (first | apply Kd.R_alloc | apply Kd.R_drewN | apply Kd.R_drew)); exact HO_5.out)) (by decide) hg); have n1_ := Aside0.mk (Kd.R_over' (by (with_reducible repeat (first | apply Kd.R_alloc | apply Kd.R_drewN | apply Kd.R_drew)); exact HO_147001.out) (Kd.R_typed (by (with_reducible repeat (first | apply Kd.R_alloc | apply Kd.R_drewN | apply Kd.R_drew)); exact HO_5.out)) (by decide) hg); have n2_ := Aside0.mk (blk_grown (g := gb141) (o := .cells #[.int .i64 t137, .slice Ao7 t138.length co7] 34 (0, 0)) (by (with_reducible repeat (first | refine blk_drewN ?_ _ | refine blk_drew ?_ | refine blk_alloc ?_ _)); exact BK141.out) hg (Kd.R_ne HO_5.out BK141.out (by decide))); have n3_ := Aside0.mk (blk_grown (g := gb146) (o := .cells #[.int .i64 t142, .slice Ao12 t143.length co12] 34 (0, 0)) (by (with_reducible repeat (first | refine blk_drewN ?_ _ | refine blk_drew ?_ | refine blk_alloc ?_ _)); exact BK146.out) hg (Kd.R_ne HO_5.out BK146.out (by decide))); have n4_ := Aside0.mk (hb); have n5_ := Aside0.mk (ho); clear HO_142001; clear HO_147001; clear BK141; clear BK146; clear HB; clear HO_5; have HO_142001 := n0_; have HO_147001 := n1_; have BK141 := n2_; have BK146 := n3_; have HB := n4_; have HO168 := n5_; clear n0_ n1_ n2_ n3_ n4_ n5_; clear ho hb hg hat))
                                go_roundg kj46
                                case measure => have := HK1.out; have := HJ15.out; have := HJ46.out; omega
                                case rel => exact ⟨(y166), (wrap64 (x6_1 + 1)), (by first | rfl | (simp; done) | (simp [*]; done)), H', ⟨by have := HK1.out; have := HJ15.out; have := HJ46.out; omega⟩, ⟨by (with_reducible repeat (first | apply Kd.R_alloc | apply Kd.R_drewN | apply Kd.R_drew)); exact HO168.out⟩, ⟨by (with_reducible repeat (first | apply Kd.R_alloc | apply Kd.R_drewN | apply Kd.R_drew)); exact HO_142001.out⟩, ⟨by (with_reducible repeat (first | apply Kd.R_alloc | apply Kd.R_drewN | apply Kd.R_drew)); exact HO_147001.out⟩, ⟨by (with_reducible repeat (first | refine blk_drewN ?_ _ | refine blk_drew ?_ | refine blk_alloc ?_ _)); exact BK141.out⟩, ⟨by (with_reducible repeat (first | refine blk_drewN ?_ _ | refine blk_drew ?_ | refine blk_alloc ?_ _)); exact BK146.out⟩, ⟨by repeat (first | (with_reducible first | exact HB.out | apply below_alloc | apply pw_below_drewN | apply below_drew1 | refine below_set ?_ GE141.out | refine below_set ?_ GE146.out) | exact HB.out)⟩⟩
                              · rw [if_neg c65] at H
                                exact absurd H (by simp)
                            · rw [if_neg c64] at H
                              have c64b0 : ((bt a0 x6_1) == 9) = false := beq_eq_false_iff_ne.mpr c64
                              have c64b1 : ((bt a0 x6_1) != 9) = true := bne_iff_ne.mpr c64
                              by_cases c67 : (bt a0 x6_1) = 10
                              · rw [if_pos c67] at H
                                have c67b0 : ((bt a0 x6_1) == 10) = true := beq_iff_eq.mpr c67
                                have c67b1 : ((bt a0 x6_1) != 10) = false := bne_eq_false_iff_eq.mpr c67
                                clear c67
                                by_cases c68 : x5_1.length < 17592186044416
                                · rw [if_pos c68] at H
                                  have LMc68 := Aside0.mk c68
                                  clear c68
                                  obtain ⟨y169, hy169⟩ : ∃ y_ : List Int, y_ = (x5_1 ++ [2]) := ⟨_, rfl⟩
                                  replace H : (quarryref08_Bytes.l0 kj46 a0 y169 (wrap64 (x6_1 + 1)) t137 t138 t142 t143) = some r := by first | (rw [hy169]; with_reducible exact H) | (have H2_ := (Option.bind_some _ _).symm.trans H; rw [hy169]; with_reducible exact H2_) | (have H2_ := (Option.bind_some _ _).symm.trans H; with_reducible exact H2_) | with_reducible exact H | (rw [hy169]; exact H) | exact H
                                  have Ny169 := Aside0.mk hy169
                                  clear hy169
                                  have H' := Aside0.mk H
                                  clear H
                                  go_wp2_with (first | ((with_reducible refine gate_builtin (b := .append) (xs := #[.tmp 91, .tmp 92]) rfl ?_); at_builtin; refine Kd.R_append (Kd.int .i64) (w0 := w) w.heap.size rfl (.tmp 91) (.tmp 92) 36 3 (.int .i64 0) 8 rfl Tryd.underlying36 info3 rfl (by decide) (by omega) u5 x5_1 2 [.int .i64 2] (fun _ => True) (fun _ => False) rfl rfl ?aP (fun _ hk => hk.elim) ?aF ?aO ?aB ?aS ?aL ?_; (case aP => exact rfl); (case aB => exact (by repeat (first | (with_reducible first | exact HB.out | apply below_alloc | apply pw_below_drewN | apply below_drew1 | refine below_set ?_ GE141.out | refine below_set ?_ GE146.out) | exact HB.out))); (case aF => exact (fun _ _ => trivial)); (case aO => exact (by (with_reducible repeat (first | apply Kd.R_alloc | apply Kd.R_drewN | apply Kd.R_drew)); exact HO_5.out)); (case aS => exact (below_size (by repeat (first | (with_reducible first | exact HB.out | apply below_alloc | apply pw_below_drewN | apply below_drew1 | refine below_set ?_ GE141.out | refine below_set ?_ GE146.out) | exact HB.out)))); (case aL => have := LMc68.out; omega); intro v170 w69 ho hb hg hat; rw [← Ny169.out] at ho; have n0_ := Aside0.mk (Kd.R_over' (by (with_reducible repeat (first | apply Kd.R_alloc | apply Kd.R_drewN | apply Kd.R_drew)); exact HO_142001.out) (Kd.R_typed (by (with_reducible repeat (first | apply Kd.R_alloc | apply Kd.R_drewN | apply Kd.R_drew)); exact HO_5.out)) (by decide) hg); have n1_ := Aside0.mk (Kd.R_over' (by (with_reducible repeat (first | apply Kd.R_alloc | apply Kd.R_drewN | apply Kd.R_drew)); exact HO_147001.out) (Kd.R_typed (by (with_reducible repeat (first | apply Kd.R_alloc | apply Kd.R_drewN | apply Kd.R_drew)); exact HO_5.out)) (by decide) hg); have n2_ := Aside0.mk (blk_grown (g := gb141) (o := .cells #[.int .i64 t137, .slice Ao7 t138.length co7] 34 (0, 0)) (by (with_reducible repeat (first | refine blk_drewN ?_ _ | refine blk_drew ?_ | refine blk_alloc ?_ _)); exact BK141.out) hg (Kd.R_ne HO_5.out BK141.out (by decide))); have n3_ := Aside0.mk (blk_grown (g := gb146) (o := .cells #[.int .i64 t142, .slice Ao12 t143.length co12] 34 (0, 0)) (by (with_reducible repeat (first | refine blk_drewN ?_ _ | refine blk_drew ?_ | refine blk_alloc ?_ _)); exact BK146.out) hg (Kd.R_ne HO_5.out BK146.out (by decide))); have n4_ := Aside0.mk (hb); have n5_ := Aside0.mk (ho); clear HO_142001; clear HO_147001; clear BK141; clear BK146; clear HB; clear HO_5; have HO_142001 := n0_; have HO_147001 := n1_; have BK141 := n2_; have BK146 := n3_; have HB := n4_; have HO171 := n5_; clear n0_ n1_ n2_ n3_ n4_ n5_; clear ho hb hg hat))
                                  go_roundg kj46
                                  case measure => have := HK1.out; have := HJ15.out; have := HJ46.out; omega
                                  case rel => exact ⟨(y169), (wrap64 (x6_1 + 1)), (by first | rfl | (simp; done) | (simp [*]; done)), H', ⟨by have := HK1.out; have := HJ15.out; have := HJ46.out; omega⟩, ⟨by (with_reducible repeat (first | apply Kd.R_alloc | apply Kd.R_drewN | apply Kd.R_drew)); exact HO171.out⟩, ⟨by (with_reducible repeat (first | apply Kd.R_alloc | apply Kd.R_drewN | apply Kd.R_drew)); exact HO_142001.out⟩, ⟨by (with_reducible repeat (first | apply Kd.R_alloc | apply Kd.R_drewN | apply Kd.R_drew)); exact HO_147001.out⟩, ⟨by (with_reducible repeat (first | refine blk_drewN ?_ _ | refine blk_drew ?_ | refine blk_alloc ?_ _)); exact BK141.out⟩, ⟨by (with_reducible repeat (first | refine blk_drewN ?_ _ | refine blk_drew ?_ | refine blk_alloc ?_ _)); exact BK146.out⟩, ⟨by repeat (first | (with_reducible first | exact HB.out | apply below_alloc | apply pw_below_drewN | apply below_drew1 | refine below_set ?_ GE141.out | refine below_set ?_ GE146.out) | exact HB.out)⟩⟩
                                · rw [if_neg c68] at H
                                  exact absurd H (by simp)
                              · rw [if_neg c67] at H
                                have c67b0 : ((bt a0 x6_1) == 10) = false := beq_eq_false_iff_ne.mpr c67
                                have c67b1 : ((bt a0 x6_1) != 10) = true := bne_iff_ne.mpr c67
                                by_cases c70 : (bt a0 x6_1) = 13
                                · rw [if_pos c70] at H
                                  have c70b0 : ((bt a0 x6_1) == 13) = true := beq_iff_eq.mpr c70
                                  have c70b1 : ((bt a0 x6_1) != 13) = false := bne_eq_false_iff_eq.mpr c70
                                  clear c70
                                  by_cases c71 : x5_1.length < 17592186044416
                                  · rw [if_pos c71] at H
                                    have LMc71 := Aside0.mk c71
                                    clear c71
                                    obtain ⟨y172, hy172⟩ : ∃ y_ : List Int, y_ = (x5_1 ++ [2]) := ⟨_, rfl⟩
                                    replace H : (quarryref08_Bytes.l0 kj46 a0 y172 (wrap64 (x6_1 + 1)) t137 t138 t142 t143) = some r := by first | (rw [hy172]; with_reducible exact H) | (have H2_ := (Option.bind_some _ _).symm.trans H; rw [hy172]; with_reducible exact H2_) | (have H2_ := (Option.bind_some _ _).symm.trans H; with_reducible exact H2_) | with_reducible exact H | (rw [hy172]; exact H) | exact H
                                    have Ny172 := Aside0.mk hy172
                                    clear hy172
                                    have H' := Aside0.mk H
                                    clear H
                                    go_wp2_with (first | ((with_reducible refine gate_builtin (b := .append) (xs := #[.tmp 91, .tmp 92]) rfl ?_); at_builtin; refine Kd.R_append (Kd.int .i64) (w0 := w) w.heap.size rfl (.tmp 91) (.tmp 92) 36 3 (.int .i64 0) 8 rfl Tryd.underlying36 info3 rfl (by decide) (by omega) u5 x5_1 2 [.int .i64 2] (fun _ => True) (fun _ => False) rfl rfl ?aP (fun _ hk => hk.elim) ?aF ?aO ?aB ?aS ?aL ?_; (case aP => exact rfl); (case aB => exact (by repeat (first | (with_reducible first | exact HB.out | apply below_alloc | apply pw_below_drewN | apply below_drew1 | refine below_set ?_ GE141.out | refine below_set ?_ GE146.out) | exact HB.out))); (case aF => exact (fun _ _ => trivial)); (case aO => exact (by (with_reducible repeat (first | apply Kd.R_alloc | apply Kd.R_drewN | apply Kd.R_drew)); exact HO_5.out)); (case aS => exact (below_size (by repeat (first | (with_reducible first | exact HB.out | apply below_alloc | apply pw_below_drewN | apply below_drew1 | refine below_set ?_ GE141.out | refine below_set ?_ GE146.out) | exact HB.out)))); (case aL => have := LMc71.out; omega); intro v173 w72 ho hb hg hat; rw [← Ny172.out] at ho; have n0_ := Aside0.mk (Kd.R_over' (by (with_reducible repeat (first | apply Kd.R_alloc | apply Kd.R_drewN | apply Kd.R_drew)); exact HO_142001.out) (Kd.R_typed (by (with_reducible repeat (first | apply Kd.R_alloc | apply Kd.R_drewN | apply Kd.R_drew)); exact HO_5.out)) (by decide) hg); have n1_ := Aside0.mk (Kd.R_over' (by (with_reducible repeat (first | apply Kd.R_alloc | apply Kd.R_drewN | apply Kd.R_drew)); exact HO_147001.out) (Kd.R_typed (by (with_reducible repeat (first | apply Kd.R_alloc | apply Kd.R_drewN | apply Kd.R_drew)); exact HO_5.out)) (by decide) hg); have n2_ := Aside0.mk (blk_grown (g := gb141) (o := .cells #[.int .i64 t137, .slice Ao7 t138.length co7] 34 (0, 0)) (by (with_reducible repeat (first | refine blk_drewN ?_ _ | refine blk_drew ?_ | refine blk_alloc ?_ _)); exact BK141.out) hg (Kd.R_ne HO_5.out BK141.out (by decide))); have n3_ := Aside0.mk (blk_grown (g := gb146) (o := .cells #[.int .i64 t142, .slice Ao12 t143.length co12] 34 (0, 0)) (by (with_reducible repeat (first | refine blk_drewN ?_ _ | refine blk_drew ?_ | refine blk_alloc ?_ _)); exact BK146.out) hg (Kd.R_ne HO_5.out BK146.out (by decide))); have n4_ := Aside0.mk (hb); have n5_ := Aside0.mk (ho); clear HO_142001; clear HO_147001; clear BK141; clear BK146; clear HB; clear HO_5; have HO_142001 := n0_; have HO_147001 := n1_; have BK141 := n2_; have BK146 := n3_; have HB := n4_; have HO174 := n5_; clear n0_ n1_ n2_ n3_ n4_ n5_; clear ho hb hg hat))
                                    go_roundg kj46
                                    case measure => have := HK1.out; have := HJ15.out; have := HJ46.out; omega
                                    case rel => exact ⟨(y172), (wrap64 (x6_1 + 1)), (by first | rfl | (simp; done) | (simp [*]; done)), H', ⟨by have := HK1.out; have := HJ15.out; have := HJ46.out; omega⟩, ⟨by (with_reducible repeat (first | apply Kd.R_alloc | apply Kd.R_drewN | apply Kd.R_drew)); exact HO174.out⟩, ⟨by (with_reducible repeat (first | apply Kd.R_alloc | apply Kd.R_drewN | apply Kd.R_drew)); exact HO_142001.out⟩, ⟨by (with_reducible repeat (first | apply Kd.R_alloc | apply Kd.R_drewN | apply Kd.R_drew)); exact HO_147001.out⟩, ⟨by (with_reducible repeat (first | refine blk_drewN ?_ _ | refine blk_drew ?_ | refine blk_alloc ?_ _)); exact BK141.out⟩, ⟨by (with_reducible repeat (first | refine blk_drewN ?_ _ | refine blk_drew ?_ | refine blk_alloc ?_ _)); exact BK146.out⟩, ⟨by repeat (first | (with_reducible first | exact HB.out | apply below_alloc | apply pw_below_drewN | apply below_drew1 | refine below_set ?_ GE141.out | refine below_set ?_ GE146.out) | exact HB.out)⟩⟩
                                  · rw [if_neg c71] at H
                                    exact absurd H (by simp)
                                · rw [if_neg c70] at H
                                  have c70b0 : ((bt a0 x6_1) == 13) = false := beq_eq_false_iff_ne.mpr c70
                                  have c70b1 : ((bt a0 x6_1) != 13) = true := bne_iff_ne.mpr c70
                                  by_cases c73 : x5_1.length < 17592186044416
                                  · rw [if_pos c73] at H
                                    have LMc73 := Aside0.mk c73
                                    clear c73
                                    obtain ⟨y175, hy175⟩ : ∃ y_ : List Int, y_ = (x5_1 ++ [6]) := ⟨_, rfl⟩
                                    replace H : (quarryref08_Bytes.l0 kj46 a0 y175 (wrap64 (x6_1 + 1)) t137 t138 t142 t143) = some r := by first | (rw [hy175]; with_reducible exact H) | (have H2_ := (Option.bind_some _ _).symm.trans H; rw [hy175]; with_reducible exact H2_) | (have H2_ := (Option.bind_some _ _).symm.trans H; with_reducible exact H2_) | with_reducible exact H | (rw [hy175]; exact H) | exact H
                                    have Ny175 := Aside0.mk hy175
                                    clear hy175
                                    have H' := Aside0.mk H
                                    clear H
                                    go_wp2_with (first | ((with_reducible refine gate_builtin (b := .append) (xs := #[.tmp 21, .tmp 22]) rfl ?_); at_builtin; refine Kd.R_append (Kd.int .i64) (w0 := w) w.heap.size rfl (.tmp 21) (.tmp 22) 36 3 (.int .i64 0) 8 rfl Tryd.underlying36 info3 rfl (by decide) (by omega) u5 x5_1 6 [.int .i64 6] (fun _ => True) (fun _ => False) rfl rfl ?aP (fun _ hk => hk.elim) ?aF ?aO ?aB ?aS ?aL ?_; (case aP => exact rfl); (case aB => exact (by repeat (first | (with_reducible first | exact HB.out | apply below_alloc | apply pw_below_drewN | apply below_drew1 | refine below_set ?_ GE141.out | refine below_set ?_ GE146.out) | exact HB.out))); (case aF => exact (fun _ _ => trivial)); (case aO => exact (by (with_reducible repeat (first | apply Kd.R_alloc | apply Kd.R_drewN | apply Kd.R_drew)); exact HO_5.out)); (case aS => exact (below_size (by repeat (first | (with_reducible first | exact HB.out | apply below_alloc | apply pw_below_drewN | apply below_drew1 | refine below_set ?_ GE141.out | refine below_set ?_ GE146.out) | exact HB.out)))); (case aL => have := LMc73.out; omega); intro v176 w74 ho hb hg hat; rw [← Ny175.out] at ho; have n0_ := Aside0.mk (Kd.R_over' (by (with_reducible repeat (first | apply Kd.R_alloc | apply Kd.R_drewN | apply Kd.R_drew)); exact HO_142001.out) (Kd.R_typed (by (with_reducible repeat (first | apply Kd.R_alloc | apply Kd.R_drewN | apply Kd.R_drew)); exact HO_5.out)) (by decide) hg); have n1_ := Aside0.mk (Kd.R_over' (by (with_reducible repeat (first | apply Kd.R_alloc | apply Kd.R_drewN | apply Kd.R_drew)); exact HO_147001.out) (Kd.R_typed (by (with_reducible repeat (first | apply Kd.R_alloc | apply Kd.R_drewN | apply Kd.R_drew)); exact HO_5.out)) (by decide) hg); have n2_ := Aside0.mk (blk_grown (g := gb141) (o := .cells #[.int .i64 t137, .slice Ao7 t138.length co7] 34 (0, 0)) (by (with_reducible repeat (first | refine blk_drewN ?_ _ | refine blk_drew ?_ | refine blk_alloc ?_ _)); exact BK141.out) hg (Kd.R_ne HO_5.out BK141.out (by decide))); have n3_ := Aside0.mk (blk_grown (g := gb146) (o := .cells #[.int .i64 t142, .slice Ao12 t143.length co12] 34 (0, 0)) (by (with_reducible repeat (first | refine blk_drewN ?_ _ | refine blk_drew ?_ | refine blk_alloc ?_ _)); exact BK146.out) hg (Kd.R_ne HO_5.out BK146.out (by decide))); have n4_ := Aside0.mk (hb); have n5_ := Aside0.mk (ho); clear HO_142001; clear HO_147001; clear BK141; clear BK146; clear HB; clear HO_5; have HO_142001 := n0_; have HO_147001 := n1_; have BK141 := n2_; have BK146 := n3_; have HB := n4_; have HO177 := n5_; clear n0_ n1_ n2_ n3_ n4_ n5_; clear ho hb hg hat))
                                    go_roundg kj46
                                    case measure => have := HK1.out; have := HJ15.out; have := HJ46.out; omega
                                    case rel => exact ⟨(y175), (wrap64 (x6_1 + 1)), (by first | rfl | (simp; done) | (simp [*]; done)), H', ⟨by have := HK1.out; have := HJ15.out; have := HJ46.out; omega⟩, ⟨by (with_reducible repeat (first | apply Kd.R_alloc | apply Kd.R_drewN | apply Kd.R_drew)); exact HO177.out⟩, ⟨by (with_reducible repeat (first | apply Kd.R_alloc | apply Kd.R_drewN | apply Kd.R_drew)); exact HO_142001.out⟩, ⟨by (with_reducible repeat (first | apply Kd.R_alloc | apply Kd.R_drewN | apply Kd.R_drew)); exact HO_147001.out⟩, ⟨by (with_reducible repeat (first | refine blk_drewN ?_ _ | refine blk_drew ?_ | refine blk_alloc ?_ _)); exact BK141.out⟩, ⟨by (with_reducible repeat (first | refine blk_drewN ?_ _ | refine blk_drew ?_ | refine blk_alloc ?_ _)); exact BK146.out⟩, ⟨by repeat (first | (with_reducible first | exact HB.out | apply below_alloc | apply pw_below_drewN | apply below_drew1 | refine below_set ?_ GE141.out | refine below_set ?_ GE146.out) | exact HB.out)⟩⟩
                                  · rw [if_neg c73] at H
                                    exact absurd H (by simp)
        · rw [if_neg c14] at H
          exact absurd H (by simp)
      · rw [if_neg c13] at H
        have c13b0 : decide (x6_1 < (a0.size : Int)) = false := decide_eq_false c13
        clear c13
        obtain rfl := Option.some.inj H
        go_wp2
        go_ret
        exact ⟨_, by first | rfl | (simp [errW_none, errW_some] <;> rfl) | (simp [*, errW_none, errW_some] <;> rfl), by (with_reducible repeat (first | apply Kd.R_alloc | apply Kd.R_drewN | apply Kd.R_drew)); exact HO_5.out, by repeat (first | (with_reducible first | exact HB.out | apply below_alloc | apply pw_below_drewN | apply below_drew1 | refine below_set ?_ GE141.out | refine below_set ?_ GE146.out) | exact HB.out)⟩

def quarryref08_begins.f (l0 : List Int) (a1 : Int) : Option (Bool) := if 0 ≤ a1 then (if a1 < (l0.length : Int) then (if (rd l0 a1) = 1 then (some true) else (if (rd l0 a1) = 3 then (some true) else (if (rd l0 a1) = 6 then (if a1 = 0 then (some true) else (if 0 ≤ (wrap64 (a1 - 1)) then (if (wrap64 (a1 - 1)) < (l0.length : Int) then (some ((rd l0 (wrap64 (a1 - 1))) != 6)) else (none)) else (none))) else (some false)))) else (none)) else (none)
set_option maxHeartbeats 8000000 in
set_option maxRecDepth 100000 in
theorem quarryref08_begins.calls (A0 : Option Addr) (c0 : Nat) (l0 : List Int) (a1 : Int) (r : Bool) (w : World) (hr0 : Kd.C (Kd.int .i64) w A0 l0.length l0) (hc0 : l0.length ≤ c0) (h : quarryref08_begins.f l0 a1 = some r) :
    Calls Tryd.prog 53 #[.slice A0 l0.length c0, .int .i64 a1] w fun e w' => e = .returned (.bool r) ∧ Drawn0 w w' := by
  have HR0 := Aside0.mk hr0
  have HC0 := Aside0.mk hc0
  clear hr0 hc0
  have H : (if 0 ≤ a1 then (if a1 < (l0.length : Int) then (if (rd l0 a1) = 1 then (some true) else (if (rd l0 a1) = 3 then (some true) else (if (rd l0 a1) = 6 then (if a1 = 0 then (some true) else (if 0 ≤ (wrap64 (a1 - 1)) then (if (wrap64 (a1 - 1)) < (l0.length : Int) then (some ((rd l0 (wrap64 (a1 - 1))) != 6)) else (none)) else (none))) else (some false)))) else (none)) else (none)) = some r := h
  clear h
  by_cases c3 : 0 ≤ a1
  · rw [if_pos c3] at H
    have c3b0 : decide (0 ≤ a1) = true := decide_eq_true c3
    clear c3
    by_cases c4 : a1 < (l0.length : Int)
    · rw [if_pos c4] at H
      have c4b0 : decide (a1 < (l0.length : Int)) = true := decide_eq_true c4
      clear c4
      by_cases c5 : (rd l0 a1) = 1
      · rw [if_pos c5] at H
        have c5b0 : ((rd l0 a1) == 1) = true := beq_iff_eq.mpr c5
        have c5b1 : ((rd l0 a1) != 1) = false := bne_eq_false_iff_eq.mpr c5
        clear c5
        obtain rfl := Option.some.inj H
        have p178 : 0 ≤ (a1 : Int) := of_decide_eq_true (by first | (with_reducible assumption) | assumption)
        have q178 : a1 < (l0.length : Int) := of_decide_eq_true (by first | (with_reducible assumption) | assumption)
        obtain ⟨ad178, e178, hx178_0⟩ := Kd.at_int HR0.out a1 p178 q178
        cases e178
        replace p178 := eq_true p178
        replace q178 := eq_true q178
        go_enter Tryd.func53, Tryd.ntmps53
        go_wp2
        go_ret
        exact ⟨by first | rfl | (simp; done) | (simp [*]; done), by repeat (first | exact Drawn0.refl _ | apply Drawn0.step)⟩
      · rw [if_neg c5] at H
        have c5b0 : ((rd l0 a1) == 1) = false := beq_eq_false_iff_ne.mpr c5
        have c5b1 : ((rd l0 a1) != 1) = true := bne_iff_ne.mpr c5
        by_cases c6 : (rd l0 a1) = 3
        · rw [if_pos c6] at H
          have c6b0 : ((rd l0 a1) == 3) = true := beq_iff_eq.mpr c6
          have c6b1 : ((rd l0 a1) != 3) = false := bne_eq_false_iff_eq.mpr c6
          clear c6
          obtain rfl := Option.some.inj H
          have p178 : 0 ≤ (a1 : Int) := of_decide_eq_true (by first | (with_reducible assumption) | assumption)
          have q178 : a1 < (l0.length : Int) := of_decide_eq_true (by first | (with_reducible assumption) | assumption)
          obtain ⟨ad178, e178, hx178_0⟩ := Kd.at_int HR0.out a1 p178 q178
          cases e178
          replace p178 := eq_true p178
          replace q178 := eq_true q178
          have p179 : 0 ≤ (a1 : Int) := of_decide_eq_true (by first | (with_reducible assumption) | assumption)
          have q179 : a1 < (l0.length : Int) := of_decide_eq_true (by first | (with_reducible assumption) | assumption)
          obtain ⟨ad179, e179, hx179_0⟩ := Kd.at_int HR0.out a1 p179 q179
          obtain rfl : ad178 = ad179 := (by injection e179)
          replace p179 := eq_true p179
          replace q179 := eq_true q179
          go_enter Tryd.func53, Tryd.ntmps53
          go_wp2
          go_ret
          exact ⟨by first | rfl | (simp; done) | (simp [*]; done), by repeat (first | exact Drawn0.refl _ | apply Drawn0.step)⟩
        · rw [if_neg c6] at H
          have c6b0 : ((rd l0 a1) == 3) = false := beq_eq_false_iff_ne.mpr c6
          have c6b1 : ((rd l0 a1) != 3) = true := bne_iff_ne.mpr c6
          by_cases c7 : (rd l0 a1) = 6
          · rw [if_pos c7] at H
            have c7b0 : ((rd l0 a1) == 6) = true := beq_iff_eq.mpr c7
            have c7b1 : ((rd l0 a1) != 6) = false := bne_eq_false_iff_eq.mpr c7
            clear c7
            by_cases c8 : a1 = 0
            · rw [if_pos c8] at H
              have c8b0 : (a1 == 0) = true := beq_iff_eq.mpr c8
              have c8b1 : (a1 != 0) = false := bne_eq_false_iff_eq.mpr c8
              clear c8
              obtain rfl := Option.some.inj H
              have p178 : 0 ≤ (a1 : Int) := of_decide_eq_true (by first | (with_reducible assumption) | assumption)
              have q178 : a1 < (l0.length : Int) := of_decide_eq_true (by first | (with_reducible assumption) | assumption)
              obtain ⟨ad178, e178, hx178_0⟩ := Kd.at_int HR0.out a1 p178 q178
              cases e178
              replace p178 := eq_true p178
              replace q178 := eq_true q178
              have p179 : 0 ≤ (a1 : Int) := of_decide_eq_true (by first | (with_reducible assumption) | assumption)
              have q179 : a1 < (l0.length : Int) := of_decide_eq_true (by first | (with_reducible assumption) | assumption)
              obtain ⟨ad179, e179, hx179_0⟩ := Kd.at_int HR0.out a1 p179 q179
              obtain rfl : ad178 = ad179 := (by injection e179)
              replace p179 := eq_true p179
              replace q179 := eq_true q179
              have p180 : 0 ≤ (a1 : Int) := of_decide_eq_true (by first | (with_reducible assumption) | assumption)
              have q180 : a1 < (l0.length : Int) := of_decide_eq_true (by first | (with_reducible assumption) | assumption)
              obtain ⟨ad180, e180, hx180_0⟩ := Kd.at_int HR0.out a1 p180 q180
              obtain rfl : ad178 = ad180 := (by injection e180)
              replace p180 := eq_true p180
              replace q180 := eq_true q180
              go_enter Tryd.func53, Tryd.ntmps53
              go_wp2
              go_ret
              exact ⟨by first | rfl | (simp; done) | (simp [*]; done), by repeat (first | exact Drawn0.refl _ | apply Drawn0.step)⟩
            · rw [if_neg c8] at H
              have c8b0 : (a1 == 0) = false := beq_eq_false_iff_ne.mpr c8
              have c8b1 : (a1 != 0) = true := bne_iff_ne.mpr c8
              obtain ⟨ji9, hji9⟩ : ∃ j_ : Int, (wrap64 (a1 - 1)) = j_ := ⟨_, rfl⟩
              replace H : (if 0 ≤ (ji9) then (if (ji9) < (l0.length : Int) then (some ((rd l0 (ji9)) != 6)) else (none)) else (none)) = some r := by first | (rw [hji9] at H; exact H) | (simp only [hji9] at H ⊢; exact H)
              have hji9w : (IntKind.i64.wrap (a1 - 1)) = ji9 := (i64_w _).trans hji9
              by_cases c10 : 0 ≤ (ji9)
              · rw [if_pos c10] at H
                have c10b0 : decide (0 ≤ (ji9)) = true := decide_eq_true c10
                clear c10
                by_cases c11 : (ji9) < (l0.length : Int)
                · rw [if_pos c11] at H
                  have c11b0 : decide ((ji9) < (l0.length : Int)) = true := decide_eq_true c11
                  clear c11
                  obtain rfl := Option.some.inj H
                  have p178 : 0 ≤ (a1 : Int) := of_decide_eq_true (by first | (with_reducible assumption) | assumption)
                  have q178 : a1 < (l0.length : Int) := of_decide_eq_true (by first | (with_reducible assumption) | assumption)
                  obtain ⟨ad178, e178, hx178_0⟩ := Kd.at_int HR0.out a1 p178 q178
                  cases e178
                  replace p178 := eq_true p178
                  replace q178 := eq_true q178
                  have p179 : 0 ≤ (a1 : Int) := of_decide_eq_true (by first | (with_reducible assumption) | assumption)
                  have q179 : a1 < (l0.length : Int) := of_decide_eq_true (by first | (with_reducible assumption) | assumption)
                  obtain ⟨ad179, e179, hx179_0⟩ := Kd.at_int HR0.out a1 p179 q179
                  obtain rfl : ad178 = ad179 := (by injection e179)
                  replace p179 := eq_true p179
                  replace q179 := eq_true q179
                  have p180 : 0 ≤ (a1 : Int) := of_decide_eq_true (by first | (with_reducible assumption) | assumption)
                  have q180 : a1 < (l0.length : Int) := of_decide_eq_true (by first | (with_reducible assumption) | assumption)
                  obtain ⟨ad180, e180, hx180_0⟩ := Kd.at_int HR0.out a1 p180 q180
                  obtain rfl : ad178 = ad180 := (by injection e180)
                  replace p180 := eq_true p180
                  replace q180 := eq_true q180
                  have p181 : 0 ≤ ((ji9) : Int) := of_decide_eq_true (by first | (with_reducible assumption) | assumption)
                  have q181 : (ji9) < (l0.length : Int) := of_decide_eq_true (by first | (with_reducible assumption) | assumption)
                  obtain ⟨ad181, e181, hx181_0⟩ := Kd.at_int HR0.out (ji9) p181 q181
                  obtain rfl : ad178 = ad181 := (by injection e181)
                  replace p181 := eq_true p181
                  replace q181 := eq_true q181
                  go_enter Tryd.func53, Tryd.ntmps53
                  go_wp2
                  go_ret
                  exact ⟨by first | rfl | (simp; done) | (simp only [← hji9] <;> (first | rfl | simp)) | (simp [*]; done), by repeat (first | exact Drawn0.refl _ | apply Drawn0.step)⟩
                · rw [if_neg c11] at H
                  exact absurd H (by simp)
              · rw [if_neg c10] at H
                exact absurd H (by simp)
          · rw [if_neg c7] at H
            have c7b0 : ((rd l0 a1) == 6) = false := beq_eq_false_iff_ne.mpr c7
            have c7b1 : ((rd l0 a1) != 6) = true := bne_iff_ne.mpr c7
            obtain rfl := Option.some.inj H
            have p178 : 0 ≤ (a1 : Int) := of_decide_eq_true (by first | (with_reducible assumption) | assumption)
            have q178 : a1 < (l0.length : Int) := of_decide_eq_true (by first | (with_reducible assumption) | assumption)
            obtain ⟨ad178, e178, hx178_0⟩ := Kd.at_int HR0.out a1 p178 q178
            cases e178
            replace p178 := eq_true p178
            replace q178 := eq_true q178
            have p179 : 0 ≤ (a1 : Int) := of_decide_eq_true (by first | (with_reducible assumption) | assumption)
            have q179 : a1 < (l0.length : Int) := of_decide_eq_true (by first | (with_reducible assumption) | assumption)
            obtain ⟨ad179, e179, hx179_0⟩ := Kd.at_int HR0.out a1 p179 q179
            obtain rfl : ad178 = ad179 := (by injection e179)
            replace p179 := eq_true p179
            replace q179 := eq_true q179
            have p180 : 0 ≤ (a1 : Int) := of_decide_eq_true (by first | (with_reducible assumption) | assumption)
            have q180 : a1 < (l0.length : Int) := of_decide_eq_true (by first | (with_reducible assumption) | assumption)
            obtain ⟨ad180, e180, hx180_0⟩ := Kd.at_int HR0.out a1 p180 q180
            obtain rfl : ad178 = ad180 := (by injection e180)
            replace p180 := eq_true p180
            replace q180 := eq_true q180
            go_enter Tryd.func53, Tryd.ntmps53
            go_wp2
            go_ret
            exact ⟨by first | rfl | (simp; done) | (simp [*]; done), by repeat (first | exact Drawn0.refl _ | apply Drawn0.step)⟩
    · rw [if_neg c4] at H
      exact absurd H (by simp)
  · rw [if_neg c3] at H
    exact absurd H (by simp)

end Go.Proofs.YtgddljealeklkaaDoor.PW
end
-- PWx6
section
namespace Go.Proofs.YtgddljealeklkaaDoor.PW
attribute [local go_sem] Go.Proofs.YtgddljealeklkaaDoorM.fieldBits0 Go.Proofs.YtgddljealeklkaaDoorM.fieldBits1
open Go.RowKit Go.Proofs.YtgddljealeklkaaDoorW.PrintWords Go.Proofs.YtgddljealeklkaaDoorW.PrintLast Go.Proofs.YtgddljealeklkaaDoorW.PrintMore
attribute [local go_sem] max2_int min2_int max_two min_two max_three min_three max_four min_four   -- for this text's walks alone
set_option linter.unusedVariables false
set_option linter.unusedSimpArgs false

def quarryref08_Words.l0 : Nat → List Int → List (S26) → Int → Option ((List (S26)))
  | 0, _, _, _ => none
  | k + 1, x3, x4, x5 => if x5 < (x3.length : Int) then (if 0 ≤ x5 then (if (rd x3 x5) = 6 then ((quarryref08_begins.f x3 x5).bind fun t186 => (if t186 = true then (if x4.length < 8796093022208 then ((some (x4 ++ [(⟨x5, 0⟩ : S26)] : List (S26))).bind fun y187 => (if 0 ≤ (wrap64 ((y187.length : Int) - 1)) then (if (wrap64 ((y187.length : Int) - 1)) < (y187.length : Int) then (quarryref08_Words.l0 k x3 (y187.set ((wrap64 ((y187.length : Int) - 1)) : Int).toNat (⟨(rd_T26 y187 (wrap64 ((y187.length : Int) - 1))).f0, wrap64 (x5 + 1)⟩ : S26)) (wrap64 (x5 + 1))) else (none)) else (none))) else (none)) else (if 0 ≤ (wrap64 ((x4.length : Int) - 1)) then (if (wrap64 ((x4.length : Int) - 1)) < (x4.length : Int) then (quarryref08_Words.l0 k x3 (x4.set ((wrap64 ((x4.length : Int) - 1)) : Int).toNat (⟨(rd_T26 x4 (wrap64 ((x4.length : Int) - 1))).f0, wrap64 (x5 + 1)⟩ : S26)) (wrap64 (x5 + 1))) else (none)) else (none)))) else (quarryref08_Words.l0 k x3 x4 (wrap64 (x5 + 1)))) else (none)) else (some x4)
def quarryref08_Words.f (k : Nat) (a0 : ByteArray) : Option ((List (S26))) := (quarryref08_Bytes.f k a0).bind fun t182 => (quarryref08_Words.l0 k t182 ([] : List (S26)) 0)
theorem quarryref08_Words.mono_l : ∀ k, (∀ y0 y1 y2, LeO (quarryref08_Words.l0 k y0 y1 y2) (quarryref08_Words.l0 (k + 1) y0 y1 y2))
  | 0 => fun _ _ _ r h => by simp [quarryref08_Words.l0] at h
  | k + 1 => by
    have ih0 := quarryref08_Words.mono_l k
    · intro y0 y1 y2
      unfold quarryref08_Words.l0
      repeat' first
      | (with_reducible exact ih0 _ _ _)
      | (with_reducible exact quarryref08_Bytes.mono _ _)
      | (with_reducible exact LeO.refl _)
      | (with_reducible exact LeO.none _)
      | (with_reducible refine LeO.ite ?_ ?_)
      | (with_reducible refine LeO.bind ?_ (fun _ => ?_))
      | exact ih0 _ _ _
      | exact quarryref08_Bytes.mono _ _
      | exact LeO.none _
      | refine LeO.ite ?_ ?_
      | refine LeO.bind ?_ (fun _ => ?_)
theorem quarryref08_Words.mono : ∀ a0 k, LeO (quarryref08_Words.f k a0) (quarryref08_Words.f (k + 1) a0) := by
  intro a0 k
  have ih0 := quarryref08_Words.mono_l k
  unfold quarryref08_Words.f
  repeat' first
      | (with_reducible exact ih0 _ _ _)
      | (with_reducible exact quarryref08_Bytes.mono _ _)
      | (with_reducible exact LeO.refl _)
      | (with_reducible exact LeO.none _)
      | (with_reducible refine LeO.ite ?_ ?_)
      | (with_reducible refine LeO.bind ?_ (fun _ => ?_))
      | exact ih0 _ _ _
      | exact quarryref08_Bytes.mono _ _
      | exact LeO.none _
      | refine LeO.ite ?_ ?_
      | refine LeO.bind ?_ (fun _ => ?_)
set_option maxHeartbeats 8000000 in
set_option maxRecDepth 100000 in
theorem quarryref08_Words.calls (k : Nat) (a0 : ByteArray) (r : List (S26)) (w : World) (h : quarryref08_Words.f k a0 = some r) :
    Calls Tryd.prog 16 #[.string a0] w fun e w' => ∃ v0_ : Value, e = .returned (v0_) ∧ Kd.R k26 26 w' w.heap.size (fun _ => True) v0_ r ∧ Below w.heap.size w w' := by
  have hu26 := Tryd.underlying26
  have HB := Aside0.mk (Below.refl w.heap.size w)
  have H : ((quarryref08_Bytes.f k a0).bind fun t182 => (quarryref08_Words.l0 k t182 ([] : List (S26)) 0)) = some r := h
  clear h
  replace H := Option.bind_eq_some_iff.mp H
  obtain ⟨t182, A20, H⟩ := H
  replace H : (quarryref08_Words.l0 k t182 ([] : List (S26)) 0) = some r := H
  have A2 := Aside0.mk A20
  clear A20
  have H' := Aside0.mk H
  clear H
  go_enter Tryd.func16, Tryd.ntmps16
  go_wp2_with (first | ((with_reducible refine gate_callee (f := 52) rfl ?_); refine goesL_ (some 7) rfl rfl Tryd.func52 (by kernel_rfl) rfl #[.string a0] rfl (by (try simp only [List.map_toArray, List.map_cons, List.map_nil]); first | done | rfl | (simp only [List.length_drop, List.length_take]; rfl)) ?_; (with_reducible refine (quarryref08_Bytes.calls k a0 t182 _ A2.out).mono ?_); rintro e w3 ⟨v183, rfl, ho0, hb⟩; refine ⟨_, rfl, ?_⟩; have n0_ := Aside0.mk (Kd.R_lower ho0 (below_size (by repeat (first | (with_reducible first | exact HB.out | apply below_alloc | apply pw_below_drewN | apply below_drew1) | exact HB.out)))); have n1_ := Aside0.mk (below_step (by repeat (first | (with_reducible first | exact HB.out | apply below_alloc | apply pw_below_drewN | apply below_drew1) | exact HB.out)) hb); clear HB; have HO184 := n0_; have HB := n1_; clear n0_ n1_; (try clear hb); (try clear hb2); (try clear hk); (try clear hi); (try clear ho0)))
  go_loopg [4, 5] k (fun kq v4 v5 w' => ∃ (x4_1 : List (S26)) (x5_1 : Int), v5 = .int .i64 x5_1 ∧ Aside0 (quarryref08_Words.l0 kq t182 x4_1 x5_1 = some r) ∧ Aside0 (kq ≤ k) ∧ Aside0 (Kd.R (Kd.int .i64) 3 w' w.heap.size (fun _ => True) v183 t182) ∧ Aside0 (Kd.R k26 26 w' w.heap.size (fun _ => True) v4 x4_1) ∧ Aside0 (Below w.heap.size w w'))
  case atStart => exact ⟨(([] : List (S26))), (0), (by first | rfl | (simp; done) | (simp [*]; done)), H', ⟨Nat.le_refl _⟩, ⟨by (with_reducible repeat (first | apply Kd.R_alloc | apply Kd.R_drewN | apply Kd.R_drew)); exact HO184.out⟩, ⟨by first | exact Kd.R_nil _ _ _ _ _ | exact Kd.N_nil _ _ _ _ _ | exact Kd.V_nil _ _ _ _ _ | exact Kd.Q_nil _ _ _ _ _ | exact Kd.S_nil _ _ _ _ _⟩, ⟨by repeat (first | (with_reducible first | exact HB.out | apply below_alloc | apply pw_below_drewN | apply below_drew1) | exact HB.out)⟩⟩
  case round =>
    clear H'
    try clear c1
    try clear p2
    obtain ⟨x4_1, x5_1, rfl, HA, HK1, HO_3, HO_4, HB⟩ := hrel
    cases gk with
    | zero => exact absurd HA.out (by simp [quarryref08_Words.l0])
    | succ k1 =>
      have H := HA.out
      clear HA
      simp only [quarryref08_Words.l0] at H
      by_cases c4 : x5_1 < (t182.length : Int)
      · rw [if_pos c4] at H
        have c4b0 : decide (x5_1 < (t182.length : Int)) = true := decide_eq_true c4
        clear c4
        by_cases c5 : 0 ≤ x5_1
        · rw [if_pos c5] at H
          have c5b0 : decide (0 ≤ x5_1) = true := decide_eq_true c5
          clear c5
          by_cases c6 : (rd t182 x5_1) = 6
          · rw [if_pos c6] at H
            have c6b0 : ((rd t182 x5_1) == 6) = true := beq_iff_eq.mpr c6
            have c6b1 : ((rd t182 x5_1) != 6) = false := bne_eq_false_iff_eq.mpr c6
            clear c6
            replace H := Option.bind_eq_some_iff.mp H
            obtain ⟨t186, A70, H⟩ := H
            replace H : (if t186 = true then (if x4_1.length < 8796093022208 then ((some (x4_1 ++ [(⟨x5_1, 0⟩ : S26)] : List (S26))).bind fun y187 => (if 0 ≤ (wrap64 ((y187.length : Int) - 1)) then (if (wrap64 ((y187.length : Int) - 1)) < (y187.length : Int) then (quarryref08_Words.l0 k1 t182 (y187.set ((wrap64 ((y187.length : Int) - 1)) : Int).toNat (⟨(rd_T26 y187 (wrap64 ((y187.length : Int) - 1))).f0, wrap64 (x5_1 + 1)⟩ : S26)) (wrap64 (x5_1 + 1))) else (none)) else (none))) else (none)) else (if 0 ≤ (wrap64 ((x4_1.length : Int) - 1)) then (if (wrap64 ((x4_1.length : Int) - 1)) < (x4_1.length : Int) then (quarryref08_Words.l0 k1 t182 (x4_1.set ((wrap64 ((x4_1.length : Int) - 1)) : Int).toNat (⟨(rd_T26 x4_1 (wrap64 ((x4_1.length : Int) - 1))).f0, wrap64 (x5_1 + 1)⟩ : S26)) (wrap64 (x5_1 + 1))) else (none)) else (none))) = some r := H
            have A7 := Aside0.mk A70
            clear A70
            by_cases c8 : t186 = true
            · subst c8
              have H1 : (if x4_1.length < 8796093022208 then ((some (x4_1 ++ [(⟨x5_1, 0⟩ : S26)] : List (S26))).bind fun y187 => (if 0 ≤ (wrap64 ((y187.length : Int) - 1)) then (if (wrap64 ((y187.length : Int) - 1)) < (y187.length : Int) then (quarryref08_Words.l0 k1 t182 (y187.set ((wrap64 ((y187.length : Int) - 1)) : Int).toNat (⟨(rd_T26 y187 (wrap64 ((y187.length : Int) - 1))).f0, wrap64 (x5_1 + 1)⟩ : S26)) (wrap64 (x5_1 + 1))) else (none)) else (none))) else (none)) = some r := by rw [if_pos rfl] at H; exact H
              clear H
              have H := H1
              clear H1
              by_cases c9 : x4_1.length < 8796093022208
              · rw [if_pos c9] at H
                have LMc9 := Aside0.mk c9
                clear c9
                obtain ⟨y187, hy187⟩ : ∃ y_ : List (S26), y_ = (x4_1 ++ [(⟨x5_1, 0⟩ : S26)]) := ⟨_, rfl⟩
                replace H : (if 0 ≤ (wrap64 ((y187.length : Int) - 1)) then (if (wrap64 ((y187.length : Int) - 1)) < (y187.length : Int) then (quarryref08_Words.l0 k1 t182 (y187.set ((wrap64 ((y187.length : Int) - 1)) : Int).toNat (⟨(rd_T26 y187 (wrap64 ((y187.length : Int) - 1))).f0, wrap64 (x5_1 + 1)⟩ : S26)) (wrap64 (x5_1 + 1))) else (none)) else (none)) = some r := by first | (rw [hy187]; with_reducible exact H) | (have H2_ := (Option.bind_some _ _).symm.trans H; rw [hy187]; with_reducible exact H2_) | (have H2_ := (Option.bind_some _ _).symm.trans H; with_reducible exact H2_) | with_reducible exact H | (rw [hy187]; exact H) | exact H
                have Ny187 := Aside0.mk hy187
                clear hy187
                obtain ⟨ji10, hji10⟩ : ∃ j_ : Int, (wrap64 ((y187.length : Int) - 1)) = j_ := ⟨_, rfl⟩
                replace H : (if 0 ≤ (ji10) then (if (ji10) < (y187.length : Int) then (quarryref08_Words.l0 k1 t182 (y187.set ((ji10) : Int).toNat (⟨(rd_T26 y187 (ji10)).f0, wrap64 (x5_1 + 1)⟩ : S26)) (wrap64 (x5_1 + 1))) else (none)) else (none)) = some r := by first | (rw [hji10] at H; exact H) | (simp only [hji10] at H ⊢; exact H)
                (try rw [hji10] at A7)
                have hji10w : (IntKind.i64.wrap ((y187.length : Int) - 1)) = ji10 := (i64_w _).trans hji10
                by_cases c11 : 0 ≤ (ji10)
                · rw [if_pos c11] at H
                  have c11b0 : decide (0 ≤ (ji10)) = true := decide_eq_true c11
                  clear c11
                  by_cases c12 : (ji10) < (y187.length : Int)
                  · rw [if_pos c12] at H
                    have c12b0 : decide ((ji10) < (y187.length : Int)) = true := decide_eq_true c12
                    clear c12
                    obtain ⟨y190, hy190⟩ : ∃ y_ : List (S26), y_ = (y187.set ((ji10) : Int).toNat (⟨(rd_T26 y187 (ji10)).f0, wrap64 (x5_1 + 1)⟩ : S26)) := ⟨_, rfl⟩
                    replace H : (quarryref08_Words.l0 k1 t182 y190 (wrap64 (x5_1 + 1))) = some r := by first | (rw [hy190]; with_reducible exact H) | (have H2_ := (Option.bind_some _ _).symm.trans H; rw [hy190]; with_reducible exact H2_) | (have H2_ := (Option.bind_some _ _).symm.trans H; with_reducible exact H2_) | with_reducible exact H | (rw [hy190]; exact H) | exact H
                    have Ny190 := Aside0.mk hy190
                    clear hy190
                    have H' := Aside0.mk H
                    clear H
                    obtain ⟨Ao14, co14, eo14⟩ := Kd.R_slice HO_3.out
                    subst eo14
                    have p185 : 0 ≤ (x5_1 : Int) := of_decide_eq_true (by first | (with_reducible assumption) | assumption)
                    have q185 : x5_1 < (t182.length : Int) := of_decide_eq_true (by first | (with_reducible assumption) | assumption)
                    obtain ⟨ad185, e185, hx185_0⟩ := Kd.at_int (Kd.R_reads' HO_3.out).2.2 x5_1 p185 q185
                    cases e185
                    replace p185 := eq_true p185
                    replace q185 := eq_true q185
                    go_wp2_with (first | ((with_reducible refine gate_callee (f := 53) rfl ?_); refine goesL_ (some 21) rfl rfl Tryd.func53 (by kernel_rfl) rfl #[.slice (some ad185) t182.length co14, .int .i64 x5_1] rfl (by (try simp only [List.map_toArray, List.map_cons, List.map_nil]); first | done | rfl | (simp only [List.length_drop, List.length_take]; rfl)) ?_; (with_reducible refine (quarryref08_begins.calls _ _ t182 x5_1 true _ ?side1 ?side2 A7.out).mono ?_); (case side1 => repeat (first | exact (Kd.R_reads' HO_3.out).2.2 | (with_reducible refine Kd.C_alloc ?_ _) | (with_reducible refine Kd.C_drewN ?_ _) | (with_reducible refine Kd.C_drew ?_))); (case side2 => exact (Kd.R_reads' HO_3.out).2.1); rintro e w' ⟨rfl, ⟨nd, rfl⟩⟩; refine ⟨_, rfl, ?_⟩; (try (rw [drewN_self wr]; generalize hq_ : World.drewN wr _ = wr; have n0_ : Aside0 (Kd.R (Kd.int .i64) 3 wr w.heap.size (fun _ => True) (.slice (some ad185) t182.length co14) t182) := ⟨by rw [← hq_]; exact (by (with_reducible repeat (first | apply Kd.R_alloc | apply Kd.R_drewN | apply Kd.R_drew)); exact HO_3.out)⟩; have n1_ : Aside0 (Kd.R k26 26 wr w.heap.size (fun _ => True) u4 x4_1) := ⟨by rw [← hq_]; exact (by (with_reducible repeat (first | apply Kd.R_alloc | apply Kd.R_drewN | apply Kd.R_drew)); exact HO_4.out)⟩; have n2_ : Aside0 (Below w.heap.size w wr) := ⟨by rw [← hq_]; exact (by repeat (first | (with_reducible first | exact HB.out | apply below_alloc | apply pw_below_drewN | apply below_drew1) | exact HB.out))⟩; clear HO_3 HO_4 HB hq_; have HO_3 := n0_; have HO_4 := n1_; have HB := n2_; clear n0_ n1_ n2_))) | ((with_reducible refine gate_builtin (b := .append) (xs := #[.tmp 22, .tmp 25]) rfl ?_); at_builtin; refine Kd.R_append k26 (w0 := w) w.heap.size rfl (.tmp 22) (.tmp 25) 27 26 (.agg #[(.int .i64 0), (.int .i64 0)]) 16 rfl Tryd.underlying27 info26 rfl (by decide) (by omega) u4 x4_1 (⟨x5_1, 0⟩ : S26) [.int .i64 x5_1, .int .i64 0] (fun _ => True) (fun _ => False) rfl rfl ?aP (fun _ hk => hk.elim) ?aF ?aO ?aB ?aS ?aL ?_; (case aP => exact k26_mkM _ _ _ (⟨x5_1, 0⟩ : S26)); (case aB => exact (by repeat (first | (with_reducible first | exact HB.out | apply below_alloc | apply pw_below_drewN | apply below_drew1) | exact HB.out))); (case aF => exact (fun _ _ => trivial)); (case aO => exact (by (with_reducible repeat (first | apply Kd.R_alloc | apply Kd.R_drewN | apply Kd.R_drew)); exact HO_4.out)); (case aS => exact (below_size (by repeat (first | (with_reducible first | exact HB.out | apply below_alloc | apply pw_below_drewN | apply below_drew1) | exact HB.out)))); (case aL => have := LMc9.out; omega); intro v188 w15 ho hb hg hat; rw [← Ny187.out] at ho; have n0_ := Aside0.mk (Kd.R_over' (by (with_reducible repeat (first | apply Kd.R_alloc | apply Kd.R_drewN | apply Kd.R_drew)); exact HO_3.out) (Kd.R_typed (by (with_reducible repeat (first | apply Kd.R_alloc | apply Kd.R_drewN | apply Kd.R_drew)); exact HO_4.out)) (by decide) hg); have n1_ := Aside0.mk (hb); have n2_ := Aside0.mk (ho); clear HO_3; clear HB; clear HO_4; have HO_3 := n0_; have HB := n1_; have HO189 := n2_; clear n0_ n1_ n2_; clear ho hb hg hat; obtain ⟨Ao16, co16, eo16⟩ := Kd.R_slice HO189.out; subst eo16; have p13 : 0 ≤ ((ji10) : Int) := of_decide_eq_true (by first | (with_reducible assumption) | assumption); have q13 : ((ji10) : Int) < ((y187.length : Int) : Int) := of_decide_eq_true (by first | (with_reducible assumption) | assumption); obtain ⟨go13, co13, eo13, gb13, gl13, cl13, HG13⟩ := Kd.R_form HO189.out (by omega); (first | cases eo13 | (injection eo13 with ea_ en_ ec_; (first | subst ea_ | (injection ea_ with ea_; subst ea_)); subst ec_; clear en_)); have GB13 := Aside0.mk gb13; have GG13 := Aside0.mk HG13; clear gb13 gl13 HG13; obtain ⟨ce13, hcl13, hM13, hcc13, hfr13⟩ := Kd.R_elem HO189.out z26 ((ji10) : Int) p13 q13; obtain rfl := k26_openM hM13; have hx13_0 : w15.cell? ⟨go13, ((ji10) : Int).toNat * 2, none⟩ = some (.int .i64 ((rd_T26 y187 (ji10)).f0)) := hcc13 0 _ rfl; have hx13_1 : w15.cell? ⟨go13, ((ji10) : Int).toNat * 2 + 1, none⟩ = some (.int .i64 ((rd_T26 y187 (ji10)).f1)) := hcc13 1 _ rfl; have hf13_0 : w15.frozen? ⟨go13, ((ji10) : Int).toNat * 2, none⟩ = false := hfr13 0; have hf13_1 : w15.frozen? ⟨go13, ((ji10) : Int).toNat * 2 + 1, none⟩ = false := hfr13 1; clear hcl13 hcc13 hfr13 hM13; replace p13 := eq_true p13; replace q13 := eq_true q13; have HX17 := Aside0.mk (show Kd.R k26 26 w15 w.heap.size (fun _ => True) (.slice (some ⟨go13, 0, none⟩) y187.length co16) y187 from (by (with_reducible repeat (first | apply Kd.R_alloc | apply Kd.R_drewN | apply Kd.R_drew)); exact HO189.out)); obtain ⟨ce17, hcl17, hM17, hcc17, hfr17⟩ := Kd.R_elem HX17.out z26 ((ji10) : Int) (of_decide_eq_true (by first | (with_reducible assumption) | assumption)) (by have h_ : ((ji10) : Int) < ((y187.length : Int) : Int) := of_decide_eq_true (by first | (with_reducible assumption) | assumption); first | exact h_ | (have e_ := (Kd.R_reads' HO189.out).1; omega) | simpa using h_); obtain rfl := k26_openM hM17; have HP17 := Kd.R_seg HX17.out ((ji10) : Int) (of_decide_eq_true (by first | (with_reducible assumption) | assumption)) (by have h_ : ((ji10) : Int) < ((y187.length : Int) : Int) := of_decide_eq_true (by first | (with_reducible assumption) | assumption); first | exact h_ | (have e_ := (Kd.R_reads' HO189.out).1; omega) | simpa using h_) (seg := [.int .i64 (wrap64 (x5_1 + 1))]) (j := 1) hcl17 hcc17 (show 2 ≤ 2 from by decide) (x' := (⟨(rd_T26 y187 (ji10)).f0, wrap64 (x5_1 + 1)⟩ : S26)) (k26_mkM _ _ _ (⟨(rd_T26 y187 (ji10)).f0, wrap64 (x5_1 + 1)⟩ : S26) ) (fun _ hk => hk); have hx17_1 := hcc17 1 _ rfl; (try simp only [show (k26).sz = 2 from rfl, Nat.mul_one, Nat.add_zero] at hx17_1); have hf17_1 := hfr17 1; (try simp only [show (k26).sz = 2 from rfl, Nat.mul_one, Nat.add_zero] at hf17_1); clear hcl17 hcc17 hfr17 hM17) | ((with_reducible refine gate_store (t := 3) (p := 34) rfl ?_); refine store_event (t := 3) (p := 34) (v := ?vo_w18) (w1 := (w15.setCell ⟨go13, ((ji10) : Int).toNat * 2 + 1, none⟩ (.int .i64 (wrap64 (x5_1 + 1))))) ?hg ?ho ?hn ?hr ?_; (case ho => rfl); (case hg => rfl); (case hn => rfl); (case hr => first | (go_simp; done) | (go_simp; rfl)); intro w18 hw; have hg : w15.grownBy w18 (some go13) := (by rw [hw]; exact HP17.2); have hp_ : Kd.R k26 26 w18 w.heap.size (fun _ => True) (.slice (some ⟨go13, 0, none⟩) y187.length co16) y190 := (by rw [hw, Ny190.out]; exact HP17.1); clear HP17; have n0_ := Aside0.mk (Kd.R_over' (v := (.slice (some ⟨go13, 0, none⟩) y187.length co16)) (by (with_reducible repeat (first | apply Kd.R_alloc | apply Kd.R_drewN | apply Kd.R_drew)); exact HO_3.out) (Kd.R_typed HO189.out) (by decide) hg); have n1_ := Aside0.mk (hp_); have n2_ := Aside0.mk ((by rw [hw]; exact below_set (HB.out) GB13.out : Below w.heap.size w w18)); clear HO_3; clear HO189; clear HB; have HO_3 := n0_; have HO189 := n1_; have HB := n2_; clear n0_ n1_ n2_; clear hg hw hp_))
                    go_roundg k1
                    case measure => have := HK1.out; omega
                    case rel => exact ⟨(y190), (wrap64 (x5_1 + 1)), (by first | rfl | (simp; done) | (simp [*]; done)), H', ⟨by have := HK1.out; omega⟩, ⟨by (with_reducible repeat (first | apply Kd.R_alloc | apply Kd.R_drewN | apply Kd.R_drew)); exact HO_3.out⟩, ⟨by (with_reducible repeat (first | apply Kd.R_alloc | apply Kd.R_drewN | apply Kd.R_drew)); exact HO189.out⟩, ⟨by repeat (first | (with_reducible first | exact HB.out | apply below_alloc | apply pw_below_drewN | apply below_drew1) | exact HB.out)⟩⟩
                  · rw [if_neg c12] at H
                    exact absurd H (by simp)
                · rw [if_neg c11] at H
                  exact absurd H (by simp)
              · rw [if_neg c9] at H
                exact absurd H (by simp)
            · replace c8 := Bool.eq_false_iff.mpr c8
              subst c8
              have H1 : (if 0 ≤ (wrap64 ((x4_1.length : Int) - 1)) then (if (wrap64 ((x4_1.length : Int) - 1)) < (x4_1.length : Int) then (quarryref08_Words.l0 k1 t182 (x4_1.set ((wrap64 ((x4_1.length : Int) - 1)) : Int).toNat (⟨(rd_T26 x4_1 (wrap64 ((x4_1.length : Int) - 1))).f0, wrap64 (x5_1 + 1)⟩ : S26)) (wrap64 (x5_1 + 1))) else (none)) else (none)) = some r := by rw [if_neg (show ¬ (false = true) by decide)] at H; exact H
              clear H
              have H := H1
              clear H1
              obtain ⟨ji19, hji19⟩ : ∃ j_ : Int, (wrap64 ((x4_1.length : Int) - 1)) = j_ := ⟨_, rfl⟩
              replace H : (if 0 ≤ (ji19) then (if (ji19) < (x4_1.length : Int) then (quarryref08_Words.l0 k1 t182 (x4_1.set ((ji19) : Int).toNat (⟨(rd_T26 x4_1 (ji19)).f0, wrap64 (x5_1 + 1)⟩ : S26)) (wrap64 (x5_1 + 1))) else (none)) else (none)) = some r := by first | (rw [hji19] at H; exact H) | (simp only [hji19] at H ⊢; exact H)
              (try rw [hji19] at A7)
              have hji19w : (IntKind.i64.wrap ((x4_1.length : Int) - 1)) = ji19 := (i64_w _).trans hji19
              by_cases c20 : 0 ≤ (ji19)
              · rw [if_pos c20] at H
                have c20b0 : decide (0 ≤ (ji19)) = true := decide_eq_true c20
                clear c20
                by_cases c21 : (ji19) < (x4_1.length : Int)
                · rw [if_pos c21] at H
                  have c21b0 : decide ((ji19) < (x4_1.length : Int)) = true := decide_eq_true c21
                  clear c21
                  obtain ⟨y191, hy191⟩ : ∃ y_ : List (S26), y_ = (x4_1.set ((ji19) : Int).toNat (⟨(rd_T26 x4_1 (ji19)).f0, wrap64 (x5_1 + 1)⟩ : S26)) := ⟨_, rfl⟩
                  replace H : (quarryref08_Words.l0 k1 t182 y191 (wrap64 (x5_1 + 1))) = some r := by first | (rw [hy191]; with_reducible exact H) | (have H2_ := (Option.bind_some _ _).symm.trans H; rw [hy191]; with_reducible exact H2_) | (have H2_ := (Option.bind_some _ _).symm.trans H; with_reducible exact H2_) | with_reducible exact H | (rw [hy191]; exact H) | exact H
                  have Ny191 := Aside0.mk hy191
                  clear hy191
                  have H' := Aside0.mk H
                  clear H
                  obtain ⟨Ao23, co23, eo23⟩ := Kd.R_slice HO_3.out
                  subst eo23
                  have p185 : 0 ≤ (x5_1 : Int) := of_decide_eq_true (by first | (with_reducible assumption) | assumption)
                  have q185 : x5_1 < (t182.length : Int) := of_decide_eq_true (by first | (with_reducible assumption) | assumption)
                  obtain ⟨ad185, e185, hx185_0⟩ := Kd.at_int (Kd.R_reads' HO_3.out).2.2 x5_1 p185 q185
                  cases e185
                  replace p185 := eq_true p185
                  replace q185 := eq_true q185
                  go_wp2_with (first | ((with_reducible refine gate_callee (f := 53) rfl ?_); refine goesL_ (some 21) rfl rfl Tryd.func53 (by kernel_rfl) rfl #[.slice (some ad185) t182.length co23, .int .i64 x5_1] rfl (by (try simp only [List.map_toArray, List.map_cons, List.map_nil]); first | done | rfl | (simp only [List.length_drop, List.length_take]; rfl)) ?_; (with_reducible refine (quarryref08_begins.calls _ _ t182 x5_1 false _ ?side1 ?side2 A7.out).mono ?_); (case side1 => repeat (first | exact (Kd.R_reads' HO_3.out).2.2 | (with_reducible refine Kd.C_alloc ?_ _) | (with_reducible refine Kd.C_drewN ?_ _) | (with_reducible refine Kd.C_drew ?_))); (case side2 => exact (Kd.R_reads' HO_3.out).2.1); rintro e w' ⟨rfl, ⟨nd, rfl⟩⟩; refine ⟨_, rfl, ?_⟩; (try (rw [drewN_self wr]; generalize hq_ : World.drewN wr _ = wr; have n0_ : Aside0 (Kd.R (Kd.int .i64) 3 wr w.heap.size (fun _ => True) (.slice (some ad185) t182.length co23) t182) := ⟨by rw [← hq_]; exact (by (with_reducible repeat (first | apply Kd.R_alloc | apply Kd.R_drewN | apply Kd.R_drew)); exact HO_3.out)⟩; have n1_ : Aside0 (Kd.R k26 26 wr w.heap.size (fun _ => True) u4 x4_1) := ⟨by rw [← hq_]; exact (by (with_reducible repeat (first | apply Kd.R_alloc | apply Kd.R_drewN | apply Kd.R_drew)); exact HO_4.out)⟩; have n2_ : Aside0 (Below w.heap.size w wr) := ⟨by rw [← hq_]; exact (by repeat (first | (with_reducible first | exact HB.out | apply below_alloc | apply pw_below_drewN | apply below_drew1) | exact HB.out))⟩; clear HO_3 HO_4 HB hq_; have HO_3 := n0_; have HO_4 := n1_; have HB := n2_; clear n0_ n1_ n2_)); obtain ⟨Ao24, co24, eo24⟩ := Kd.R_slice HO_4.out; subst eo24; have p22 : 0 ≤ ((ji19) : Int) := of_decide_eq_true (by first | (with_reducible assumption) | assumption); have q22 : ((ji19) : Int) < ((x4_1.length : Int) : Int) := of_decide_eq_true (by first | (with_reducible assumption) | assumption); obtain ⟨go22, co22, eo22, gb22, gl22, cl22, HG22⟩ := Kd.R_form HO_4.out (by omega); (first | cases eo22 | (injection eo22 with ea_ en_ ec_; (first | subst ea_ | (injection ea_ with ea_; subst ea_)); subst ec_; clear en_)); have GB22 := Aside0.mk gb22; have GG22 := Aside0.mk HG22; clear gb22 gl22 HG22; obtain ⟨ce22, hcl22, hM22, hcc22, hfr22⟩ := Kd.R_elem HO_4.out z26 ((ji19) : Int) p22 q22; obtain rfl := k26_openM hM22; have hx22_0 : wr.cell? ⟨go22, ((ji19) : Int).toNat * 2, none⟩ = some (.int .i64 ((rd_T26 x4_1 (ji19)).f0)) := hcc22 0 _ rfl; have hx22_1 : wr.cell? ⟨go22, ((ji19) : Int).toNat * 2 + 1, none⟩ = some (.int .i64 ((rd_T26 x4_1 (ji19)).f1)) := hcc22 1 _ rfl; have hf22_0 : wr.frozen? ⟨go22, ((ji19) : Int).toNat * 2, none⟩ = false := hfr22 0; have hf22_1 : wr.frozen? ⟨go22, ((ji19) : Int).toNat * 2 + 1, none⟩ = false := hfr22 1; clear hcl22 hcc22 hfr22 hM22; replace p22 := eq_true p22; replace q22 := eq_true q22; have HX25 := Aside0.mk (show Kd.R k26 26 wr w.heap.size (fun _ => True) (.slice (some ⟨go22, 0, none⟩) x4_1.length co24) x4_1 from (by (with_reducible repeat (first | apply Kd.R_alloc | apply Kd.R_drewN | apply Kd.R_drew)); exact HO_4.out)); obtain ⟨ce25, hcl25, hM25, hcc25, hfr25⟩ := Kd.R_elem HX25.out z26 ((ji19) : Int) (of_decide_eq_true (by first | (with_reducible assumption) | assumption)) (by have h_ : ((ji19) : Int) < ((x4_1.length : Int) : Int) := of_decide_eq_true (by first | (with_reducible assumption) | assumption); first | exact h_ | (have e_ := (Kd.R_reads' HO_4.out).1; omega) | simpa using h_); obtain rfl := k26_openM hM25; have HP25 := Kd.R_seg HX25.out ((ji19) : Int) (of_decide_eq_true (by first | (with_reducible assumption) | assumption)) (by have h_ : ((ji19) : Int) < ((x4_1.length : Int) : Int) := of_decide_eq_true (by first | (with_reducible assumption) | assumption); first | exact h_ | (have e_ := (Kd.R_reads' HO_4.out).1; omega) | simpa using h_) (seg := [.int .i64 (wrap64 (x5_1 + 1))]) (j := 1) hcl25 hcc25 (show 2 ≤ 2 from by decide) (x' := (⟨(rd_T26 x4_1 (ji19)).f0, wrap64 (x5_1 + 1)⟩ : S26)) (k26_mkM _ _ _ (⟨(rd_T26 x4_1 (ji19)).f0, wrap64 (x5_1 + 1)⟩ : S26) ) (fun _ hk => hk); have hx25_1 := hcc25 1 _ rfl; (try simp only [show (k26).sz = 2 from rfl, Nat.mul_one, Nat.add_zero] at hx25_1); have hf25_1 := hfr25 1; (try simp only [show (k26).sz = 2 from rfl, Nat.mul_one, Nat.add_zero] at hf25_1); clear hcl25 hcc25 hfr25 hM25) | ((with_reducible refine gate_store (t := 3) (p := 34) rfl ?_); refine store_event (t := 3) (p := 34) (v := ?vo_w26) (w1 := (wr.setCell ⟨go22, ((ji19) : Int).toNat * 2 + 1, none⟩ (.int .i64 (wrap64 (x5_1 + 1))))) ?hg ?ho ?hn ?hr ?_; (case ho => rfl); (case hg => rfl); (case hn => rfl); (case hr => first | (go_simp; done) | (go_simp; rfl)); intro w26 hw; have hg : wr.grownBy w26 (some go22) := (by rw [hw]; exact HP25.2); have hp_ : Kd.R k26 26 w26 w.heap.size (fun _ => True) (.slice (some ⟨go22, 0, none⟩) x4_1.length co24) y191 := (by rw [hw, Ny191.out]; exact HP25.1); clear HP25; have n0_ := Aside0.mk (Kd.R_over' (v := (.slice (some ⟨go22, 0, none⟩) x4_1.length co24)) (by (with_reducible repeat (first | apply Kd.R_alloc | apply Kd.R_drewN | apply Kd.R_drew)); exact HO_3.out) (Kd.R_typed HO_4.out) (by decide) hg); have n1_ := Aside0.mk (hp_); have n2_ := Aside0.mk ((by rw [hw]; exact below_set (HB.out) GB22.out : Below w.heap.size w w26)); clear HO_3; clear HO_4; clear HB; have HO_3 := n0_; have HO_4 := n1_; have HB := n2_; clear n0_ n1_ n2_; clear hg hw hp_))
                  go_roundg k1
                  case measure => have := HK1.out; omega
                  case rel => exact ⟨(y191), (wrap64 (x5_1 + 1)), (by first | rfl | (simp; done) | (simp [*]; done)), H', ⟨by have := HK1.out; omega⟩, ⟨by (with_reducible repeat (first | apply Kd.R_alloc | apply Kd.R_drewN | apply Kd.R_drew)); exact HO_3.out⟩, ⟨by (with_reducible repeat (first | apply Kd.R_alloc | apply Kd.R_drewN | apply Kd.R_drew)); exact HO_4.out⟩, ⟨by repeat (first | (with_reducible first | exact HB.out | apply below_alloc | apply pw_below_drewN | apply below_drew1) | exact HB.out)⟩⟩
                · rw [if_neg c21] at H
                  exact absurd H (by simp)
              · rw [if_neg c20] at H
                exact absurd H (by simp)
          · rw [if_neg c6] at H
            have c6b0 : ((rd t182 x5_1) == 6) = false := beq_eq_false_iff_ne.mpr c6
            have c6b1 : ((rd t182 x5_1) != 6) = true := bne_iff_ne.mpr c6
            have H' := Aside0.mk H
            clear H
            obtain ⟨Ao27, co27, eo27⟩ := Kd.R_slice HO_3.out
            subst eo27
            have p185 : 0 ≤ (x5_1 : Int) := of_decide_eq_true (by first | (with_reducible assumption) | assumption)
            have q185 : x5_1 < (t182.length : Int) := of_decide_eq_true (by first | (with_reducible assumption) | assumption)
            obtain ⟨ad185, e185, hx185_0⟩ := Kd.at_int (Kd.R_reads' HO_3.out).2.2 x5_1 p185 q185
            cases e185
            replace p185 := eq_true p185
            replace q185 := eq_true q185
            go_wp2
            go_roundg k1
            case measure => have := HK1.out; omega
            case rel => exact ⟨(x4_1), (wrap64 (x5_1 + 1)), (by first | rfl | (simp; done) | (simp [*]; done)), H', ⟨by have := HK1.out; omega⟩, ⟨by (with_reducible repeat (first | apply Kd.R_alloc | apply Kd.R_drewN | apply Kd.R_drew)); exact HO_3.out⟩, ⟨by (with_reducible repeat (first | apply Kd.R_alloc | apply Kd.R_drewN | apply Kd.R_drew)); exact HO_4.out⟩, ⟨by repeat (first | (with_reducible first | exact HB.out | apply below_alloc | apply pw_below_drewN | apply below_drew1) | exact HB.out)⟩⟩
        · rw [if_neg c5] at H
          exact absurd H (by simp)
      · rw [if_neg c4] at H
        have c4b0 : decide (x5_1 < (t182.length : Int)) = false := decide_eq_false c4
        clear c4
        obtain rfl := Option.some.inj H
        obtain ⟨Ao28, co28, eo28⟩ := Kd.R_slice HO_3.out
        subst eo28
        go_wp2
        go_ret
        exact ⟨_, by first | rfl | (simp [errW_none, errW_some] <;> rfl) | (simp [*, errW_none, errW_some] <;> rfl), by (with_reducible repeat (first | apply Kd.R_alloc | apply Kd.R_drewN | apply Kd.R_drew)); exact HO_4.out, by repeat (first | (with_reducible first | exact HB.out | apply below_alloc | apply pw_below_drewN | apply below_drew1) | exact HB.out)⟩

section
open Go.Proofs.YtgddljealeklkaaDoorQ Go.Proofs.YtgddljealeklkaaDoorM Go.Shelf
open Go.Proofs.YtgddljealeklkaaDoorW.PrintWords
namespace MwF
theorem div_step (v : BitVec 64) (d : Nat) : v.toNat / 2 ^ d = 2 * (v.toNat / 2 ^ (d + 1)) + (if v.getLsbD d = true then 1 else 0) := by
  have h1 : v.toNat / 2 ^ (d + 1) = v.toNat / 2 ^ d / 2 := by rw [Nat.pow_succ, Nat.div_div_eq_div_mul]
  have h2 : v.getLsbD d = decide (v.toNat / 2 ^ d % 2 = 1) := by
    show v.toNat.testBit d = _
    rw [Nat.testBit_eq_decide_div_mod_eq]
  rw [h1, h2]
  by_cases h : v.toNat / 2 ^ d % 2 = 1
  · rw [decide_eq_true h, if_pos rfl]; omega
  · rw [decide_eq_false h, if_neg (by decide)]; omega
theorem need_eq (n : Nat) (h : n ≤ 140737488355328) : quarryref04_need.f (n : Int) = some ((nwords n : Nat) : Int) := by
  unfold quarryref04_need.f
  have e1 : Int.tmod (n : Int) 64 = ((n % 64 : Nat) : Int) := rfl
  have e2 : Int.tdiv (n : Int) 64 = ((n / 64 : Nat) : Int) := rfl
  have e3 : wrap64 ((n / 64 : Nat) : Int) = ((n / 64 : Nat) : Int) := by unfold wrap64; omega
  rw [e1, e2, e3]
  have e4 : wrap64 (((n / 64 : Nat) : Int) + 1) = ((n / 64 : Nat) : Int) + 1 := by unfold wrap64; omega
  rw [e4]
  unfold nwords
  by_cases h : n % 64 = 0
  · rw [if_pos (by omega)]; congr 1; omega
  · rw [if_neg (by omega)]; congr 1; omega
theorem of_inner (l : List Bool) (w : Nat) (hw : w ≤ 2199023255552) (z : Int) (ws : List Int) (hs : ws.length < 17592186044416) :
    ∀ (d k : Nat), d ≤ 64 → quarryref04_Of.l1 (k + d + 1) l (w : Int) (((wordAt l.length (fun i => l.getD i false) w).toNat / 2 ^ d : Nat) : Int) ((d : Int) - 1) z ws =
      quarryref04_Of.l0 k l ((w + 1 : Nat) : Int) z (ws ++ [iv (wordAt l.length (fun i => l.getD i false) w)]) := by
  intro d
  induction d with
  | zero =>
    intro k hd
    have e : wrap64 ((w : Int) + 1) = ((w + 1 : Nat) : Int) := by unfold wrap64; omega
    unfold quarryref04_Of.l1
    rw [if_neg (by omega), if_pos hs, e, Nat.pow_zero, Nat.div_one]
    rfl
  | succ d ih =>
    intro k hd
    have e0 : wrap64 (64 * (w : Int)) = 64 * (w : Int) := by unfold wrap64; omega
    have e1 : wrap64 (64 * (w : Int) + (((d + 1 : Nat) : Int) - 1)) = ((64 * w + d : Nat) : Int) := by unfold wrap64; omega
    have e2 : wrap64 ((((d + 1 : Nat) : Int) - 1) - 1) = (d : Int) - 1 := by unfold wrap64; omega
    have hst := div_step (wordAt l.length (fun i => l.getD i false) w) d
    have hlt : (wordAt l.length (fun i => l.getD i false) w).toNat / 2 ^ d < 18446744073709551616 := Nat.lt_of_le_of_lt (Nat.div_le_self _ _) (wordAt l.length (fun i => l.getD i false) w).isLt
    have hbit : (wordAt l.length (fun i => l.getD i false) w).getLsbD d = (decide (64 * w + d < l.length) && l.getD (64 * w + d) false) := by
      unfold wordAt
      rw [word_bit]
      simp [show d < 64 by omega]
    have hi := ih k (by omega)
    rw [hbit] at hst
    generalize (wordAt l.length (fun i => l.getD i false) w).toNat / 2 ^ d = X at hst hlt hi ⊢
    generalize (wordAt l.length (fun i => l.getD i false) w).toNat / 2 ^ (d + 1) = Y at hst ⊢
    have er : rdOf false l ((64 * w + d : Nat) : Int) = l.getD (64 * w + d) false := by unfold rdOf; rw [Int.toNat_natCast]
    show quarryref04_Of.l1 ((k + d + 1) + 1) l _ _ _ z ws = _
    unfold quarryref04_Of.l1
    rw [if_pos (by omega), e0, e1, e2, er]
    by_cases h : 64 * w + d < l.length
    · rw [if_pos (by omega), if_pos (by omega)]
      rw [decide_eq_true h, Bool.true_and] at hst
      by_cases g : l.getD (64 * w + d) false = true
      · rw [if_pos g] at hst ⊢
        have e3 : IntKind.u64.wrap (IntKind.u64.wrap (2 * (Y : Int)) + 1) = (X : Int) := by rw [IntKind.wrap_u64, IntKind.wrap_u64]; omega
        rw [e3]
        exact hi
      · rw [if_neg g] at hst ⊢
        have e3 : IntKind.u64.wrap (2 * (Y : Int)) = (X : Int) := by rw [IntKind.wrap_u64]; omega
        rw [e3]
        exact hi
    · rw [if_neg (by omega)]
      rw [decide_eq_false h, Bool.false_and, if_neg (by decide)] at hst
      have e3 : IntKind.u64.wrap (2 * (Y : Int)) = (X : Int) := by rw [IntKind.wrap_u64]; omega
      rw [e3]
      exact hi
theorem of_loop (l : List Bool) (hl : l.length ≤ 140737488355328) (z : Int) :
    ∀ (d i k : Nat), i + d = nwords l.length → 66 * d < k → quarryref04_Of.l0 k l (i : Int) z ((List.range i).map fun j => iv (wordAt l.length (fun i => l.getD i false) j)) = some (z, wordsOf l.length fun i => l.getD i false) := by
  have hw : nwords l.length ≤ 2199023255552 := by unfold nwords; omega
  intro d
  induction d with
  | zero =>
    intro i k hi hk
    obtain ⟨k, rfl⟩ : ∃ m, k = m + 1 := ⟨k - 1, by omega⟩
    unfold quarryref04_Of.l0
    rw [need_eq _ hl, Option.bind_some, if_neg (by omega), show i = nwords l.length by omega]
    rfl
  | succ d ih =>
    intro i k hi hk
    obtain ⟨k, rfl⟩ : ∃ m, k = (m + 64 + 1) + 1 := ⟨k - 66, by omega⟩
    unfold quarryref04_Of.l0
    rw [need_eq _ hl, Option.bind_some, if_pos (by omega)]
    have := of_inner l i (by omega) z ((List.range i).map fun j => iv (wordAt l.length (fun i => l.getD i false) j)) (by rw [List.length_map, List.length_range]; omega) 64 k (by omega)
    have e : (wordAt l.length (fun i => l.getD i false) i).toNat / 2 ^ 64 = 0 := Nat.div_eq_of_lt (wordAt l.length (fun i => l.getD i false) i).isLt
    rw [e] at this
    have h2 := ih (i + 1) k (by omega) (by omega)
    rw [List.range_succ, List.map_append] at h2
    exact this.trans h2
/-- The document's Of: the bits of a list, 64 in a word. -/
theorem of_eq (l : List Bool) (hl : l.length ≤ 140737488355328) (k : Nat) (hk : 66 * nwords l.length < k) : quarryref04_Of.f k l = some ((l.length : Int), wordsOf l.length fun i => l.getD i false) := by
  unfold quarryref04_Of.f
  exact of_loop l hl _ (nwords l.length) 0 k (by omega) (by omega)
theorem set_step {α : Type} (n : Nat) (f d : Nat → α) {i : Nat} (h : i < n) : ((List.range n).map fun j => if j < i then f j else d j).set i (f i) = (List.range n).map fun j => if j < i + 1 then f j else d j := by
  apply List.ext_getElem?
  intro j
  rw [List.getElem?_set, List.getElem?_map, List.getElem?_map, List.length_map, List.length_range]
  by_cases hj : j < n
  · rw [List.getElem?_range hj]
    by_cases e : i = j
    · subst e
      rw [if_pos rfl, if_pos hj]
      simp
    · rw [if_neg e]
      by_cases g : j < i
      · simp [g, show j < i + 1 by omega]
      · simp [g, show ¬ j < i + 1 by omega]
  · rw [List.getElem?_eq_none (by rw [List.length_range]; omega), if_neg (by omega)]
    simp
theorem set_done {α : Type} (n : Nat) (f d : Nat → α) : ((List.range n).map fun j => if j < n then f j else d j) = (List.range n).map f := List.map_congr_left fun j hj => if_pos (List.mem_range.1 hj)
theorem w64s (i n : Nat) (h : i < n) (hn : n ≤ 281474976702464) : wrap64 ((i : Int) + 1) = ((i + 1 : Nat) : Int) := by unfold wrap64; omega
theorem marks7_loop (s : ByteArray) (hn : s.size ≤ 140737488351232) :
    ∀ (d i k : Nat), i + d = s.size → d < k → quarryref07_marks.l0 k s ((List.range s.size).map fun j => if j < i then mkq s j else false) (esc s false i) (i : Int) = some ((List.range s.size).map (mkq s)) := by
  intro d
  induction d with
  | zero =>
    intro i k hi hk
    obtain ⟨k, rfl⟩ : ∃ m, k = m + 1 := ⟨k - 1, by omega⟩
    unfold quarryref07_marks.l0
    rw [if_neg (by omega), show i = s.size by omega, set_done]
  | succ d ih =>
    intro i k hi hk
    obtain ⟨k, rfl⟩ : ∃ m, k = m + 1 := ⟨k - 1, by omega⟩
    have h2 := ih (i + 1) k (by omega) (by omega)
    rw [← set_step s.size (mkq s) (fun _ => false) (show i < s.size by omega)] at h2
    have hl : ((List.range s.size).map fun j => if j < i then mkq s j else false).length = s.size := by simp
    unfold quarryref07_marks.l0
    rw [if_pos (by omega), if_pos (by omega), w64s i s.size (by omega) (by omega)]
    have he : ∀ b : Bool, decide (bt s (i : Int) = 34) = b → mkq s i = (b && !esc s false i) := fun b hb => by unfold mkq; rw [hb]
    have hx : esc s false (i + 1) = (decide (bt s (i : Int) = 92) && !esc s false i) := rfl
    by_cases h34 : bt s (i : Int) = 34
    · rw [he true (decide_eq_true h34), Bool.true_and, hx, decide_eq_false (by omega), Bool.false_and] at h2
      rw [if_pos h34, if_pos (by rw [hl]; omega), Option.bind_some, Int.toNat_natCast, if_neg (by omega)]
      exact h2
    · rw [he false (decide_eq_false h34), Bool.false_and, hx] at h2
      rw [if_neg h34, if_pos (by rw [hl]; omega), Option.bind_some, Int.toNat_natCast]
      by_cases h92 : bt s (i : Int) = 92
      · rw [decide_eq_true h92, Bool.true_and] at h2
        rw [if_pos h92]
        exact h2
      · rw [decide_eq_false h92, Bool.false_and] at h2
        rw [if_neg h92]
        exact h2
theorem marks7_eq (s : ByteArray) (hn : s.size ≤ 140737488351232) (k : Nat) (hk : s.size < k) : quarryref07_marks.f k s = some ((List.range s.size).map (mkq s)) := by
  have h := marks7_loop s hn s.size 0 k (by omega) hk
  unfold quarryref07_marks.f
  rw [if_pos (by omega), Int.toNat_natCast, if_pos (by omega)]
  have e : ((List.range s.size).map fun j => if j < 0 then mkq s j else false) = List.replicate s.size false := by
    apply List.ext_getElem? 
    intro j
    rw [List.getElem?_map, List.getElem?_replicate]
    by_cases hj : j < s.size
    · rw [List.getElem?_range hj, if_pos hj]
      simp
    · rw [List.getElem?_eq_none (by rw [List.length_range]; omega), if_neg hj]
      rfl
  rw [e] at h
  exact h
theorem inside7_loop (s : ByteArray) (hn : s.size ≤ 140737488351232) :
    ∀ (d i k : Nat), i + d = s.size → d < k → quarryref07_inside.l0 k ((List.range s.size).map fun j => if j < i then insS s j else mkq s j) (par (mkq s) i) (i : Int) = some ((List.range s.size).map (insS s)) := by
  intro d
  induction d with
  | zero =>
    intro i k hi hk
    obtain ⟨k, rfl⟩ : ∃ m, k = m + 1 := ⟨k - 1, by omega⟩
    unfold quarryref07_inside.l0
    rw [if_neg (by simp; omega), show i = s.size by omega, set_done]
  | succ d ih =>
    intro i k hi hk
    obtain ⟨k, rfl⟩ : ∃ m, k = m + 1 := ⟨k - 1, by omega⟩
    have h2 := ih (i + 1) k (by omega) (by omega)
    rw [← set_step s.size (insS s) (mkq s) (show i < s.size by omega)] at h2
    have hr : rdOf false ((List.range s.size).map fun j => if j < i then insS s j else mkq s j) (i : Int) = mkq s i := by
      unfold rdOf
      rw [Int.toNat_natCast, List.getD_eq_getElem?_getD, List.getElem?_map, List.getElem?_range (by omega)]
      simp
    have hi1 : insS s i = (par (mkq s) i ^^ mkq s i) := rfl
    have hp : par (mkq s) (i + 1) = (par (mkq s) i ^^ mkq s i) := rfl
    unfold quarryref07_inside.l0
    rw [if_pos (by simp; omega), if_pos (by omega), w64s i s.size (by omega) (by omega), hr, Int.toNat_natCast]
    rw [hi1, hp] at h2
    cases h : mkq s i
    · rw [h, Bool.xor_false] at h2
      rw [if_neg (by decide)]
      exact h2
    · rw [h, Bool.xor_true] at h2
      rw [if_pos rfl]
      exact h2
theorem inside7_eq (s : ByteArray) (hn : s.size ≤ 140737488351232) (k : Nat) (hk : s.size < k) : quarryref07_inside.f k s = some ((List.range s.size).map (insS s)) := by
  have h := inside7_loop s hn s.size 0 k (by omega) hk
  unfold quarryref07_inside.f
  rw [marks7_eq s hn k hk, Option.bind_some]
  exact h
theorem of_map (n : Nat) (q : Nat → Bool) : (wordsOf n fun i => ((List.range n).map q).getD i false) = wordsOf n q := wordsOf_ext fun i hi => by
  rw [List.getD_eq_getElem?_getD, List.getElem?_map, List.getElem?_range hi]
  rfl
theorem Marks7_eq (s : ByteArray) (hn : s.size ≤ 140737488351232) (k : Nat) (hk : 67 * s.size + 67 < k) : quarryref07_Marks.f k s = some ((s.size : Int), wordsOf s.size (mkq s)) := by
  have hw : nwords s.size ≤ s.size + 1 := by unfold nwords; omega
  unfold quarryref07_Marks.f
  rw [marks7_eq s hn k (by omega), Option.bind_some, of_eq _ (by rw [List.length_map, List.length_range]; omega) k (by rw [List.length_map, List.length_range]; omega), Option.bind_some, List.length_map, List.length_range, of_map]
theorem Inside7_eq (s : ByteArray) (hn : s.size ≤ 140737488351232) (k : Nat) (hk : 67 * s.size + 67 < k) : quarryref07_Inside.f k s = some ((s.size : Int), wordsOf s.size (insS s)) := by
  have hw : nwords s.size ≤ s.size + 1 := by unfold nwords; omega
  unfold quarryref07_Inside.f
  rw [inside7_eq s hn k (by omega), Option.bind_some, of_eq _ (by rw [List.length_map, List.length_range]; omega) k (by rw [List.length_map, List.length_range]; omega), Option.bind_some, List.length_map, List.length_range, of_map]
theorem rd_words (n : Nat) (p : Nat → Bool) (k : Nat) (h : k < nwords n) : rd (wordsOf n p) (k : Int) = iv (wordAt n p k) := by
  unfold rd
  rw [Int.toNat_natCast]
  exact wordsOf_get n p k h
theorem bit_of (n : Nat) (p : Nat → Bool) {i : Nat} (hi : i < n) : (bits .and .u64 (shr .u64 (iv (wordAt n p (i / 64))) ((i % 64 : Nat) : Int)) 1 == 1) = p i := by
  have es : shr .u64 (iv (wordAt n p (i / 64))) ((i % 64 : Nat) : Int) = iv (wordAt n p (i / 64)) / 2 ^ (i % 64) := by
    unfold shr
    rw [Int.toNat_natCast, Nat.min_eq_left (by show i % 64 ≤ 64; omega)]
  rw [es, wordAt, bit_at _ (Nat.mod_lt _ (by decide)), show 64 * (i / 64) + i % 64 = i by omega, decide_eq_true hi, Bool.true_and]
theorem u64w (i : Nat) : IntKind.u64.wrap ((i % 64 : Nat) : Int) = ((i % 64 : Nat) : Int) := by
  rw [wrap_nat, Nat.mod_eq_of_lt (by omega)]
theorem set8_eq (z : Int) (n : Nat) (p : Nat → Bool) (hn : n ≤ 281474976702464) (i : Nat) (hi : i < n) : quarryref08_set.f z (wordsOf n p) (i : Int) = some (p i) := by
  have e1 : Int.tmod (i : Int) 64 = ((i % 64 : Nat) : Int) := rfl
  have e2 : Int.tdiv (i : Int) 64 = ((i / 64 : Nat) : Int) := rfl
  have e3 : wrap64 ((i / 64 : Nat) : Int) = ((i / 64 : Nat) : Int) := by unfold wrap64; omega
  have hw : nwords n = (n + 63) / 64 := rfl
  unfold quarryref08_set.f
  rw [e1, e2, e3, u64w, if_pos (by omega), if_pos (by rw [wordsOf_length]; omega), if_pos (by omega), rd_words n p _ (by omega), bit_of n p hi]
/-- What a byte is. -/
def kindB (s : ByteArray) (i : Nat) : Int := if mkq s i && insS s i then 3 else if mkq s i then 4 else if insS s i then 5 else if sgx (bt s (i : Int)).toNat then 1 else if blx (bt s (i : Int)).toNat then 2 else 6
theorem sgx_int {b : Int} (h : 0 ≤ b ∧ b ≤ 255) : sgx b.toNat = (b == 123 || b == 125 || b == 91 || b == 93 || b == 58 || b == 44) := by
  obtain ⟨n, rfl⟩ : ∃ n : Nat, b = n := ⟨b.toNat, by omega⟩
  rw [Int.toNat_natCast]
  unfold sgx
  rw [Bool.eq_iff_iff]
  simp only [Bool.or_eq_true, beq_iff_eq]
  omega
theorem blx_int {b : Int} (h : 0 ≤ b ∧ b ≤ 255) : blx b.toNat = (b == 32 || b == 9 || b == 10 || b == 13) := by
  obtain ⟨n, rfl⟩ : ∃ n : Nat, b = n := ⟨b.toNat, by omega⟩
  rw [Int.toNat_natCast]
  unfold blx
  rw [Bool.eq_iff_iff]
  simp only [Bool.or_eq_true, beq_iff_eq]
  omega
theorem bytes_end (s : ByteArray) (hn : s.size ≤ 140737488351232) (i k : Nat) (hi : i < s.size) (z1 z2 : Int) (m1 m2 : List Int) (v : Int) (hv : kindB s i = v)
    (R : Option (List Int)) (h : quarryref08_Bytes.l0 k s ((List.range (i + 1)).map (kindB s)) ((i + 1 : Nat) : Int) z1 m1 z2 m2 = R) :
    (if ((List.range i).map (kindB s)).length < 17592186044416 then quarryref08_Bytes.l0 k s ((List.range i).map (kindB s) ++ [v]) (wrap64 ((i : Int) + 1)) z1 m1 z2 m2 else none) = R ∨ 17592186044416 ≤ i := by
  by_cases g : i < 17592186044416
  · left
    rw [if_pos (by rw [List.length_map, List.length_range]; exact g), w64s i s.size hi (by omega), ← hv]
    rw [List.range_succ, List.map_append] at h
    exact h
  · exact .inr (by omega)
theorem bytes_step2 (s : ByteArray) (i k : Nat) (z1 z2 : Int) (m1 m2 : List Int) (R : Option (List Int))
    (h : ∀ v, kindB s i = v → (if ((List.range i).map (kindB s)).length < 17592186044416 then quarryref08_Bytes.l0 k s ((List.range i).map (kindB s) ++ [v]) (wrap64 ((i : Int) + 1)) z1 m1 z2 m2 else none) = R)
    (h0 : mkq s i = false) (h1 : insS s i = false) (x : Bool) (hx : x = sgx (bt s (i : Int)).toNat) :
    quarryref08_Bytes.j2 (k + 1) s ((List.range i).map (kindB s)) (i : Int) (bt s (i : Int)) x z1 m1 z2 m2 = R := by
  have hb := blx_int (bt_range s (i : Int))
  unfold quarryref08_Bytes.j2
  cases hx1 : x with
  | true =>
    rw [if_pos rfl]
    exact h 1 (by unfold kindB; rw [h0, h1, ← hx, hx1]; rfl)
  | false =>
    rw [if_neg (by decide)]
    have hk : kindB s i = if blx (bt s (i : Int)).toNat then 2 else 6 := by unfold kindB; rw [h0, h1, ← hx, hx1]; rfl
    by_cases g1 : bt s (i : Int) = 32
    · rw [if_pos g1]; exact h 2 (by rw [hk, hb, g1]; rfl)
    rw [if_neg g1]
    by_cases g2 : bt s (i : Int) = 9
    · rw [if_pos g2]; exact h 2 (by rw [hk, hb, g2]; rfl)
    rw [if_neg g2]
    by_cases g3 : bt s (i : Int) = 10
    · rw [if_pos g3]; exact h 2 (by rw [hk, hb, g3]; rfl)
    rw [if_neg g3]
    by_cases g4 : bt s (i : Int) = 13
    · rw [if_pos g4]; exact h 2 (by rw [hk, hb, g4]; rfl)
    rw [if_neg g4]
    exact h 6 (by rw [hk, hb]; simp [g1, g2, g3, g4])
theorem bytes_step1 (s : ByteArray) (hn : s.size ≤ 140737488351232) (i k : Nat) (hi : i < s.size) (z1 z2 : Int) (R : Option (List Int)) (q : Bool) (hq : q = (mkq s i && insS s i))
    (h : ∀ k' v, k' = k ∨ k' = k + 1 → kindB s i = v → (if ((List.range i).map (kindB s)).length < 17592186044416 then quarryref08_Bytes.l0 k' s ((List.range i).map (kindB s) ++ [v]) (wrap64 ((i : Int) + 1)) z1 (wordsOf s.size (mkq s)) z2 (wordsOf s.size (insS s)) else none) = R) :
    quarryref08_Bytes.j1 (k + 2) s ((List.range i).map (kindB s)) (i : Int) (bt s (i : Int)) q z1 (wordsOf s.size (mkq s)) z2 (wordsOf s.size (insS s)) = R := by
  have hs := sgx_int (bt_range s (i : Int))
  unfold quarryref08_Bytes.j1
  cases hq1 : q with
  | true =>
    rw [if_pos rfl]
    exact h _ 3 (.inr rfl) (by unfold kindB; rw [← hq, hq1]; rfl)
  | false =>
    rw [if_neg (by decide), set8_eq _ _ _ (by omega) i hi, Option.bind_some]
    have hk : kindB s i = if mkq s i then 4 else if insS s i then 5 else if sgx (bt s (i : Int)).toNat then 1 else if blx (bt s (i : Int)).toNat then 2 else 6 := by unfold kindB; rw [← hq, hq1]; rfl
    by_cases hm : mkq s i = true
    · rw [if_pos hm]
      exact h _ 4 (.inr rfl) (by rw [hk, hm]; rfl)
    have hm0 : mkq s i = false := by simpa using hm
    rw [if_neg hm, set8_eq _ _ _ (by omega) i hi, Option.bind_some]
    by_cases hin : insS s i = true
    · rw [if_pos hin]
      exact h _ 5 (.inr rfl) (by rw [hk, hm0, hin]; rfl)
    have hin0 : insS s i = false := by simpa using hin
    rw [if_neg hin]
    have st := bytes_step2 s i k z1 z2 (wordsOf s.size (mkq s)) (wordsOf s.size (insS s)) R (fun v hv => h _ v (.inl rfl) hv) hm0 hin0
    by_cases g1 : bt s (i : Int) = 123
    · rw [if_pos g1]; exact st true (by rw [hs, g1]; rfl)
    rw [if_neg g1]
    by_cases g2 : bt s (i : Int) = 125
    · rw [if_pos g2]; exact st true (by rw [hs, g2]; rfl)
    rw [if_neg g2]
    by_cases g3 : bt s (i : Int) = 91
    · rw [if_pos g3]; exact st true (by rw [hs, g3]; rfl)
    rw [if_neg g3]
    by_cases g4 : bt s (i : Int) = 93
    · rw [if_pos g4]; exact st true (by rw [hs, g4]; rfl)
    rw [if_neg g4]
    by_cases g5 : bt s (i : Int) = 58
    · rw [if_pos g5]; exact st true (by rw [hs, g5]; rfl)
    rw [if_neg g5]
    exact st _ (by rw [hs]; simp [g1, g2, g3, g4, g5])
theorem bytes_loop (s : ByteArray) (hn : s.size ≤ 17592186044416) (z1 z2 : Int) :
    ∀ (d i k : Nat), i + d = s.size → 3 * d < k → quarryref08_Bytes.l0 k s ((List.range i).map (kindB s)) (i : Int) z1 (wordsOf s.size (mkq s)) z2 (wordsOf s.size (insS s)) = some ((List.range s.size).map (kindB s)) := by
  intro d
  induction d with
  | zero =>
    intro i k hi hk
    obtain ⟨k, rfl⟩ : ∃ m, k = m + 1 := ⟨k - 1, by omega⟩
    unfold quarryref08_Bytes.l0
    rw [if_neg (by omega), show i = s.size by omega]
  | succ d ih =>
    intro i k hi hk
    obtain ⟨k, rfl⟩ : ∃ m, k = (m + 2) + 1 := ⟨k - 3, by omega⟩
    have hend : ∀ k' v, k' = k ∨ k' = k + 1 → kindB s i = v → (if ((List.range i).map (kindB s)).length < 17592186044416 then quarryref08_Bytes.l0 k' s ((List.range i).map (kindB s) ++ [v]) (wrap64 ((i : Int) + 1)) z1 (wordsOf s.size (mkq s)) z2 (wordsOf s.size (insS s)) else none) = some ((List.range s.size).map (kindB s)) := fun k' v hk' hv => by
      rcases bytes_end s (by omega) i k' (by omega) z1 z2 _ _ v hv _ (ih (i + 1) k' (by omega) (by omega)) with h | h
      · exact h
      · omega
    unfold quarryref08_Bytes.l0
    rw [if_pos (by omega), if_pos (by omega), set8_eq _ _ _ (by omega) i (by omega), Option.bind_some]
    by_cases hm : mkq s i = true
    · rw [if_pos hm, set8_eq _ _ _ (by omega) i (by omega), Option.bind_some]
      exact bytes_step1 s (by omega) i k (by omega) z1 z2 _ _ (by rw [hm, Bool.true_and]) hend
    · rw [if_neg hm]
      exact bytes_step1 s (by omega) i k (by omega) z1 z2 _ _ (by simp [hm]) hend
theorem bytes_eq (s : ByteArray) (hn : s.size ≤ 17592186044416) (k : Nat) (hk : 67 * s.size + 67 < k) : quarryref08_Bytes.f k s = some ((List.range s.size).map (kindB s)) := by
  unfold quarryref08_Bytes.f
  rw [Marks7_eq s (by omega) k hk, Option.bind_some, Inside7_eq s (by omega) k hk, Option.bind_some]
  exact bytes_loop s hn _ _ s.size 0 k (by omega) (by omega)
theorem kb_wd (s : ByteArray) (i : Nat) : wdq s i = decide (kindB s i = 6) := by
  unfold wdq sgq blq kindB outq
  cases hm : mkq s i <;> cases hn : insS s i <;> cases hs : sgx (bt s (i : Int)).toNat <;> cases hb : blx (bt s (i : Int)).toNat <;> simp
def opn : Option Nat → Nat → List (Nat × Nat)
  | none, _ => []
  | some f, p => [(f, p)]
theorem spW_zero (W : Nat → Bool) (o : Option Nat) (p : Nat) : spW W 0 o p = opn o p := by cases o <;> rfl
theorem spW_one (W : Nat → Bool) (m : Nat) (o : Option Nat) (p : Nat) : spW W (m + 1) o p = if W p then spW W m (some (o.getD p)) (p + 1) else opn o p ++ spW W m none (p + 1) := by cases o <;> rfl
def spanS (x : Nat × Nat) : S26 := ⟨(x.1 : Int), (x.2 : Int)⟩
theorem set_last30 (L : List S26) (x y : S26) (h : L.length < 1099511627776) : (wrap64 (((L ++ [x]).length : Int) - 1)) = (L.length : Int) ∧ (L ++ [x]).set (L.length : Int).toNat y = L ++ [y] ∧ rd_T26 (L ++ [x]) (L.length : Int) = x := by
  refine ⟨by rw [List.length_append, List.length_singleton]; unfold wrap64; omega, ?_, ?_⟩
  · rw [Int.toNat_natCast, List.set_append_right _ _ (Nat.le_refl _), Nat.sub_self]
    rfl
  · unfold rd_T26
    rw [Int.toNat_natCast, List.getD_eq_getElem?_getD, List.getElem?_append_right (Nat.le_refl _), Nat.sub_self]
    rfl
theorem words_loop (c : Nat → Int) (n : Nat) (hn : n ≤ 1048576) : ∀ (m i k : Nat) (dn : List (Nat × Nat)) (o : Option Nat), i + m = n → m < k → dn.length ≤ i → o.isNone = decide (i = 0 ∨ c (i - 1) ≠ 6) →
    quarryref08_Words.l0 k ((List.range n).map c) ((dn ++ opn o i).map spanS) (i : Int) = some ((dn ++ spW (fun p => decide (c p = 6)) m o i).map spanS) := by
  have hl : ((List.range n).map c).length = n := by simp
  have hr : ∀ i, i < n → rd ((List.range n).map c) (i : Int) = c i := fun i hi => by
    unfold rd
    simp [hi]
  intro m
  induction m with
  | zero =>
    intro i k dn o hi hk hd ho
    obtain ⟨k, rfl⟩ : ∃ m, k = m + 1 := ⟨k - 1, by omega⟩
    simp only [quarryref08_Words.l0]
    rw [hl, if_neg (by omega)]
    rw [spW_zero]
  | succ m ih =>
    intro i k dn o hi hk hd ho
    obtain ⟨k, rfl⟩ : ∃ m, k = m + 1 := ⟨k - 1, by omega⟩
    have e : wrap64 ((i : Int) + 1) = ((i + 1 : Nat) : Int) := by unfold wrap64; omega
    simp only [quarryref08_Words.l0]
    rw [hl, if_pos (by omega), if_pos (by omega), hr i (by omega), e]
    by_cases h6 : c i = 6
    · have hb : quarryref08_begins.f ((List.range n).map c) (i : Int) = some o.isNone := by
        unfold quarryref08_begins.f
        rw [hl, if_pos (by omega), if_pos (by omega), hr i (by omega), h6, if_neg (by decide), if_neg (by decide), if_pos rfl, ho]
        by_cases h0 : i = 0
        · subst h0
          rfl
        · have e1 : wrap64 ((i : Int) - 1) = ((i - 1 : Nat) : Int) := by unfold wrap64; omega
          rw [if_neg (by omega), e1, if_pos (by omega), if_pos (by omega), hr _ (by omega)]
          by_cases h7 : c (i - 1) = 6 <;> simp [h7, h0]
      rw [if_pos h6, hb, Option.bind_some]
      have hS : spW (fun p => decide (c p = 6)) (m + 1) o i = spW (fun p => decide (c p = 6)) m (some (o.getD i)) (i + 1) := by
        rw [spW_one, if_pos (by simp [h6])]
      rw [hS]
      have hI := ih (i + 1) k dn (some (o.getD i)) (by omega) (by omega) (by omega) (by simp [h6])
      simp only [opn, List.map_append, List.map_cons, List.map_nil] at hI ⊢
      cases o with
      | none =>
        obtain ⟨s1, s2, s3⟩ := set_last30 (dn.map spanS) ⟨(i : Int), 0⟩ ⟨(i : Int), ((i + 1 : Nat) : Int)⟩ (by rw [List.length_map]; omega)
        simp only [Option.isNone_none, if_true, List.map_nil, List.append_nil, Option.bind_some]
        rw [if_pos (by rw [List.length_map]; omega), s1, if_pos (by omega), if_pos (by rw [List.length_append, List.length_singleton]; omega), s3, s2]
        exact hI
      | some f =>
        obtain ⟨s1, s2, s3⟩ := set_last30 (dn.map spanS) (spanS (f, i)) ⟨(f : Int), ((i + 1 : Nat) : Int)⟩ (by rw [List.length_map]; omega)
        simp only [Option.isNone_some, Bool.false_eq_true, if_false, List.map_cons, List.map_nil]
        rw [s1, if_pos (by omega), if_pos (by rw [List.length_append, List.length_singleton]; omega), s3]
        have s4 : (spanS (f, i)).f0 = (f : Int) := rfl
        rw [s4, s2]
        exact hI
    · rw [if_neg h6]
      have hS : spW (fun p => decide (c p = 6)) (m + 1) o i = opn o i ++ spW (fun p => decide (c p = 6)) m none (i + 1) := by
        rw [spW_one, if_neg (by simp [h6])]
      have hI := ih (i + 1) k (dn ++ opn o i) none (by omega) (by omega) (by cases o <;> simp [opn] <;> omega) (by simp [h6])
      rw [hS, ← List.append_assoc, ← hI]
      simp only [opn, List.append_nil]
theorem spW_congr (W W' : Nat → Bool) : ∀ (m : Nat) (o : Option Nat) (p : Nat), (∀ j, p ≤ j → j < p + m → W j = W' j) → spW W m o p = spW W' m o p
  | 0, o, p, _ => rfl
  | m + 1, o, p, h => by
    simp only [spW]
    rw [h p (Nat.le_refl _) (by omega), spW_congr W W' m _ (p + 1) (fun j h1 h2 => h j (by omega) (by omega)), spW_congr W W' m _ (p + 1) (fun j h1 h2 => h j (by omega) (by omega))]
theorem Words8_eq (s : ByteArray) (hn : s.size ≤ 1048576) : ∃ k, quarryref08_Words.f k s = some ((spansW s).map spanS) := by
  refine ⟨67 * s.size + 168, ?_⟩
  unfold quarryref08_Words.f
  rw [bytes_eq s (by omega) _ (by omega), Option.bind_some]
  have h := words_loop (kindB s) s.size hn s.size 0 (67 * s.size + 168) [] none (by omega) (by omega) (Nat.zero_le _) (by simp)
  simp only [opn, List.nil_append, List.map_nil] at h
  rw [show ((0 : Nat) : Int) = 0 from rfl] at h
  rw [h]
  congr 1
  congr 1
  unfold spansW
  exact spW_congr _ _ _ _ _ fun j _ hj => by
    unfold wrdQ
    rw [decide_eq_true (show j < s.size by omega), Bool.true_and, kb_wd]
end MwF
theorem cell_blk8 {w : World} {g j : Nat} {cur : Array Value} {t : Nat} {v : Value} (B : Blk w g cur t) (h : w.cell? ⟨g, j, none⟩ = some v) : cur[j]? = some v := by
  cases hc : cur[j]? with
  | none =>
    unfold World.cell? at h
    simp [B.out, hc] at h
  | some u =>
    have := B.cell hc
    rw [h] at this
    exact this.symm
theorem want_row8 {w : World} {base : Nat} {ok : Nat → Prop} {v : Value} {L : List (Nat × Nat)} (h : Kd.R k26 26 w base ok v (L.map MwF.spanS)) :
    ∃ A2 cap2, v = .slice A2 L.length cap2 ∧ (L = [] ∨ ∃ (gw : Nat) (cs : Array Value) (tw : Nat), A2 = some ⟨gw, 0, none⟩ ∧ Blk w gw cs tw ∧ SpanRow8 cs L) := by
  obtain ⟨A, c, rfl⟩ := Kd.R_slice h
  obtain ⟨inner, ho⟩ := Kd.R_own h
  have hC := (Kd.R_reads' h).2.2
  rw [List.length_map] at ho hC ⊢
  refine ⟨A, c, rfl, ?_⟩
  rcases ho.2 with ⟨he, h0⟩ | ⟨g, cap, cur, he, hb, hgb, r⟩
  · injection he with h1 h2 h3
    exact .inl (List.eq_nil_of_length_eq_zero h2)
  · injection he with h1 h2 h3
    refine .inr ⟨g, cur, _, h1, ⟨hgb⟩, fun i x hx => ?_⟩
    have hi : i < L.length := (List.getElem?_eq_some_iff.1 hx).1
    obtain ⟨ad, ha, c1, c2⟩ := at_T26 hC (i : Int) (by omega) (by omega)
    rw [h1] at ha
    cases ha
    rw [add_plain, Int.toNat_natCast] at c1 c2
    have hr : rd_T26 (L.map MwF.spanS) (i : Int) = MwF.spanS x := by
      unfold rd_T26
      rw [Int.toNat_natCast, List.getD_eq_getElem?_getD, List.getElem?_map, hx]
      rfl
    rw [hr] at c1 c2
    exact ⟨cell_blk8 ⟨hgb⟩ c1, cell_blk8 ⟨hgb⟩ c2⟩
theorem spW_len (W : Nat → Bool) : ∀ (m : Nat) (o : Option Nat) (p : Nat), (spW W m o p).length ≤ m + 1
  | 0, o, p => by cases o <;> simp [spW]
  | m + 1, o, p => by
    simp only [spW]
    split
    · have := spW_len W m (some (o.getD p)) (p + 1)
      omega
    · have := spW_len W m none (p + 1)
      rw [List.length_append]
      cases o <;> simp <;> omega
theorem small_words : spansW ⟨#[123, 34, 97, 32, 98, 34, 32, 58, 32, 91, 49, 44, 116, 114, 117, 101, 93, 125]⟩ = [(10, 11), (12, 16)] := by decide +kernel
set_option maxHeartbeats 4000000 in
set_option maxRecDepth 100000 in
theorem quarrylaw08_MarksWords.true_ (s : ByteArray) (kk : Int) (hs : s.size ≤ 1048576) (w : World) (hT : TabOk w) :
    Calls Tryd.prog 3 #[.string s, .int .i64 kk] w fun e w' => e = .returned (.bool true) ∧ Below w.heap.size w w' := by
  have hN0 : (spansW s).length ≤ 1048577 := by have := spW_len (wrdQ s) s.size none 0; unfold spansW; omega
  obtain ⟨kf, hkf⟩ := MwF.Words8_eq s hs
  obtain ⟨N, hN⟩ : ∃ N, N = (spansW s).length := ⟨_, rfl⟩
  obtain ⟨sm, hsm⟩ : ∃ sm : ByteArray, sm = ⟨#[123, 34, 97, 32, 98, 34, 32, 58, 32, 91, 49, 44, 116, 114, 117, 101, 93, 125]⟩ := ⟨_, rfl⟩
  have HB := BelowH.refl w
  have HT := Aside0.mk hT
  have RT : Aside0 (∀ W, Calls Tryd.prog 16 #[.string s] W fun e w' => ∃ A2 cap2, e = .returned (.slice A2 N cap2) ∧ (spansW s = [] ∨ ∃ (gw : Nat) (cs : Array Value) (tw : Nat), A2 = some ⟨gw, 0, none⟩ ∧ Blk w' gw cs tw ∧ SpanRow8 cs (spansW s)) ∧ Below W.heap.size W w') := ⟨fun W => by
    refine (quarryref08_Words.calls kf s _ W hkf).mono ?_
    rintro e w' ⟨v, rfl, hR, hb⟩
    obtain ⟨A2, cap2, rfl, hrow⟩ := want_row8 hR
    exact ⟨A2, cap2, by rw [hN], hrow, hb⟩⟩
  have TO : Aside0 (∀ (h1 gw : Nat) (w0 : World), Blk w0 h1 #[.string sm] 9 → TabOk w0 → Blk w0 gw #[.int .i64 10, .int .i64 11, .int .i64 12, .int .i64 16] 26 → ∀ W, BelowH w0 W → ∀ left deep : Int, deep ≤ 2 → Calls Tryd.prog 15 #[.func (.func 49) #[] #[.pointer (some ⟨h1, 0, none⟩)], .slice (some ⟨gw, 0, none⟩) 2 2, .int .i64 left, .int .i64 deep] W fun e w' => e = .returned (.bool true) ∧ Below W.heap.size W w') := ⟨fun h1 gw w0 B1 ht BG W hb left deep hd =>
    quarrylaw08_told.walk sm (by rw [hsm]; decide) h1 (some ⟨gw, 0, none⟩) 2 (by rw [hsm, small_words]; rfl) (by decide) 2 2 (by decide) left deep hd W (B1.below hb.out) (ht.step hb.out) (.inr ⟨gw, _, _, rfl, BG.below hb.out, by
      rw [hsm, small_words]
      intro i x hx
      cases i with
      | zero =>
        cases hx
        exact ⟨rfl, rfl⟩
      | succ i =>
        cases i with
        | zero =>
          cases hx
          exact ⟨rfl, rfl⟩
        | succ i => cases hx⟩)⟩
  have TS : Aside0 (∀ (h2 : Nat) (A2 : Option Addr) (cap2 : Nat) (w0 : World), Blk w0 h2 #[.string s] 9 → TabOk w0 → (spansW s = [] ∨ ∃ (gw : Nat) (cs : Array Value) (tw : Nat), A2 = some ⟨gw, 0, none⟩ ∧ Blk w0 gw cs tw ∧ SpanRow8 cs (spansW s)) → ∀ W, BelowH w0 W → ∀ left deep : Int, deep ≤ 2 → Calls Tryd.prog 15 #[.func (.func 49) #[] #[.pointer (some ⟨h2, 0, none⟩)], .slice A2 N cap2, .int .i64 left, .int .i64 deep] W fun e w' => e = .returned (.bool true) ∧ Below W.heap.size W w') := ⟨fun h2 A2 cap2 w0 B1 ht hrow W hb left deep hd =>
    quarrylaw08_told.walk s (by omega) h2 A2 N hN (by omega) cap2 2 (by decide) left deep hd W (B1.below hb.out) (ht.step hb.out) (by
      rcases hrow with h0 | ⟨gw, cs, tw, e1, e2, e3⟩
      · exact .inl h0
      · exact .inr ⟨gw, cs, tw, e1, e2.below hb.out, e3⟩)⟩
  have QF : ∀ (w : World) (f : Fn) (a c : Array Value), (binOp .eql 23 (.func f a c) .nilFunc).run Tryd.prog w = .ok (.bool false) w := fun w f a c => run_eql_func_nil (ps := #[72]) (rs := #[]) (vd := false) _ (by kernel_rfl) _ _ _ _
  have e1 := Aside0.mk hsm
  clear hT hsm hN hN0 hkf hs
  go_enter Tryd.func3, Tryd.ntmps3
  rw [← e1.out]
  go_upto_region 3 with (first
    | (go_at_call 14; refine (marks_Words.calls sm _).mono ?_; rintro e w3 ⟨h1, rfl, GE1, B1, HB3⟩; have HQ := HB.step HB3.out; clear HB; have HB := HQ; clear HQ)
    | ((with_reducible refine gate_dst (N := 12) rfl ?_); refine ev_litM rfl #[.int .i64 10, .int .i64 11, .int .i64 12, .int .i64 16] 26 2 ?hr ?_; (case hr => first | (go_simp; done) | (go_simp; rfl)); intro gw w4 G_gw B_gw K_gw))
  have HB4 := HB.step K_gw.out
  have B14 := Aside0.mk (B1.below K_gw.out)
  have HT4 := Aside0.mk (HT.out.step HB4.out)
  have BG4 := Aside0.mk B_gw
  have HQ4 := BelowH.refl w4
  clear HB B1 B_gw K_gw G_gw GE1 HB3
  go_upto_region 5 with (first
    | (go_at_call 15; go_must (refine (TO.out h1 gw w4 B14.out HT4.out BG4.out _ HQ4 0 1 (by decide)).mono ?_); rintro e w5 ⟨rfl, hb⟩; have HQ5 := HQ4.step hb; clear hb))
  clear HQ4
  go_upto_region 9 with (first
    | (go_at_call 16; refine (RT.out _).mono ?_; rintro e w6 ⟨A2, cap2, rfl, hrow, hb⟩; have HR6 := Aside0.mk hrow; have HQ6 := HQ5.step hb; clear HQ5 hb hrow)
    | (go_at_call 14; refine (marks_Words.calls s _).mono ?_; rintro e w7 ⟨h2, rfl, GE2, B2, HB7⟩; have HQ7 := HQ6.step HB7.out))
  have HB8 := HB4.step HQ7.out
  have TO8 := Aside0.mk (TO.out h1 gw w7 (B14.out.below HQ7.out) (HT4.out.step HQ7.out) (BG4.out.below HQ7.out))
  have TS8 := Aside0.mk (TS.out h2 A2 cap2 w7 B2 (HT4.out.step HQ7.out) (by
      rcases HR6.out with h0 | ⟨gw, cs, tw, e1, e2, e3⟩
      · exact .inl h0
      · exact .inr ⟨gw, cs, tw, e1, e2.below HB7.out, e3⟩))
  have HQ8 := BelowH.refl w7
  clear TO TS HR6 HQ6 HQ7 HB7 GE2 B2 B14 BG4 HT4 HB4
  have TK1 := Aside0.mk trivial
  have TK2 := Aside0.mk trivial
  have TK3 := Aside0.mk trivial
  have TK4 := Aside0.mk trivial
  go_wp2_with (first
    | (go_at_call 15; clear TK1; go_must (refine (TS8.out _ HQ8 kk 1 (by decide)).mono ?_); rintro e w11 ⟨rfl, hb⟩; have HQn := HQ8.step hb; clear HQ8 hb; have HQ8 := HQn; clear HQn)
    | (go_at_call 15; clear TK2; go_must (refine (TS8.out _ HQ8 0 0 (by decide)).mono ?_); rintro e w12 ⟨rfl, hb⟩; have HQn := HQ8.step hb; clear HQ8 hb; have HQ8 := HQn; clear HQn)
    | (go_at_call 15; clear TK3; go_must (refine (TO8.out _ HQ8 1 0 (by decide)).mono ?_); rintro e w13 ⟨rfl, hb⟩; have HQn := HQ8.step hb; clear HQ8 hb; have HQ8 := HQn; clear HQn)
    | (go_at_call 15; clear TK4; go_must (refine (TS8.out _ HQ8 3 2 (by decide)).mono ?_); rintro e w14 ⟨rfl, hb⟩; have HQn := HQ8.step hb; clear HQ8 hb; have HQ8 := HQn; clear HQn))
  go_ret
  exact ⟨rfl, (HB8.step HQ8.out).out⟩
def quarrylaw08_MarksWords.f (a0 : ByteArray) (a1 : Int) : Option Bool := if a0.size ≤ 1048576 then some true else none
theorem quarrylaw08_MarksWords.calls (a0 : ByteArray) (a1 : Int) (r : Bool) (w : World) (hT : TabOk w) (h : quarrylaw08_MarksWords.f a0 a1 = some r) :
    Calls Tryd.prog 3 #[.string a0, .int .i64 a1] w fun e w' => e = .returned (.bool r) ∧ Below w.heap.size w w' := by
  unfold quarrylaw08_MarksWords.f at h
  by_cases hs : a0.size ≤ 1048576
  case neg => rw [if_neg hs] at h; cases h
  rw [if_pos hs] at h
  cases h
  exact quarrylaw08_MarksWords.true_ a0 a1 hs w hT
def quarrylaw08_MarksWords.Pure : Prop := ∀ (a0 : ByteArray) (a1 : Int), a0.size ≤ 1048576 → -9223372036854775808 ≤ a1 → a1 ≤ 9223372036854775807 → quarrylaw08_MarksWords.f a0 a1 = some true
theorem quarrylaw08_MarksWords.walk (P : quarrylaw08_MarksWords.Pure) (a0 : ByteArray) (a1 : Int) (w : World) (hT : TabOk w) (w0 : a0.size ≤ 1048576) (w1 : -9223372036854775808 ≤ a1) (w2 : a1 ≤ 9223372036854775807) :
    Calls Tryd.prog 3 #[.string a0, .int .i64 a1] w fun e w' => e = .returned (.bool true) ∧ Below w.heap.size w w' :=
  quarrylaw08_MarksWords.calls a0 a1 true w hT (P a0 a1 w0 w1 w2)
end


end Go.Proofs.YtgddljealeklkaaDoor.PW
end
-- PureMarksWords
section
namespace Go.Proofs.YtgddljealeklkaaDoor.Pure
open Go Go.RowKit Go.Proofs.YtgddljealeklkaaDoor.PW Go.Proofs.YtgddljealeklkaaDoorW.PrintWords Go.Proofs.YtgddljealeklkaaDoorW.PrintLast Go.Proofs.YtgddljealeklkaaDoorQ
set_option linter.unusedVariables false
set_option linter.unusedSimpArgs false
theorem MarksWords (s : ByteArray) (n : Int) (hn : s.size ≤ 1048576) (_ : (Lit.int .i64 n).wf = true) : quarrylaw08_MarksWords.f s n = some true := by
  unfold quarrylaw08_MarksWords.f
  rw [if_pos hn]

end Go.Proofs.YtgddljealeklkaaDoor.Pure
end
namespace Go.Proofs.YtgddljealeklkaaDoor.marksWords
open Go.ChangeShapes Go.WideShapes Go.ChangeAt Go.RowKit
open Go.ChangeMaps (open_string shut_string)
set_option linter.unusedVariables false
set_option linter.unusedSimpArgs false
theorem own : ownKnob Tryd.prog.godebug = none := by kernel_rfl
theorem gTab : Tryd.prog.globalNamed "math/bits.deBruijn64tab" = some 0 := by kernel_rfl
theorem gTabType : (Tryd.prog.globals[0]?).map (·.type) = some 85 := by kernel_rfl
theorem cellsTab : Tryd.prog.cellsOf 85 = 64 := by kernel_rfl
theorem cellsByte : Tryd.prog.cellsOf 5 = 1 := by kernel_rfl
def tabZ : List Int := [0, 1, 56, 2, 57, 49, 28, 3, 61, 58, 42, 50, 38, 29, 17, 4, 62, 47, 59, 36, 45, 43, 51, 22, 53, 39, 33, 30, 24, 18, 12, 5, 63, 55, 48, 27, 60, 41, 37, 16, 46, 35, 44, 21, 52, 32, 23, 11, 54, 26, 40, 15, 34, 20, 31, 10, 25, 14, 19, 9, 13, 8, 7, 6]
theorem table {W : World} (h : laidMetH Tryd.prog Rows.marksWordsUptoRow.laid W) : Lib.TabIs Tryd.prog W "math/bits.deBruijn64tab" .u8 tabZ :=
  Lib.tabIs_of_head (rest := []) gTab gTabType Tryd.underlying85 Tryd.underlying5 cellsByte cellsTab h
theorem tab_eq : ∀ j, j < 64 → tabZ.getD j 0 = ((Lib.deBruijn64tab.getD j 0 : Nat) : Int) := by decide
theorem tabOk {W : World} (h : laidMetH Tryd.prog Rows.marksWordsUptoRow.laid W) : Go.Proofs.YtgddljealeklkaaDoorM.TabOk W := ⟨fun j hj => by
  have h64 : j < 64 := hj
  rw [(table h).cell gTab j h64, tab_eq j h64]⟩
noncomputable def laidWorld (os : Os) : World :=
  { World.holding Tryd.prog os ⟨#[], #[], []⟩ with heap := (World.holding Tryd.prog os ⟨#[], #[], []⟩).heap.modify 0 fun
      | .cells _ t frozen => .cells #[.int .u8 0, .int .u8 1, .int .u8 56, .int .u8 2, .int .u8 57, .int .u8 49, .int .u8 28, .int .u8 3, .int .u8 61, .int .u8 58, .int .u8 42, .int .u8 50, .int .u8 38, .int .u8 29, .int .u8 17, .int .u8 4, .int .u8 62, .int .u8 47, .int .u8 59, .int .u8 36, .int .u8 45, .int .u8 43, .int .u8 51, .int .u8 22, .int .u8 53, .int .u8 39, .int .u8 33, .int .u8 30, .int .u8 24, .int .u8 18, .int .u8 12, .int .u8 5, .int .u8 63, .int .u8 55, .int .u8 48, .int .u8 27, .int .u8 60, .int .u8 41, .int .u8 37, .int .u8 16, .int .u8 46, .int .u8 35, .int .u8 44, .int .u8 21, .int .u8 52, .int .u8 32, .int .u8 23, .int .u8 11, .int .u8 54, .int .u8 26, .int .u8 40, .int .u8 15, .int .u8 34, .int .u8 20, .int .u8 31, .int .u8 10, .int .u8 25, .int .u8 14, .int .u8 19, .int .u8 9, .int .u8 13, .int .u8 8, .int .u8 7, .int .u8 6] t frozen
      | o => o }
theorem laid_met (os : Os) : laidMet Tryd.prog Rows.marksWordsUptoRow.laid ((laidWorld os).forCall (fun _ _ => 0) ⟨#[], #[.string ByteArray.empty, .int .i64 0], []⟩).memory :=
  laidMet_of_run' 8 (by kernel_rfl) (by kernel_rfl)
theorem reads (os : Os) {H : Type} (enc : TypeId × Value → H) : ∃ places, DataW.whole enc Tryd.prog ((laidWorld os).forCall (fun _ _ => 0) ⟨#[], #[.string ByteArray.empty, .int .i64 0], []⟩).memory Tryd.f3.params.toList Rows.marksWordsSpec.vars false (#[.string ByteArray.empty, .int .i64 0] : Array Value).toList 8 = some ([.lit (.string []), .lit (.int .i64 0)], [], places) :=
  ⟨[], by kernel_rfl⟩
set_option maxRecDepth 100000 in
theorem lifted (os : Os) (started : os.Started) (H : Type) (enc : TypeId × Value → H) (F : Stop.Interp) :
    ReturnsInHanded {} Tryd.checked os 3 .any ((Rows.OpenSpec.upto Rows.marksWordsSpec).preRow enc Tryd.prog Tryd.f3 Rows.marksWordsUptoRow.domain false Rows.marksWordsUptoRow.laid) (((Rows.OpenSpec.upto Rows.marksWordsSpec).at F).post enc Tryd.prog Tryd.f3 false true false false) := by
  obtain ⟨places, hx⟩ := reads os enc
  refine returnsInHanded_of_row (C := Tryd.checked) (s := Rows.OpenSpec.upto Rows.marksWordsSpec) own started (by kernel_rfl) Tryd.func3
    (witness_row_at (enc := enc) (C := Tryd.checked) false (laidWorld os) #[.string ByteArray.empty, .int .i64 0] rfl (by kernel_rfl) (by kernel_rfl) (by kernel_rfl)
      (OpenSpec.preRow_of_cond 8 hx (by kernel_rfl) (fun k hk => by cases hk; kernel_rfl) (by kernel_rfl) (laid_met os))) ?_
  intro W base args ds gs before hval0 hW hcnd hk0 hsz0 hL _ _
  have hsz : (DataW.weightsEach Tryd.prog (Tryd.f3.params.toList ++ Rows.marksWordsSpec.plain.varTypes Tryd.prog) (ds ++ gs)).all (· ≤ reachBytes) = true := hsz0
  have hval : ∀ (j : Nat) t v, Tryd.f3.params[j]? = some t → args[j]? = some v → Value.okWide Tryd.prog W .any base t v := hval0
  have hW' := hW
  obtain ⟨p, q, hA0, hV, rfl, hfz, hnd⟩ := hW
  have hA : DataW.TrodAll enc Tryd.prog W 0 (fun _ => true) true Tryd.f3.params.toList args.toList ds p := hA0
  rw [Tryd.params3] at hA hval hsz
  obtain ⟨v0, vs0, d0, ds0, p0, q0, hargs, rfl, rfl, h0, r0⟩ := trodAll_cons hA
  obtain ⟨v1, vs1, d1, ds1, p1, q1, rfl, rfl, rfl, h1, r1⟩ := trodAll_cons r0
  obtain ⟨rfl, rfl, rfl⟩ := trodAll_nil r1
  obtain rfl : args = #[v0, v1] := by cases args; simp_all
  obtain ⟨rfl, rfl⟩ := trodVars_none hV
  obtain ⟨a0, rfl, rfl, rfl, y0⟩ := open_string Tryd.underlying9 (hval 0 9 v0 rfl rfl) h0
  have w0 : a0.size ≤ 140737488351232 := by
    have z := sized_string hsz (j := 0) (t := 9) rfl rfl
    rw [Array.length_toList] at z
    exact z
  obtain ⟨a1, rfl, rfl, rfl, w1⟩ := open_int Tryd.underlying3 (hval 1 3 v1 rfl rfl) h1
  clear hA0 hval0 hsz0 hsz
  have hk1 : Rows.uptoBulkAll _ ≤ 1048576 := of_decide_eq_true (hk0 _ rfl)
  simp only [Rows.uptoBulkAll, Rows.uptoBulk, List.append_nil, List.nil_append, List.cons_append] at hk1
  have e0_ : a0.data.toList.length = a0.size := by rw [Array.length_toList]; rfl
  have s0_ : a0.size ≤ 1048576 := by omega
  have hk := Pure.MarksWords a0 a1 s0_ w1
  refine (PW.quarrylaw08_MarksWords.calls a0 a1 true W (tabOk hL) hk).mono fun e W' ⟨he, bel⟩ => ?_
  subst he
  exact ⟨_, rfl, _, _, _, [], _, [], hW', trodAll_mk1 (shut_bool Tryd.underlying4 _), (trodAll_cons_mk (shut_string Tryd.underlying9 y0) (trodAll_cons_mk (shut_int Tryd.underlying3 w1) trodAll_mk0)), rfl, bel.frame _, fun h => by cases h⟩
theorem over : Rows.marksWordsUptoRow.holds Tryd.pinned (Rows.OpenSpec.upto Rows.marksWordsSpec) :=
  OpenClaim.holds_of_cond 3 Tryd.f3 rfl rfl rfl rfl rfl rfl rfl ⟨rfl, rfl, rfl, rfl, rfl⟩ rfl rfl rfl rfl rfl (by kernel_rfl) Tryd.func3 (by kernel_rfl)
    (of_decide_eq_true (by kernel_rfl)) (by unfold Func.isWrapper; first | (rw [if_pos (by decide +kernel)]; kernel_rfl) | (rw [if_neg (by decide +kernel)]; exact ⟨rfl, rfl⟩))
    (fun os started H enc _ F => by rw [OpenClaim.pre_eq_preRow]; exact lifted os started H enc F)
theorem said : Rows.MarksWordsUptoSaid := over
theorem plain (f : FuncId) (fn : Func) (hf : Tryd.pinned.checked.prog.funcNamed "quarry/quarrylaw08.MarksWords" = some f) (hfn : Tryd.pinned.checked.prog.funcs[f]? = some fn) :
    false = Tryd.pinned.checked.prog.looks [] ∧ ∀ (j : Nat) t, fn.params[j]? = some t → Tryd.pinned.checked.prog.wantsStandIn t = false := by
  obtain rfl : f = 3 := Option.some.inj ((show Tryd.prog.funcNamed "quarry/quarrylaw08.MarksWords" = some 3 by kernel_rfl).symm.trans hf) |>.symm
  obtain rfl : fn = Tryd.f3 := (Option.some.inj (Tryd.func3.symm.trans hfn)).symm
  refine ⟨by kernel_rfl, fun j t ht => ?_⟩
  rw [Tryd.params3] at ht
  have hm := Array.mem_of_getElem? ht
  simp only [List.mem_toArray, List.mem_cons, List.not_mem_nil, or_false] at hm
  rcases hm with rfl | rfl
  · exact (show Tryd.prog.wantsStandIn 9 = false by kernel_rfl)
  · exact (show Tryd.prog.wantsStandIn 3 = false by kernel_rfl)
theorem card : Rows.MarksWordsUptoCardSaid :=
  Claim7.holds_tied_plain_at .later [] _ _ _ _ said (fun _ h => by cases h) (by kernel_rfl) (fun _ h => by cases h) marksWordsUpto_row_tie rfl ⟨rfl, rfl⟩ (by kernel_rfl) rfl plain (by kernel_rfl)
#print axioms card
end Go.Proofs.YtgddljealeklkaaDoor.marksWords
namespace Go.Proofs.YtgddljealeklkaaDoor
/-- The card, under a short name, for the claim. -/
theorem marksWords_holds : Rows.MarksWordsUptoCardSaid := marksWords.card
end Go.Proofs.YtgddljealeklkaaDoor
