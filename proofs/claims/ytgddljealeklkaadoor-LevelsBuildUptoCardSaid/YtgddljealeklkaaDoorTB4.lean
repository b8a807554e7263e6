/- Parts of a claim (TB), packed by a program (pack.py) out of the texts that it names. -/
import Derived.Test.YtgddljealeklkaaDoorTB3
-- PLx7
section
namespace Go.Proofs.YtgddljealeklkaaDoor.PL
attribute [local go_sem] Go.Proofs.YtgddljealeklkaaDoorM.fieldBits0 Go.Proofs.YtgddljealeklkaaDoorM.fieldBits1
open Go.Proofs.YtgddljealeklkaaDoorM (TabOk)
open Go.RowKit Go.Proofs.YtgddljealeklkaaDoorW.PrintWords Go.Proofs.YtgddljealeklkaaDoorW.PrintLast Go.Proofs.YtgddljealeklkaaDoorW.PrintMore
attribute [local go_sem] max2_int min2_int max_two min_two max_three min_three max_four min_four   -- for this text's walks alone
set_option linter.unusedVariables false
set_option linter.unusedSimpArgs false

def quarryref07_marks.l0 : Nat → ByteArray → List Bool → Bool → Int → Option (List Bool)
 | 0, _, _, _, _ => none
 | k + 1, x0, x3, x4, x5 => if x5 < (x0.size : Int) then (if 0 ≤ x5 then (if (bt x0 x5) = 34 then (if x5 < (x3.length : Int) then ((some (x3.set (x5 : Int).toNat (!x4) : List Bool)).bind fun y186 => (if (bt x0 x5) = 92 then (quarryref07_marks.l0 k x0 y186 (!x4) (wrap64 (x5 + 1))) else (quarryref07_marks.l0 k x0 y186 false (wrap64 (x5 + 1))))) else (none)) else (if x5 < (x3.length : Int) then ((some (x3.set (x5 : Int).toNat false : List Bool)).bind fun y187 => (if (bt x0 x5) = 92 then (quarryref07_marks.l0 k x0 y187 (!x4) (wrap64 (x5 + 1))) else (quarryref07_marks.l0 k x0 y187 false (wrap64 (x5 + 1))))) else (none))) else (none)) else (some x3)
def quarryref07_marks.f (k : Nat) (a0 : ByteArray) : Option (List Bool) := if 0 ≤ (a0.size : Int) then (if ((a0.size : Int) : Int).toNat ≤ 281474976710656 then (quarryref07_marks.l0 k a0 (List.replicate ((a0.size : Int) : Int).toNat false) false 0) else (none)) else (none)
set_option maxHeartbeats 8000000 in
set_option maxRecDepth 100000 in
theorem quarryref07_marks.calls (k : Nat) (a0 : ByteArray) (r : List Bool) (w : World) (h : quarryref07_marks.f k a0 = some r) :
  Calls Tryd.prog 110 #[.string a0] w fun e w' => ∃ v0_ : Value, e = .returned (v0_) ∧ Kd.R Kd.bool 4 w' w.heap.size (fun _ => True) v0_ r ∧ Below w.heap.size w w' := by
 have HB := zA (Below.refl w.heap.size w)
 have H : (if 0 ≤ (a0.size : Int) then (if ((a0.size : Int) : Int).toNat ≤ 281474976710656 then (quarryref07_marks.l0 k a0 (List.replicate ((a0.size : Int) : Int).toNat false) false 0) else (none)) else (none)) = some r := h
 clear h
 by_cases c2 : 0 ≤ (a0.size : Int)
 ·rw [if_pos c2] at H
  have c2b0 := eq_true c2
  have c2b1 : decide (0 ≤ (a0.size : Int)) = true := zz1 c2
  clear c2
  by_cases c3 : ((a0.size : Int) : Int).toNat ≤ 281474976710656
  ·rw [if_pos c3] at H
   have c3b0 := eq_true c3
   have c3b1 : decide (((a0.size : Int) : Int).toNat ≤ 281474976710656) = true := zz1 c3
   clear c3
   obtain ⟨y183, hy183⟩ : ∃ y_ : List Bool, y_ = (List.replicate ((a0.size : Int) : Int).toNat false) := ⟨_, rfl⟩
   replace H : (quarryref07_marks.l0 k a0 y183 false 0) = some r := by first|(rw [hy183];with_reducible exact H)|(have H2_ := (zz3 _ _).symm.trans H;rw [hy183];with_reducible exact H2_)|(have H2_ := (zz3 _ _).symm.trans H;with_reducible exact H2_)|with_reducible exact H|(rw [hy183];exact H)|exact H
   have Ny183 := zA hy183
   clear hy183
   have H' := zA H
   clear H
   go_enter Tryd.func110, Tryd.ntmps110
   go_wp2_with (first|((with_reducible refine gate_dst (N := 8) rfl ?_);refine Kd.R_make Kd.bool _ 4 rfl (N := 8) rfl 38 _ _ rfl (a0.size : Int) rfl rfl Tryd.underlying38 (.bool false) 1 info4 rfl (by decide) (by omega) false (ok := fun _ => True) (okp := fun _ => True) rfl (fun _ hk => hk) trivial (zE (by first|(with_reducible assumption)|assumption)) (zz2 (Nat.mul_le_mul_right _ (zE (by first|(with_reducible assumption)|assumption) : (a0.size : Int).toNat ≤ 281474976710656)) (by omega)) (Below.refl _ _) (Nat.le_refl _) ?_;intro v184 w4 ho5 hb hg_ hnew_;clear hg_ hnew_;(first|rw [← Ny183.out] at ho5|(simp only [Int.reduceToNat] at ho5;rw [← Ny183.out] at ho5));have n0_ := zA (Kd.R_lower ho5 (zO (by repeat (first|(with_reducible first|exact HB.out|apply zG|apply zF|apply zH)|exact HB.out))));have n1_ := zA (zN (by repeat (first|(with_reducible first|exact HB.out|apply zG|apply zF|apply zH)|exact HB.out)) hb);clear HB;have HO185 := n0_;have HB := n1_;clear n0_ n1_;clear hb ho5))
   go_loopg [4, 5] k (fun kq v4 v5 w' => ∃ (x3_1 : List Bool) (x4_1 : Bool) (x5_1 : Int), v4 = .bool x4_1 ∧ v5 = .int .i64 x5_1 ∧ Aside0 (quarryref07_marks.l0 kq a0 x3_1 x4_1 x5_1 = some r) ∧ Aside0 (kq ≤ k) ∧ Aside0 (Kd.R Kd.bool 4 w' w.heap.size (fun _ => True) v184 x3_1) ∧ Aside0 (Below w.heap.size w w'))
   case atStart => exact ⟨(y183), (false), (0), (by first|rfl|(simp;done)|(simp [*];done)), (by first|rfl|(simp;done)|(simp [*];done)), H', ⟨Nat.le_refl _⟩, ⟨by (with_reducible repeat (first|apply yy1|apply yy2|apply yy3));exact HO185.out⟩, ⟨by repeat (first|(with_reducible first|exact HB.out|apply zG|apply zF|apply zH)|exact HB.out)⟩⟩
   case round =>
    clear H'
    try clear c1
    try clear c2
    try clear c2b0
    try clear c2b1
    try clear p2
    try clear c3
    try clear c3b0
    try clear c3b1
    obtain ⟨x3_1, x4_1, x5_1, rfl, rfl, HA, HK1, HO_3, HB⟩ := hrel
    cases gk with
    | zero => exact absurd HA.out (by simp [quarryref07_marks.l0])
    | succ k1 =>
     have H := HA.out
     clear HA
     simp only [quarryref07_marks.l0] at H
     by_cases c6 : x5_1 < (a0.size : Int)
     ·rw [if_pos c6] at H
      have c6b0 : decide (x5_1 < (a0.size : Int)) = true := zz1 c6
      clear c6
      by_cases c7 : 0 ≤ x5_1
      ·rw [if_pos c7] at H
       have c7b0 : decide (0 ≤ x5_1) = true := zz1 c7
       clear c7
       by_cases c9 : (bt a0 x5_1) = 34
       ·rw [if_pos c9] at H
        have c9b0 : ((bt a0 x5_1) == 34) = true := beq_iff_eq.mpr c9
        have c9b1 : ((bt a0 x5_1) != 34) = false := bne_eq_false_iff_eq.mpr c9
        clear c9
        by_cases c10 : x5_1 < (x3_1.length : Int)
        ·rw [if_pos c10] at H
         have c10b0 : decide (x5_1 < (x3_1.length : Int)) = true := zz1 c10
         clear c10
         obtain ⟨y186, hy186⟩ : ∃ y_ : List Bool, y_ = (x3_1.set (x5_1 : Int).toNat (!x4_1)) := ⟨_, rfl⟩
         replace H : (if (bt a0 x5_1) = 92 then (quarryref07_marks.l0 k1 a0 y186 (!x4_1) (wrap64 (x5_1 + 1))) else (quarryref07_marks.l0 k1 a0 y186 false (wrap64 (x5_1 + 1)))) = some r := by first|(rw [hy186];with_reducible exact H)|(have H2_ := (zz3 _ _).symm.trans H;rw [hy186];with_reducible exact H2_)|(have H2_ := (zz3 _ _).symm.trans H;with_reducible exact H2_)|with_reducible exact H|(rw [hy186];exact H)|exact H
         have Ny186 := zA hy186
         clear hy186
         by_cases c13 : (bt a0 x5_1) = 92
         ·rw [if_pos c13] at H
          have c13b0 : ((bt a0 x5_1) == 92) = true := beq_iff_eq.mpr c13
          have c13b1 : ((bt a0 x5_1) != 92) = false := bne_eq_false_iff_eq.mpr c13
          clear c13
          have H' := zA H
          clear H
          have p8 : 0 ≤ (x5_1 : Int) := zE (by first|(with_reducible assumption)|assumption)
          have q8 : x5_1 < (a0.size : Int) := zE (by first|(with_reducible assumption)|assumption)
          have hx8 := bt_at a0 x5_1
          replace p8 := eq_true p8
          replace q8 := eq_true q8
          have p11 : 0 ≤ (x5_1 : Int) := zE (by first|(with_reducible assumption)|assumption)
          have q11 : (x5_1 : Int) < ((x3_1.length : Int) : Int) := zE (by first|(with_reducible assumption)|assumption)
          obtain ⟨go11, co11, eo11, gb11, gl11, cl11, HG11⟩ := Kd.R_form HO_3.out (by omega)
          (first|cases eo11|(injection eo11 with ea_ en_ ec_;(first|subst ea_|(injection ea_ with ea_;subst ea_));subst ec_;clear en_))
          have GB11 := zA gb11
          have GG11 := zA HG11
          clear gb11 gl11 HG11
          obtain ⟨hx11_0, hf11_0⟩ := Kd.R_celln false HO_3.out (x5_1 : Int) p11 q11
          replace p11 := eq_true p11
          replace q11 := eq_true q11
          have HP14 := Kd.R_putg HO_3.out (x5_1 : Int) (!x4_1)
          go_wp2_with (first|((with_reducible refine gate_store (t := 4) (p := 25) rfl ?_);refine store_event (t := 4) (p := 25) (v := ?vo_w15) (w1 := (wr.setCell ⟨go11, (x5_1 : Int).toNat, none⟩ (.bool (!x4_1)))) ?hg ?ho ?hn ?hr ?_;(case ho => rfl);(case hg => rfl);(case hn => rfl);(case hr => first|(go_simp;done)|(go_simp;rfl));intro w15 hw;have hg : wr.grownBy w15 (some go11) := (by rw [hw];exact HP14.2);have hp_ : Kd.R Kd.bool 4 w15 w.heap.size (fun _ => True) (.slice (some ⟨go11, 0, none⟩) x3_1.length co11) y186 := (by rw [hw, Ny186.out];exact HP14.1);clear HP14;have n0_ := zA (hp_);have n1_ := zA ((by rw [hw];exact zI (HB.out) GB11.out : Below w.heap.size w w15));clear HO_3;clear HB;have HO_3 := n0_;have HB := n1_;clear n0_ n1_;clear hg hw hp_;have p12 : 0 ≤ (x5_1 : Int) := zE (by first|(with_reducible assumption)|assumption);have q12 : x5_1 < (a0.size : Int) := zE (by first|(with_reducible assumption)|assumption);have hx12 := bt_at a0 x5_1;replace p12 := eq_true p12;replace q12 := eq_true q12))
          go_roundg k1
          case measure => have := HK1.out;omega
          case rel => exact ⟨(y186), (!x4_1), (wrap64 (x5_1 + 1)), (by first|rfl|(simp;done)|(simp [*];done)), (by first|rfl|(simp;done)|(simp [*];done)), H', ⟨by have := HK1.out;omega⟩, ⟨by (with_reducible repeat (first|apply yy1|apply yy2|apply yy3));exact HO_3.out⟩, ⟨by repeat (first|(with_reducible first|exact HB.out|apply zG|apply zF|apply zH)|exact HB.out)⟩⟩
         ·rw [if_neg c13] at H
          have c13b0 : ((bt a0 x5_1) == 92) = false := beq_eq_false_iff_ne.mpr c13
          have c13b1 : ((bt a0 x5_1) != 92) = true := bne_iff_ne.mpr c13
          have H' := zA H
          clear H
          have p8 : 0 ≤ (x5_1 : Int) := zE (by first|(with_reducible assumption)|assumption)
          have q8 : x5_1 < (a0.size : Int) := zE (by first|(with_reducible assumption)|assumption)
          have hx8 := bt_at a0 x5_1
          replace p8 := eq_true p8
          replace q8 := eq_true q8
          have p11 : 0 ≤ (x5_1 : Int) := zE (by first|(with_reducible assumption)|assumption)
          have q11 : (x5_1 : Int) < ((x3_1.length : Int) : Int) := zE (by first|(with_reducible assumption)|assumption)
          obtain ⟨go11, co11, eo11, gb11, gl11, cl11, HG11⟩ := Kd.R_form HO_3.out (by omega)
          (first|cases eo11|(injection eo11 with ea_ en_ ec_;(first|subst ea_|(injection ea_ with ea_;subst ea_));subst ec_;clear en_))
          have GB11 := zA gb11
          have GG11 := zA HG11
          clear gb11 gl11 HG11
          obtain ⟨hx11_0, hf11_0⟩ := Kd.R_celln false HO_3.out (x5_1 : Int) p11 q11
          replace p11 := eq_true p11
          replace q11 := eq_true q11
          have HP16 := Kd.R_putg HO_3.out (x5_1 : Int) (!x4_1)
          go_wp2_with (first|((with_reducible refine gate_store (t := 4) (p := 25) rfl ?_);refine store_event (t := 4) (p := 25) (v := ?vo_w17) (w1 := (wr.setCell ⟨go11, (x5_1 : Int).toNat, none⟩ (.bool (!x4_1)))) ?hg ?ho ?hn ?hr ?_;(case ho => rfl);(case hg => rfl);(case hn => rfl);(case hr => first|(go_simp;done)|(go_simp;rfl));intro w17 hw;have hg : wr.grownBy w17 (some go11) := (by rw [hw];exact HP16.2);have hp_ : Kd.R Kd.bool 4 w17 w.heap.size (fun _ => True) (.slice (some ⟨go11, 0, none⟩) x3_1.length co11) y186 := (by rw [hw, Ny186.out];exact HP16.1);clear HP16;have n0_ := zA (hp_);have n1_ := zA ((by rw [hw];exact zI (HB.out) GB11.out : Below w.heap.size w w17));clear HO_3;clear HB;have HO_3 := n0_;have HB := n1_;clear n0_ n1_;clear hg hw hp_;have p12 : 0 ≤ (x5_1 : Int) := zE (by first|(with_reducible assumption)|assumption);have q12 : x5_1 < (a0.size : Int) := zE (by first|(with_reducible assumption)|assumption);have hx12 := bt_at a0 x5_1;replace p12 := eq_true p12;replace q12 := eq_true q12))
          go_roundg k1
          case measure => have := HK1.out;omega
          case rel => exact ⟨(y186), (false), (wrap64 (x5_1 + 1)), (by first|rfl|(simp;done)|(simp [*];done)), (by first|rfl|(simp;done)|(simp [*];done)), H', ⟨by have := HK1.out;omega⟩, ⟨by (with_reducible repeat (first|apply yy1|apply yy2|apply yy3));exact HO_3.out⟩, ⟨by repeat (first|(with_reducible first|exact HB.out|apply zG|apply zF|apply zH)|exact HB.out)⟩⟩
        ·rw [if_neg c10] at H
         exact absurd H (by simp)
       ·rw [if_neg c9] at H
        have c9b0 : ((bt a0 x5_1) == 34) = false := beq_eq_false_iff_ne.mpr c9
        have c9b1 : ((bt a0 x5_1) != 34) = true := bne_iff_ne.mpr c9
        by_cases c18 : x5_1 < (x3_1.length : Int)
        ·rw [if_pos c18] at H
         have c18b0 : decide (x5_1 < (x3_1.length : Int)) = true := zz1 c18
         clear c18
         obtain ⟨y187, hy187⟩ : ∃ y_ : List Bool, y_ = (x3_1.set (x5_1 : Int).toNat false) := ⟨_, rfl⟩
         replace H : (if (bt a0 x5_1) = 92 then (quarryref07_marks.l0 k1 a0 y187 (!x4_1) (wrap64 (x5_1 + 1))) else (quarryref07_marks.l0 k1 a0 y187 false (wrap64 (x5_1 + 1)))) = some r := by first|(rw [hy187];with_reducible exact H)|(have H2_ := (zz3 _ _).symm.trans H;rw [hy187];with_reducible exact H2_)|(have H2_ := (zz3 _ _).symm.trans H;with_reducible exact H2_)|with_reducible exact H|(rw [hy187];exact H)|exact H
         have Ny187 := zA hy187
         clear hy187
         by_cases c21 : (bt a0 x5_1) = 92
         ·rw [if_pos c21] at H
          have c21b0 : ((bt a0 x5_1) == 92) = true := beq_iff_eq.mpr c21
          have c21b1 : ((bt a0 x5_1) != 92) = false := bne_eq_false_iff_eq.mpr c21
          clear c21
          have H' := zA H
          clear H
          have p8 : 0 ≤ (x5_1 : Int) := zE (by first|(with_reducible assumption)|assumption)
          have q8 : x5_1 < (a0.size : Int) := zE (by first|(with_reducible assumption)|assumption)
          have hx8 := bt_at a0 x5_1
          replace p8 := eq_true p8
          replace q8 := eq_true q8
          have p19 : 0 ≤ (x5_1 : Int) := zE (by first|(with_reducible assumption)|assumption)
          have q19 : (x5_1 : Int) < ((x3_1.length : Int) : Int) := zE (by first|(with_reducible assumption)|assumption)
          obtain ⟨go19, co19, eo19, gb19, gl19, cl19, HG19⟩ := Kd.R_form HO_3.out (by omega)
          (first|cases eo19|(injection eo19 with ea_ en_ ec_;(first|subst ea_|(injection ea_ with ea_;subst ea_));subst ec_;clear en_))
          have GB19 := zA gb19
          have GG19 := zA HG19
          clear gb19 gl19 HG19
          obtain ⟨hx19_0, hf19_0⟩ := Kd.R_celln false HO_3.out (x5_1 : Int) p19 q19
          replace p19 := eq_true p19
          replace q19 := eq_true q19
          have HP22 := Kd.R_putg HO_3.out (x5_1 : Int) false
          go_wp2_with (first|((with_reducible refine gate_store (t := 4) (p := 25) rfl ?_);refine store_event (t := 4) (p := 25) (v := ?vo_w23) (w1 := (wr.setCell ⟨go19, (x5_1 : Int).toNat, none⟩ (.bool false))) ?hg ?ho ?hn ?hr ?_;(case ho => rfl);(case hg => rfl);(case hn => rfl);(case hr => first|(go_simp;done)|(go_simp;rfl));intro w23 hw;have hg : wr.grownBy w23 (some go19) := (by rw [hw];exact HP22.2);have hp_ : Kd.R Kd.bool 4 w23 w.heap.size (fun _ => True) (.slice (some ⟨go19, 0, none⟩) x3_1.length co19) y187 := (by rw [hw, Ny187.out];exact HP22.1);clear HP22;have n0_ := zA (hp_);have n1_ := zA ((by rw [hw];exact zI (HB.out) GB19.out : Below w.heap.size w w23));clear HO_3;clear HB;have HO_3 := n0_;have HB := n1_;clear n0_ n1_;clear hg hw hp_;have p20 : 0 ≤ (x5_1 : Int) := zE (by first|(with_reducible assumption)|assumption);have q20 : x5_1 < (a0.size : Int) := zE (by first|(with_reducible assumption)|assumption);have hx20 := bt_at a0 x5_1;replace p20 := eq_true p20;replace q20 := eq_true q20))
          go_roundg k1
          case measure => have := HK1.out;omega
          case rel => exact ⟨(y187), (!x4_1), (wrap64 (x5_1 + 1)), (by first|rfl|(simp;done)|(simp [*];done)), (by first|rfl|(simp;done)|(simp [*];done)), H', ⟨by have := HK1.out;omega⟩, ⟨by (with_reducible repeat (first|apply yy1|apply yy2|apply yy3));exact HO_3.out⟩, ⟨by repeat (first|(with_reducible first|exact HB.out|apply zG|apply zF|apply zH)|exact HB.out)⟩⟩
         ·rw [if_neg c21] at H
          have c21b0 : ((bt a0 x5_1) == 92) = false := beq_eq_false_iff_ne.mpr c21
          have c21b1 : ((bt a0 x5_1) != 92) = true := bne_iff_ne.mpr c21
          have H' := zA H
          clear H
          have p8 : 0 ≤ (x5_1 : Int) := zE (by first|(with_reducible assumption)|assumption)
          have q8 : x5_1 < (a0.size : Int) := zE (by first|(with_reducible assumption)|assumption)
          have hx8 := bt_at a0 x5_1
          replace p8 := eq_true p8
          replace q8 := eq_true q8
          have p19 : 0 ≤ (x5_1 : Int) := zE (by first|(with_reducible assumption)|assumption)
          have q19 : (x5_1 : Int) < ((x3_1.length : Int) : Int) := zE (by first|(with_reducible assumption)|assumption)
          obtain ⟨go19, co19, eo19, gb19, gl19, cl19, HG19⟩ := Kd.R_form HO_3.out (by omega)
          (first|cases eo19|(injection eo19 with ea_ en_ ec_;(first|subst ea_|(injection ea_ with ea_;subst ea_));subst ec_;clear en_))
          have GB19 := zA gb19
          have GG19 := zA HG19
          clear gb19 gl19 HG19
          obtain ⟨hx19_0, hf19_0⟩ := Kd.R_celln false HO_3.out (x5_1 : Int) p19 q19
          replace p19 := eq_true p19
          replace q19 := eq_true q19
          have HP24 := Kd.R_putg HO_3.out (x5_1 : Int) false
          go_wp2_with (first|((with_reducible refine gate_store (t := 4) (p := 25) rfl ?_);refine store_event (t := 4) (p := 25) (v := ?vo_w25) (w1 := (wr.setCell ⟨go19, (x5_1 : Int).toNat, none⟩ (.bool false))) ?hg ?ho ?hn ?hr ?_;(case ho => rfl);(case hg => rfl);(case hn => rfl);(case hr => first|(go_simp;done)|(go_simp;rfl));intro w25 hw;have hg : wr.grownBy w25 (some go19) := (by rw [hw];exact HP24.2);have hp_ : Kd.R Kd.bool 4 w25 w.heap.size (fun _ => True) (.slice (some ⟨go19, 0, none⟩) x3_1.length co19) y187 := (by rw [hw, Ny187.out];exact HP24.1);clear HP24;have n0_ := zA (hp_);have n1_ := zA ((by rw [hw];exact zI (HB.out) GB19.out : Below w.heap.size w w25));clear HO_3;clear HB;have HO_3 := n0_;have HB := n1_;clear n0_ n1_;clear hg hw hp_;have p20 : 0 ≤ (x5_1 : Int) := zE (by first|(with_reducible assumption)|assumption);have q20 : x5_1 < (a0.size : Int) := zE (by first|(with_reducible assumption)|assumption);have hx20 := bt_at a0 x5_1;replace p20 := eq_true p20;replace q20 := eq_true q20))
          go_roundg k1
          case measure => have := HK1.out;omega
          case rel => exact ⟨(y187), (false), (wrap64 (x5_1 + 1)), (by first|rfl|(simp;done)|(simp [*];done)), (by first|rfl|(simp;done)|(simp [*];done)), H', ⟨by have := HK1.out;omega⟩, ⟨by (with_reducible repeat (first|apply yy1|apply yy2|apply yy3));exact HO_3.out⟩, ⟨by repeat (first|(with_reducible first|exact HB.out|apply zG|apply zF|apply zH)|exact HB.out)⟩⟩
        ·rw [if_neg c18] at H
         exact absurd H (by simp)
      ·rw [if_neg c7] at H
       exact absurd H (by simp)
     ·rw [if_neg c6] at H
      have c6b0 : decide (x5_1 < (a0.size : Int)) = false := decide_eq_false c6
      clear c6
      obtain rfl := Option.some.inj H
      go_wp2
      go_ret
      exact ⟨_, by first|rfl|(simp [errW_none, errW_some] <;> rfl)|(simp [*, errW_none, errW_some] <;> rfl), by (with_reducible repeat (first|apply yy1|apply yy2|apply yy3));exact HO_3.out, by repeat (first|(with_reducible first|exact HB.out|apply zG|apply zF|apply zH)|exact HB.out)⟩
  ·rw [if_neg c3] at H
   exact absurd H (by simp)
 ·rw [if_neg c2] at H
  exact absurd H (by simp)

def quarryref07_Is.f (k : Nat) (a0 : ByteArray) : Option (List Bool) := (quarryref07_marks.f k a0).bind fun t188 => (some t188)
set_option maxHeartbeats 8000000 in
set_option maxRecDepth 100000 in
theorem quarryref07_Is.calls (k : Nat) (a0 : ByteArray) (r : List Bool) (w : World) (h : quarryref07_Is.f k a0 = some r) :
  Calls Tryd.prog 100 #[.string a0] w fun e w' => ∃ v0_ : Value, e = .returned (v0_) ∧ Kd.R Kd.bool 4 w' w.heap.size (fun _ => True) v0_ r ∧ Below w.heap.size w w' := by
 have HB := zA (Below.refl w.heap.size w)
 have H : ((quarryref07_marks.f k a0).bind fun t188 => (some t188)) = some r := h
 clear h
 replace H := Option.bind_eq_some_iff.mp H
 obtain ⟨t188, A20, H⟩ := H
 replace H : (some t188) = some r := H
 have A2 := zA A20
 clear A20
 obtain rfl := Option.some.inj H
 go_enter Tryd.func100, Tryd.ntmps100
 go_wp2_with (first|((with_reducible refine gate_callee (f := 110) rfl ?_);refine goesL_ (some 4) rfl rfl Tryd.func110 (by kernel_rfl) rfl #[.string a0] rfl (by (try simp only [List.map_toArray, List.map_cons, List.map_nil]);first|done|rfl|(simp only [List.length_drop, List.length_take];rfl)) ?_;(with_reducible refine (quarryref07_marks.calls k a0 t188 _ A2.out).mono ?_);rintro e w3 ⟨v189, rfl, ho0, hb⟩;refine ⟨_, rfl, ?_⟩;have n0_ := zA (Kd.R_lower ho0 (zO (by repeat (first|(with_reducible first|exact HB.out|apply zG|apply zF|apply zH)|exact HB.out))));have n1_ := zA (zN (by repeat (first|(with_reducible first|exact HB.out|apply zG|apply zF|apply zH)|exact HB.out)) hb);clear HB;have HO190 := n0_;have HB := n1_;clear n0_ n1_;(try clear hb);(try clear hb2);(try clear hk);(try clear hi);(try clear ho0)))
 go_ret
 exact ⟨_, by first|rfl|(simp [errW_none, errW_some] <;> rfl)|(simp [*, errW_none, errW_some] <;> rfl), by (with_reducible repeat (first|apply yy1|apply yy2|apply yy3));exact HO190.out, by repeat (first|(with_reducible first|exact HB.out|apply zG|apply zF|apply zH)|exact HB.out)⟩

def quarryref07_inside.l0 : Nat → List Bool → Bool → Int → Option (List Bool)
 | 0, _, _, _ => none
 | k + 1, x3, x4, x5 => if x5 < (x3.length : Int) then (if 0 ≤ x5 then (if rdOf false x3 x5 = true then (quarryref07_inside.l0 k (x3.set (x5 : Int).toNat (!x4)) (!x4) (wrap64 (x5 + 1))) else (quarryref07_inside.l0 k (x3.set (x5 : Int).toNat x4) x4 (wrap64 (x5 + 1)))) else (none)) else (some x3)
def quarryref07_inside.f (k : Nat) (a0 : ByteArray) : Option (List Bool) := (quarryref07_marks.f k a0).bind fun t191 => (quarryref07_inside.l0 k t191 false 0)
set_option maxHeartbeats 8000000 in
set_option maxRecDepth 100000 in
theorem quarryref07_inside.calls (k : Nat) (a0 : ByteArray) (r : List Bool) (w : World) (h : quarryref07_inside.f k a0 = some r) :
  Calls Tryd.prog 111 #[.string a0] w fun e w' => ∃ v0_ : Value, e = .returned (v0_) ∧ Kd.R Kd.bool 4 w' w.heap.size (fun _ => True) v0_ r ∧ Below w.heap.size w w' := by
 have HB := zA (Below.refl w.heap.size w)
 have H : ((quarryref07_marks.f k a0).bind fun t191 => (quarryref07_inside.l0 k t191 false 0)) = some r := h
 clear h
 replace H := Option.bind_eq_some_iff.mp H
 obtain ⟨t191, A20, H⟩ := H
 replace H : (quarryref07_inside.l0 k t191 false 0) = some r := H
 have A2 := zA A20
 clear A20
 have H' := zA H
 clear H
 go_enter Tryd.func111, Tryd.ntmps111
 go_wp2_with (first|((with_reducible refine gate_callee (f := 110) rfl ?_);refine goesL_ (some 7) rfl rfl Tryd.func110 (by kernel_rfl) rfl #[.string a0] rfl (by (try simp only [List.map_toArray, List.map_cons, List.map_nil]);first|done|rfl|(simp only [List.length_drop, List.length_take];rfl)) ?_;(with_reducible refine (quarryref07_marks.calls k a0 t191 _ A2.out).mono ?_);rintro e w3 ⟨v192, rfl, ho0, hb⟩;refine ⟨_, rfl, ?_⟩;have n0_ := zA (Kd.R_lower ho0 (zO (by repeat (first|(with_reducible first|exact HB.out|apply zG|apply zF|apply zH)|exact HB.out))));have n1_ := zA (zN (by repeat (first|(with_reducible first|exact HB.out|apply zG|apply zF|apply zH)|exact HB.out)) hb);clear HB;have HO193 := n0_;have HB := n1_;clear n0_ n1_;(try clear hb);(try clear hb2);(try clear hk);(try clear hi);(try clear ho0)))
 go_loopg [4, 5] k (fun kq v4 v5 w' => ∃ (x3_1 : List Bool) (x4_1 : Bool) (x5_1 : Int), v4 = .bool x4_1 ∧ v5 = .int .i64 x5_1 ∧ Aside0 (quarryref07_inside.l0 kq x3_1 x4_1 x5_1 = some r) ∧ Aside0 (kq ≤ k) ∧ Aside0 (Kd.R Kd.bool 4 w' w.heap.size (fun _ => True) v192 x3_1) ∧ Aside0 (Below w.heap.size w w'))
 case atStart => exact ⟨(t191), (false), (0), (by first|rfl|(simp;done)|(simp [*];done)), (by first|rfl|(simp;done)|(simp [*];done)), H', ⟨Nat.le_refl _⟩, ⟨by (with_reducible repeat (first|apply yy1|apply yy2|apply yy3));exact HO193.out⟩, ⟨by repeat (first|(with_reducible first|exact HB.out|apply zG|apply zF|apply zH)|exact HB.out)⟩⟩
 case round =>
  clear H'
  try clear c1
  try clear p2
  obtain ⟨x3_1, x4_1, x5_1, rfl, rfl, HA, HK1, HO_3, HB⟩ := hrel
  cases gk with
  | zero => exact absurd HA.out (by simp [quarryref07_inside.l0])
  | succ k1 =>
   have H := HA.out
   clear HA
   simp only [quarryref07_inside.l0] at H
   by_cases c4 : x5_1 < (x3_1.length : Int)
   ·rw [if_pos c4] at H
    have c4b0 : decide (x5_1 < (x3_1.length : Int)) = true := zz1 c4
    clear c4
    by_cases c5 : 0 ≤ x5_1
    ·rw [if_pos c5] at H
     have c5b0 : decide (0 ≤ x5_1) = true := zz1 c5
     clear c5
     obtain ⟨bq6, hbq6⟩ : ∃ b_ : Bool, b_ = (rdOf false x3_1 x5_1) := ⟨_, rfl⟩
     replace H : (if bq6 = true then (quarryref07_inside.l0 k1 (x3_1.set (x5_1 : Int).toNat (!x4_1)) (!x4_1) (wrap64 (x5_1 + 1))) else (quarryref07_inside.l0 k1 (x3_1.set (x5_1 : Int).toNat x4_1) x4_1 (wrap64 (x5_1 + 1)))) = some r := by rw [← hbq6] at H;exact H
     have Nbq6 := zA hbq6
     clear hbq6
     by_cases c7 : bq6 = true
     ·subst c7
      have H1 : (quarryref07_inside.l0 k1 (x3_1.set (x5_1 : Int).toNat (!x4_1)) (!x4_1) (wrap64 (x5_1 + 1))) = some r := by rw [if_pos rfl] at H;exact H
      clear H
      have H := H1
      clear H1
      obtain ⟨y195, hy195⟩ : ∃ y_ : List Bool, y_ = (x3_1.set (x5_1 : Int).toNat (!x4_1)) := ⟨_, rfl⟩
      replace H : (quarryref07_inside.l0 k1 y195 (!x4_1) (wrap64 (x5_1 + 1))) = some r := by first|(rw [hy195];with_reducible exact H)|(have H2_ := (zz3 _ _).symm.trans H;rw [hy195];with_reducible exact H2_)|(have H2_ := (zz3 _ _).symm.trans H;with_reducible exact H2_)|with_reducible exact H|(rw [hy195];exact H)|exact H
      have Ny195 := zA hy195
      clear hy195
      have H' := zA H
      clear H
      obtain ⟨Ao9, co9, eo9⟩ := Kd.R_slice HO_3.out
      subst eo9
      have p194 : 0 ≤ (x5_1 : Int) := zE (by first|(with_reducible assumption)|assumption)
      have q194 : x5_1 < (x3_1.length : Int) := zE (by first|(with_reducible assumption)|assumption)
      obtain ⟨ad194, e194, hx194_0⟩ := Kd.at_bool (Kd.R_reads' HO_3.out).2.2 x5_1 p194 q194
      (try rw [← Nbq6.out] at hx194_0)
      cases e194
      replace p194 := eq_true p194
      replace q194 := eq_true q194
      have p8 : 0 ≤ (x5_1 : Int) := zE (by first|(with_reducible assumption)|assumption)
      have q8 : (x5_1 : Int) < ((x3_1.length : Int) : Int) := zE (by first|(with_reducible assumption)|assumption)
      obtain ⟨go8, co8, eo8, gb8, gl8, cl8, HG8⟩ := Kd.R_form HO_3.out (by omega)
      (first|cases eo8|(injection eo8 with ea_ en_ ec_;(first|subst ea_|(injection ea_ with ea_;subst ea_));subst ec_;clear en_))
      have GB8 := zA gb8
      have GG8 := zA HG8
      clear gb8 gl8 HG8
      (first|simp only [add_plain] at hx194_0|skip)
      obtain ⟨hx8_0, hf8_0⟩ := Kd.R_celln false HO_3.out (x5_1 : Int) p8 q8
      replace p8 := eq_true p8
      replace q8 := eq_true q8
      have HP10 := Kd.R_putg HO_3.out (x5_1 : Int) (!x4_1)
      go_wp2_with (first|((with_reducible refine gate_store (t := 4) (p := 23) rfl ?_);refine store_event (t := 4) (p := 23) (v := ?vo_w11) (w1 := (wr.setCell ⟨go8, (x5_1 : Int).toNat, none⟩ (.bool (!x4_1)))) ?hg ?ho ?hn ?hr ?_;(case ho => rfl);(case hg => rfl);(case hn => rfl);(case hr => first|(go_simp;done)|(go_simp;rfl));intro w11 hw;have hg : wr.grownBy w11 (some go8) := (by rw [hw];exact HP10.2);have hp_ : Kd.R Kd.bool 4 w11 w.heap.size (fun _ => True) (.slice (some ⟨go8, 0, none⟩) x3_1.length co9) y195 := (by rw [hw, Ny195.out];exact HP10.1);clear HP10;have n0_ := zA (hp_);have n1_ := zA ((by rw [hw];exact zI (HB.out) GB8.out : Below w.heap.size w w11));clear HO_3;clear HB;have HO_3 := n0_;have HB := n1_;clear n0_ n1_;clear hg hw hp_))
      go_roundg k1
      case measure => have := HK1.out;omega
      case rel => exact ⟨(y195), (!x4_1), (wrap64 (x5_1 + 1)), (by first|rfl|(simp;done)|(simp [*];done)), (by first|rfl|(simp;done)|(simp [*];done)), H', ⟨by have := HK1.out;omega⟩, ⟨by (with_reducible repeat (first|apply yy1|apply yy2|apply yy3));exact HO_3.out⟩, ⟨by repeat (first|(with_reducible first|exact HB.out|apply zG|apply zF|apply zH)|exact HB.out)⟩⟩
     ·replace c7 := Bool.eq_false_iff.mpr c7
      subst c7
      have H1 : (quarryref07_inside.l0 k1 (x3_1.set (x5_1 : Int).toNat x4_1) x4_1 (wrap64 (x5_1 + 1))) = some r := by rw [if_neg (show ¬ (false = true) by decide)] at H;exact H
      clear H
      have H := H1
      clear H1
      obtain ⟨y196, hy196⟩ : ∃ y_ : List Bool, y_ = (x3_1.set (x5_1 : Int).toNat x4_1) := ⟨_, rfl⟩
      replace H : (quarryref07_inside.l0 k1 y196 x4_1 (wrap64 (x5_1 + 1))) = some r := by first|(rw [hy196];with_reducible exact H)|(have H2_ := (zz3 _ _).symm.trans H;rw [hy196];with_reducible exact H2_)|(have H2_ := (zz3 _ _).symm.trans H;with_reducible exact H2_)|with_reducible exact H|(rw [hy196];exact H)|exact H
      have Ny196 := zA hy196
      clear hy196
      have H' := zA H
      clear H
      obtain ⟨Ao13, co13, eo13⟩ := Kd.R_slice HO_3.out
      subst eo13
      have p194 : 0 ≤ (x5_1 : Int) := zE (by first|(with_reducible assumption)|assumption)
      have q194 : x5_1 < (x3_1.length : Int) := zE (by first|(with_reducible assumption)|assumption)
      obtain ⟨ad194, e194, hx194_0⟩ := Kd.at_bool (Kd.R_reads' HO_3.out).2.2 x5_1 p194 q194
      (try rw [← Nbq6.out] at hx194_0)
      cases e194
      replace p194 := eq_true p194
      replace q194 := eq_true q194
      have p12 : 0 ≤ (x5_1 : Int) := zE (by first|(with_reducible assumption)|assumption)
      have q12 : (x5_1 : Int) < ((x3_1.length : Int) : Int) := zE (by first|(with_reducible assumption)|assumption)
      obtain ⟨go12, co12, eo12, gb12, gl12, cl12, HG12⟩ := Kd.R_form HO_3.out (by omega)
      (first|cases eo12|(injection eo12 with ea_ en_ ec_;(first|subst ea_|(injection ea_ with ea_;subst ea_));subst ec_;clear en_))
      have GB12 := zA gb12
      have GG12 := zA HG12
      clear gb12 gl12 HG12
      (first|simp only [add_plain] at hx194_0|skip)
      obtain ⟨hx12_0, hf12_0⟩ := Kd.R_celln false HO_3.out (x5_1 : Int) p12 q12
      replace p12 := eq_true p12
      replace q12 := eq_true q12
      have HP14 := Kd.R_putg HO_3.out (x5_1 : Int) x4_1
      go_wp2_with (first|((with_reducible refine gate_store (t := 4) (p := 23) rfl ?_);refine store_event (t := 4) (p := 23) (v := ?vo_w15) (w1 := (wr.setCell ⟨go12, (x5_1 : Int).toNat, none⟩ (.bool x4_1))) ?hg ?ho ?hn ?hr ?_;(case ho => rfl);(case hg => rfl);(case hn => rfl);(case hr => first|(go_simp;done)|(go_simp;rfl));intro w15 hw;have hg : wr.grownBy w15 (some go12) := (by rw [hw];exact HP14.2);have hp_ : Kd.R Kd.bool 4 w15 w.heap.size (fun _ => True) (.slice (some ⟨go12, 0, none⟩) x3_1.length co13) y196 := (by rw [hw, Ny196.out];exact HP14.1);clear HP14;have n0_ := zA (hp_);have n1_ := zA ((by rw [hw];exact zI (HB.out) GB12.out : Below w.heap.size w w15));clear HO_3;clear HB;have HO_3 := n0_;have HB := n1_;clear n0_ n1_;clear hg hw hp_))
      go_roundg k1
      case measure => have := HK1.out;omega
      case rel => exact ⟨(y196), (x4_1), (wrap64 (x5_1 + 1)), (by first|rfl|(simp;done)|(simp [*];done)), (by first|rfl|(simp;done)|(simp [*];done)), H', ⟨by have := HK1.out;omega⟩, ⟨by (with_reducible repeat (first|apply yy1|apply yy2|apply yy3));exact HO_3.out⟩, ⟨by repeat (first|(with_reducible first|exact HB.out|apply zG|apply zF|apply zH)|exact HB.out)⟩⟩
    ·rw [if_neg c5] at H
     exact absurd H (by simp)
   ·rw [if_neg c4] at H
    have c4b0 : decide (x5_1 < (x3_1.length : Int)) = false := decide_eq_false c4
    clear c4
    obtain rfl := Option.some.inj H
    obtain ⟨Ao16, co16, eo16⟩ := Kd.R_slice HO_3.out
    subst eo16
    go_wp2
    go_ret
    exact ⟨_, by first|rfl|(simp [errW_none, errW_some] <;> rfl)|(simp [*, errW_none, errW_some] <;> rfl), by (with_reducible repeat (first|apply yy1|apply yy2|apply yy3));exact HO_3.out, by repeat (first|(with_reducible first|exact HB.out|apply zG|apply zF|apply zH)|exact HB.out)⟩

def quarryref07_In.f (k : Nat) (a0 : ByteArray) : Option (List Bool) := (quarryref07_inside.f k a0).bind fun t197 => (some t197)
set_option maxHeartbeats 8000000 in
set_option maxRecDepth 100000 in
theorem quarryref07_In.calls (k : Nat) (a0 : ByteArray) (r : List Bool) (w : World) (h : quarryref07_In.f k a0 = some r) :
  Calls Tryd.prog 101 #[.string a0] w fun e w' => ∃ v0_ : Value, e = .returned (v0_) ∧ Kd.R Kd.bool 4 w' w.heap.size (fun _ => True) v0_ r ∧ Below w.heap.size w w' := by
 have HB := zA (Below.refl w.heap.size w)
 have H : ((quarryref07_inside.f k a0).bind fun t197 => (some t197)) = some r := h
 clear h
 replace H := Option.bind_eq_some_iff.mp H
 obtain ⟨t197, A20, H⟩ := H
 replace H : (some t197) = some r := H
 have A2 := zA A20
 clear A20
 obtain rfl := Option.some.inj H
 go_enter Tryd.func101, Tryd.ntmps101
 go_wp2_with (first|((with_reducible refine gate_callee (f := 111) rfl ?_);refine goesL_ (some 4) rfl rfl Tryd.func111 (by kernel_rfl) rfl #[.string a0] rfl (by (try simp only [List.map_toArray, List.map_cons, List.map_nil]);first|done|rfl|(simp only [List.length_drop, List.length_take];rfl)) ?_;(with_reducible refine (quarryref07_inside.calls k a0 t197 _ A2.out).mono ?_);rintro e w3 ⟨v198, rfl, ho0, hb⟩;refine ⟨_, rfl, ?_⟩;have n0_ := zA (Kd.R_lower ho0 (zO (by repeat (first|(with_reducible first|exact HB.out|apply zG|apply zF|apply zH)|exact HB.out))));have n1_ := zA (zN (by repeat (first|(with_reducible first|exact HB.out|apply zG|apply zF|apply zH)|exact HB.out)) hb);clear HB;have HO199 := n0_;have HB := n1_;clear n0_ n1_;(try clear hb);(try clear hb2);(try clear hk);(try clear hi);(try clear ho0)))
 go_ret
 exact ⟨_, by first|rfl|(simp [errW_none, errW_some] <;> rfl)|(simp [*, errW_none, errW_some] <;> rfl), by (with_reducible repeat (first|apply yy1|apply yy2|apply yy3));exact HO199.out, by repeat (first|(with_reducible first|exact HB.out|apply zG|apply zF|apply zH)|exact HB.out)⟩

def quarryref10_Outside.l0 : Nat → ByteArray → List Bool → List Bool → List Bool → Int → Option (List Bool)
 | 0, _, _, _, _, _ => none
 | k + 1, x0, x3, x4, x5, x6 => if x6 < (x0.size : Int) then (if 0 ≤ x6 then (if x6 < (x3.length : Int) then (if rdOf false x3 x6 = true then (if x6 < (x5.length : Int) then (quarryref10_Outside.l0 k x0 x3 x4 (x5.set (x6 : Int).toNat false) (wrap64 (x6 + 1))) else (none)) else (if x6 < (x4.length : Int) then (if x6 < (x5.length : Int) then (quarryref10_Outside.l0 k x0 x3 x4 (x5.set (x6 : Int).toNat (!(rdOf false x4 x6))) (wrap64 (x6 + 1))) else (none)) else (none))) else (none)) else (none)) else (some x5)
def quarryref10_Outside.f (k : Nat) (a0 : ByteArray) : Option (List Bool) := (quarryref07_Is.f k a0).bind fun t200 => ((quarryref07_In.f k a0).bind fun t203 => (if 0 ≤ (a0.size : Int) then (if ((a0.size : Int) : Int).toNat ≤ 281474976710656 then (quarryref10_Outside.l0 k a0 t200 t203 (List.replicate ((a0.size : Int) : Int).toNat false) 0) else (none)) else (none)))
set_option maxHeartbeats 8000000 in
set_option maxRecDepth 100000 in
theorem quarryref10_Outside.calls (k : Nat) (a0 : ByteArray) (r : List Bool) (w : World) (h : quarryref10_Outside.f k a0 = some r) :
  Calls Tryd.prog 66 #[.string a0] w fun e w' => ∃ v0_ : Value, e = .returned (v0_) ∧ Kd.R Kd.bool 4 w' w.heap.size (fun _ => True) v0_ r ∧ Below w.heap.size w w' := by
 have HB := zA (Below.refl w.heap.size w)
 have H : ((quarryref07_Is.f k a0).bind fun t200 => ((quarryref07_In.f k a0).bind fun t203 => (if 0 ≤ (a0.size : Int) then (if ((a0.size : Int) : Int).toNat ≤ 281474976710656 then (quarryref10_Outside.l0 k a0 t200 t203 (List.replicate ((a0.size : Int) : Int).toNat false) 0) else (none)) else (none)))) = some r := h
 clear h
 replace H := Option.bind_eq_some_iff.mp H
 obtain ⟨t200, A20, H⟩ := H
 replace H : ((quarryref07_In.f k a0).bind fun t203 => (if 0 ≤ (a0.size : Int) then (if ((a0.size : Int) : Int).toNat ≤ 281474976710656 then (quarryref10_Outside.l0 k a0 t200 t203 (List.replicate ((a0.size : Int) : Int).toNat false) 0) else (none)) else (none))) = some r := H
 have A2 := zA A20
 clear A20
 replace H := Option.bind_eq_some_iff.mp H
 obtain ⟨t203, A30, H⟩ := H
 replace H : (if 0 ≤ (a0.size : Int) then (if ((a0.size : Int) : Int).toNat ≤ 281474976710656 then (quarryref10_Outside.l0 k a0 t200 t203 (List.replicate ((a0.size : Int) : Int).toNat false) 0) else (none)) else (none)) = some r := H
 have A3 := zA A30
 clear A30
 by_cases c4 : 0 ≤ (a0.size : Int)
 ·rw [if_pos c4] at H
  have c4b0 := eq_true c4
  have c4b1 : decide (0 ≤ (a0.size : Int)) = true := zz1 c4
  clear c4
  by_cases c5 : ((a0.size : Int) : Int).toNat ≤ 281474976710656
  ·rw [if_pos c5] at H
   have c5b0 := eq_true c5
   have c5b1 : decide (((a0.size : Int) : Int).toNat ≤ 281474976710656) = true := zz1 c5
   clear c5
   obtain ⟨y206, hy206⟩ : ∃ y_ : List Bool, y_ = (List.replicate ((a0.size : Int) : Int).toNat false) := ⟨_, rfl⟩
   replace H : (quarryref10_Outside.l0 k a0 t200 t203 y206 0) = some r := by first|(rw [hy206];with_reducible exact H)|(have H2_ := (zz3 _ _).symm.trans H;rw [hy206];with_reducible exact H2_)|(have H2_ := (zz3 _ _).symm.trans H;with_reducible exact H2_)|with_reducible exact H|(rw [hy206];exact H)|exact H
   have Ny206 := zA hy206
   clear hy206
   have H' := zA H
   clear H
   go_enter Tryd.func66, Tryd.ntmps66
   go_wp2_with (first|((with_reducible refine gate_callee (f := 100) rfl ?_);refine goesL_ (some 8) rfl rfl Tryd.func100 (by kernel_rfl) rfl #[.string a0] rfl (by (try simp only [List.map_toArray, List.map_cons, List.map_nil]);first|done|rfl|(simp only [List.length_drop, List.length_take];rfl)) ?_;(with_reducible refine (quarryref07_Is.calls k a0 t200 _ A2.out).mono ?_);rintro e w6 ⟨v201, rfl, ho0, hb⟩;refine ⟨_, rfl, ?_⟩;have n0_ := zA (Kd.R_lower ho0 (zO (by repeat (first|(with_reducible first|exact HB.out|apply zG|apply zF|apply zH)|exact HB.out))));have n1_ := zA (zN (by repeat (first|(with_reducible first|exact HB.out|apply zG|apply zF|apply zH)|exact HB.out)) hb);clear HB;have HO202 := n0_;have HB := n1_;clear n0_ n1_;(try clear hb);(try clear hb2);(try clear hk);(try clear hi);(try clear ho0))|((with_reducible refine gate_callee (f := 101) rfl ?_);refine goesL_ (some 10) rfl rfl Tryd.func101 (by kernel_rfl) rfl #[.string a0] rfl (by (try simp only [List.map_toArray, List.map_cons, List.map_nil]);first|done|rfl|(simp only [List.length_drop, List.length_take];rfl)) ?_;(with_reducible refine (quarryref07_In.calls k a0 t203 _ A3.out).mono ?_);rintro e w7 ⟨v204, rfl, ho0, hb⟩;refine ⟨_, rfl, ?_⟩;have n0_ := zA (Kd.R_elder' (by (with_reducible repeat (first|apply yy1|apply yy2|apply yy3));exact HO202.out) (Kd.R_base ho0) hb);have n1_ := zA (Kd.R_lower (Kd.R_new' ho0 (Kd.R_lt (by (with_reducible repeat (first|apply yy1|apply yy2|apply yy3));exact HO202.out))) (zO (by repeat (first|(with_reducible first|exact HB.out|apply zG|apply zF|apply zH)|exact HB.out))));have n2_ := zA (zN (by repeat (first|(with_reducible first|exact HB.out|apply zG|apply zF|apply zH)|exact HB.out)) hb);clear HO202;clear HB;have HO202 := n0_;have HO205 := n1_;have HB := n2_;clear n0_ n1_ n2_;(try clear hb);(try clear hb2);(try clear hk);(try clear hi);(try clear ho0))|((with_reducible refine gate_dst (N := 13) rfl ?_);refine Kd.R_make Kd.bool _ 4 rfl (N := 13) rfl 38 _ _ rfl (a0.size : Int) rfl rfl Tryd.underlying38 (.bool false) 1 info4 rfl (by decide) (by omega) false (ok := fun _ => True) (okp := fun _ => True) rfl (fun _ hk => hk) trivial (zE (by first|(with_reducible assumption)|assumption)) (zz2 (Nat.mul_le_mul_right _ (zE (by first|(with_reducible assumption)|assumption) : (a0.size : Int).toNat ≤ 281474976710656)) (by omega)) (Below.refl _ _) (Nat.le_refl _) ?_;intro v207 w8 ho9 hb hg_ hnew_;clear hg_ hnew_;(first|rw [← Ny206.out] at ho9|(simp only [Int.reduceToNat] at ho9;rw [← Ny206.out] at ho9));have n0_ := zA (Kd.R_elder' (by (with_reducible repeat (first|apply yy1|apply yy2|apply yy3));exact HO202.out) (Kd.R_base ho9) hb);have n1_ := zA (Kd.R_elder' (by (with_reducible repeat (first|apply yy1|apply yy2|apply yy3));exact HO205.out) (Kd.R_base ho9) hb);have n2_ := zA (Kd.R_lower (Kd.R_new' (Kd.R_new' ho9 (Kd.R_lt (by (with_reducible repeat (first|apply yy1|apply yy2|apply yy3));exact HO202.out))) (Kd.R_lt (by (with_reducible repeat (first|apply yy1|apply yy2|apply yy3));exact HO205.out))) (zO (by repeat (first|(with_reducible first|exact HB.out|apply zG|apply zF|apply zH)|exact HB.out))));have n3_ := zA (zN (by repeat (first|(with_reducible first|exact HB.out|apply zG|apply zF|apply zH)|exact HB.out)) hb);clear HO202;clear HO205;clear HB;have HO202 := n0_;have HO205 := n1_;have HO208 := n2_;have HB := n3_;clear n0_ n1_ n2_ n3_;clear hb ho9))
   go_loopg [6] k (fun kq v6 w' => ∃ (x5_1 : List Bool) (x6_1 : Int), v6 = .int .i64 x6_1 ∧ Aside0 (quarryref10_Outside.l0 kq a0 t200 t203 x5_1 x6_1 = some r) ∧ Aside0 (kq ≤ k) ∧ Aside0 (Kd.R Kd.bool 4 w' w.heap.size (fun k_ => some k_ ≠ (v204 : Value).ownBlock ∧ some k_ ≠ (v207 : Value).ownBlock) v201 t200) ∧ Aside0 (Kd.R Kd.bool 4 w' w.heap.size (fun k_ => some k_ ≠ (v201 : Value).ownBlock ∧ some k_ ≠ (v207 : Value).ownBlock) v204 t203) ∧ Aside0 (Kd.R Kd.bool 4 w' w.heap.size (fun k_ => some k_ ≠ (v201 : Value).ownBlock ∧ some k_ ≠ (v204 : Value).ownBlock) v207 x5_1) ∧ Aside0 (Below w.heap.size w w'))
   case atStart => exact ⟨(y206), (0), (by first|rfl|(simp;done)|(simp [*];done)), H', ⟨Nat.le_refl _⟩, ⟨by (with_reducible repeat (first|apply yy1|apply yy2|apply yy3));exact Kd.R_mono HO202.out (fun _ hk => ⟨hk.1.2, hk.2⟩)⟩, ⟨by (with_reducible repeat (first|apply yy1|apply yy2|apply yy3));exact Kd.R_mono HO205.out (fun _ hk => ⟨hk.1.2, hk.2⟩)⟩, ⟨by (with_reducible repeat (first|apply yy1|apply yy2|apply yy3));exact Kd.R_mono HO208.out (fun _ hk => ⟨hk.1.2, hk.2⟩)⟩, ⟨by repeat (first|(with_reducible first|exact HB.out|apply zG|apply zF|apply zH)|exact HB.out)⟩⟩
   case round =>
    clear H'
    try clear c1
    try clear p2
    try clear c4
    try clear c4b0
    try clear c4b1
    try clear c5
    try clear c5b0
    try clear c5b1
    try clear c6
    obtain ⟨x5_1, x6_1, rfl, HA, HK1, HO_3, HO_4, HO_5, HB⟩ := hrel
    cases gk with
    | zero => exact absurd HA.out (by simp [quarryref10_Outside.l0])
    | succ k1 =>
     have H := HA.out
     clear HA
     simp only [quarryref10_Outside.l0] at H
     by_cases c10 : x6_1 < (a0.size : Int)
     ·rw [if_pos c10] at H
      have c10b0 : decide (x6_1 < (a0.size : Int)) = true := zz1 c10
      clear c10
      by_cases c11 : 0 ≤ x6_1
      ·rw [if_pos c11] at H
       have c11b0 : decide (0 ≤ x6_1) = true := zz1 c11
       clear c11
       by_cases c12 : x6_1 < (t200.length : Int)
       ·rw [if_pos c12] at H
        have c12b0 : decide (x6_1 < (t200.length : Int)) = true := zz1 c12
        clear c12
        obtain ⟨bq13, hbq13⟩ : ∃ b_ : Bool, b_ = (rdOf false t200 x6_1) := ⟨_, rfl⟩
        replace H : (if bq13 = true then (if x6_1 < (x5_1.length : Int) then (quarryref10_Outside.l0 k1 a0 t200 t203 (x5_1.set (x6_1 : Int).toNat false) (wrap64 (x6_1 + 1))) else (none)) else (if x6_1 < (t203.length : Int) then (if x6_1 < (x5_1.length : Int) then (quarryref10_Outside.l0 k1 a0 t200 t203 (x5_1.set (x6_1 : Int).toNat (!(rdOf false t203 x6_1))) (wrap64 (x6_1 + 1))) else (none)) else (none))) = some r := by rw [← hbq13] at H;exact H
        have Nbq13 := zA hbq13
        clear hbq13
        by_cases c14 : bq13 = true
        ·subst c14
         have H1 : (if x6_1 < (x5_1.length : Int) then (quarryref10_Outside.l0 k1 a0 t200 t203 (x5_1.set (x6_1 : Int).toNat false) (wrap64 (x6_1 + 1))) else (none)) = some r := by rw [if_pos rfl] at H;exact H
         clear H
         have H := H1
         clear H1
         by_cases c15 : x6_1 < (x5_1.length : Int)
         ·rw [if_pos c15] at H
          have c15b0 : decide (x6_1 < (x5_1.length : Int)) = true := zz1 c15
          clear c15
          obtain ⟨y210, hy210⟩ : ∃ y_ : List Bool, y_ = (x5_1.set (x6_1 : Int).toNat false) := ⟨_, rfl⟩
          replace H : (quarryref10_Outside.l0 k1 a0 t200 t203 y210 (wrap64 (x6_1 + 1))) = some r := by first|(rw [hy210];with_reducible exact H)|(have H2_ := (zz3 _ _).symm.trans H;rw [hy210];with_reducible exact H2_)|(have H2_ := (zz3 _ _).symm.trans H;with_reducible exact H2_)|with_reducible exact H|(rw [hy210];exact H)|exact H
          have Ny210 := zA hy210
          clear hy210
          have H' := zA H
          clear H
          obtain ⟨Ao17, co17, eo17⟩ := Kd.R_slice HO_3.out
          subst eo17
          have p209 : 0 ≤ (x6_1 : Int) := zE (by first|(with_reducible assumption)|assumption)
          have q209 : x6_1 < (t200.length : Int) := zE (by first|(with_reducible assumption)|assumption)
          obtain ⟨ad209, e209, hx209_0⟩ := Kd.at_bool (Kd.R_reads' HO_3.out).2.2 x6_1 p209 q209
          (try rw [← Nbq13.out] at hx209_0)
          cases e209
          replace p209 := eq_true p209
          replace q209 := eq_true q209
          have p16 : 0 ≤ (x6_1 : Int) := zE (by first|(with_reducible assumption)|assumption)
          have q16 : (x6_1 : Int) < ((x5_1.length : Int) : Int) := zE (by first|(with_reducible assumption)|assumption)
          obtain ⟨go16, co16, eo16, gb16, gl16, cl16, HG16⟩ := Kd.R_form HO_5.out (by omega)
          (first|cases eo16|(injection eo16 with ea_ en_ ec_;(first|subst ea_|(injection ea_ with ea_;subst ea_));subst ec_;clear en_))
          have GB16 := zA gb16
          have GG16 := zA HG16
          clear gb16 gl16 HG16
          obtain ⟨hx16_0, hf16_0⟩ := Kd.R_celln false HO_5.out (x6_1 : Int) p16 q16
          replace p16 := eq_true p16
          replace q16 := eq_true q16
          have HP18 := Kd.R_putg HO_5.out (x6_1 : Int) false
          go_wp2_with (first|((with_reducible refine gate_store (t := 4) (p := 34) rfl ?_);refine store_event (t := 4) (p := 34) (v := ?vo_w19) (w1 := (wr.setCell ⟨go16, (x6_1 : Int).toNat, none⟩ (.bool false))) ?hg ?ho ?hn ?hr ?_;(case ho => rfl);(case hg => rfl);(case hn => rfl);(case hr => first|(go_simp;done)|(go_simp;rfl));intro w19 hw;have hg : wr.grownBy w19 (some go16) := (by rw [hw];exact HP18.2);have hp_ : Kd.R Kd.bool 4 w19 w.heap.size (fun k_ => some k_ ≠ (.slice (some ad209) t200.length co17 : Value).ownBlock ∧ some k_ ≠ (v204 : Value).ownBlock) (.slice (some ⟨go16, 0, none⟩) x5_1.length co16) y210 := (by rw [hw, Ny210.out];exact HP18.1);clear HP18;have n0_ := zA (Kd.R_after (v := (.slice (some ⟨go16, 0, none⟩) x5_1.length co16)) (v1 := (.slice (some ⟨go16, 0, none⟩) x5_1.length co16)) (ok := (fun k_ => some k_ ≠ (v204 : Value).ownBlock)) (by (with_reducible repeat (first|apply yy1|apply yy2|apply yy3));exact HO_3.out) hg (.inl rfl));have n1_ := zA (Kd.R_after (v := (.slice (some ⟨go16, 0, none⟩) x5_1.length co16)) (v1 := (.slice (some ⟨go16, 0, none⟩) x5_1.length co16)) (ok := (fun k_ => some k_ ≠ (.slice (some ad209) t200.length co17 : Value).ownBlock)) (by (with_reducible repeat (first|apply yy1|apply yy2|apply yy3));exact HO_4.out) hg (.inl rfl));have n2_ := zA (hp_);have n3_ := zA ((by rw [hw];exact zI (HB.out) GB16.out : Below w.heap.size w w19));clear HO_3;clear HO_4;clear HO_5;clear HB;have HO_3 := n0_;have HO_4 := n1_;have HO_5 := n2_;have HB := n3_;clear n0_ n1_ n2_ n3_;clear hg hw hp_))
          go_roundg k1
          case measure => have := HK1.out;omega
          case rel => exact ⟨(y210), (wrap64 (x6_1 + 1)), (by first|rfl|(simp;done)|(simp [*];done)), H', ⟨by have := HK1.out;omega⟩, ⟨by (with_reducible repeat (first|apply yy1|apply yy2|apply yy3));exact HO_3.out⟩, ⟨by (with_reducible repeat (first|apply yy1|apply yy2|apply yy3));exact HO_4.out⟩, ⟨by (with_reducible repeat (first|apply yy1|apply yy2|apply yy3));exact HO_5.out⟩, ⟨by repeat (first|(with_reducible first|exact HB.out|apply zG|apply zF|apply zH)|exact HB.out)⟩⟩
         ·rw [if_neg c15] at H
          exact absurd H (by simp)
        ·replace c14 := Bool.eq_false_iff.mpr c14
         subst c14
         have H1 : (if x6_1 < (t203.length : Int) then (if x6_1 < (x5_1.length : Int) then (quarryref10_Outside.l0 k1 a0 t200 t203 (x5_1.set (x6_1 : Int).toNat (!(rdOf false t203 x6_1))) (wrap64 (x6_1 + 1))) else (none)) else (none)) = some r := by rw [if_neg (show ¬ (false = true) by decide)] at H;exact H
         clear H
         have H := H1
         clear H1
         by_cases c20 : x6_1 < (t203.length : Int)
         ·rw [if_pos c20] at H
          have c20b0 : decide (x6_1 < (t203.length : Int)) = true := zz1 c20
          clear c20
          by_cases c21 : x6_1 < (x5_1.length : Int)
          ·rw [if_pos c21] at H
           have c21b0 : decide (x6_1 < (x5_1.length : Int)) = true := zz1 c21
           clear c21
           obtain ⟨y212, hy212⟩ : ∃ y_ : List Bool, y_ = (x5_1.set (x6_1 : Int).toNat (!(rdOf false t203 x6_1))) := ⟨_, rfl⟩
           replace H : (quarryref10_Outside.l0 k1 a0 t200 t203 y212 (wrap64 (x6_1 + 1))) = some r := by first|(rw [hy212];with_reducible exact H)|(have H2_ := (zz3 _ _).symm.trans H;rw [hy212];with_reducible exact H2_)|(have H2_ := (zz3 _ _).symm.trans H;with_reducible exact H2_)|with_reducible exact H|(rw [hy212];exact H)|exact H
           have Ny212 := zA hy212
           clear hy212
           have H' := zA H
           clear H
           obtain ⟨Ao23, co23, eo23⟩ := Kd.R_slice HO_3.out
           subst eo23
           have p209 : 0 ≤ (x6_1 : Int) := zE (by first|(with_reducible assumption)|assumption)
           have q209 : x6_1 < (t200.length : Int) := zE (by first|(with_reducible assumption)|assumption)
           obtain ⟨ad209, e209, hx209_0⟩ := Kd.at_bool (Kd.R_reads' HO_3.out).2.2 x6_1 p209 q209
           (try rw [← Nbq13.out] at hx209_0)
           cases e209
           replace p209 := eq_true p209
           replace q209 := eq_true q209
           obtain ⟨Ao24, co24, eo24⟩ := Kd.R_slice HO_4.out
           subst eo24
           have p211 : 0 ≤ (x6_1 : Int) := zE (by first|(with_reducible assumption)|assumption)
           have q211 : x6_1 < (t203.length : Int) := zE (by first|(with_reducible assumption)|assumption)
           obtain ⟨ad211, e211, hx211_0⟩ := Kd.at_bool (Kd.R_reads' HO_4.out).2.2 x6_1 p211 q211
           (try rw [← Nbq13.out] at hx211_0)
           cases e211
           replace p211 := eq_true p211
           replace q211 := eq_true q211
           have p22 : 0 ≤ (x6_1 : Int) := zE (by first|(with_reducible assumption)|assumption)
           have q22 : (x6_1 : Int) < ((x5_1.length : Int) : Int) := zE (by first|(with_reducible assumption)|assumption)
           obtain ⟨go22, co22, eo22, gb22, gl22, cl22, HG22⟩ := Kd.R_form HO_5.out (by omega)
           (first|cases eo22|(injection eo22 with ea_ en_ ec_;(first|subst ea_|(injection ea_ with ea_;subst ea_));subst ec_;clear en_))
           have GB22 := zA gb22
           have GG22 := zA HG22
           clear gb22 gl22 HG22
           obtain ⟨hx22_0, hf22_0⟩ := Kd.R_celln false HO_5.out (x6_1 : Int) p22 q22
           replace p22 := eq_true p22
           replace q22 := eq_true q22
           have HP25 := Kd.R_putg HO_5.out (x6_1 : Int) (!(rdOf false t203 x6_1))
           go_wp2_with (first|((with_reducible refine gate_store (t := 4) (p := 34) rfl ?_);refine store_event (t := 4) (p := 34) (v := ?vo_w26) (w1 := (wr.setCell ⟨go22, (x6_1 : Int).toNat, none⟩ (.bool (!(rdOf false t203 x6_1))))) ?hg ?ho ?hn ?hr ?_;(case ho => rfl);(case hg => rfl);(case hn => rfl);(case hr => first|(go_simp;done)|(go_simp;rfl));intro w26 hw;have hg : wr.grownBy w26 (some go22) := (by rw [hw];exact HP25.2);have hp_ : Kd.R Kd.bool 4 w26 w.heap.size (fun k_ => some k_ ≠ (.slice (some ad209) t200.length co23 : Value).ownBlock ∧ some k_ ≠ (.slice (some ad211) t203.length co24 : Value).ownBlock) (.slice (some ⟨go22, 0, none⟩) x5_1.length co22) y212 := (by rw [hw, Ny212.out];exact HP25.1);clear HP25;have n0_ := zA (Kd.R_after (v := (.slice (some ⟨go22, 0, none⟩) x5_1.length co22)) (v1 := (.slice (some ⟨go22, 0, none⟩) x5_1.length co22)) (ok := (fun k_ => some k_ ≠ (.slice (some ad211) t203.length co24 : Value).ownBlock)) (by (with_reducible repeat (first|apply yy1|apply yy2|apply yy3));exact HO_3.out) hg (.inl rfl));have n1_ := zA (Kd.R_after (v := (.slice (some ⟨go22, 0, none⟩) x5_1.length co22)) (v1 := (.slice (some ⟨go22, 0, none⟩) x5_1.length co22)) (ok := (fun k_ => some k_ ≠ (.slice (some ad209) t200.length co23 : Value).ownBlock)) (by (with_reducible repeat (first|apply yy1|apply yy2|apply yy3));exact HO_4.out) hg (.inl rfl));have n2_ := zA (hp_);have n3_ := zA ((by rw [hw];exact zI (HB.out) GB22.out : Below w.heap.size w w26));clear HO_3;clear HO_4;clear HO_5;clear HB;have HO_3 := n0_;have HO_4 := n1_;have HO_5 := n2_;have HB := n3_;clear n0_ n1_ n2_ n3_;clear hg hw hp_))
           go_roundg k1
           case measure => have := HK1.out;omega
           case rel => exact ⟨(y212), (wrap64 (x6_1 + 1)), (by first|rfl|(simp;done)|(simp [*];done)), H', ⟨by have := HK1.out;omega⟩, ⟨by (with_reducible repeat (first|apply yy1|apply yy2|apply yy3));exact HO_3.out⟩, ⟨by (with_reducible repeat (first|apply yy1|apply yy2|apply yy3));exact HO_4.out⟩, ⟨by (with_reducible repeat (first|apply yy1|apply yy2|apply yy3));exact HO_5.out⟩, ⟨by repeat (first|(with_reducible first|exact HB.out|apply zG|apply zF|apply zH)|exact HB.out)⟩⟩
          ·rw [if_neg c21] at H
           exact absurd H (by simp)
         ·rw [if_neg c20] at H
          exact absurd H (by simp)
       ·rw [if_neg c12] at H
        exact absurd H (by simp)
      ·rw [if_neg c11] at H
       exact absurd H (by simp)
     ·rw [if_neg c10] at H
      have c10b0 : decide (x6_1 < (a0.size : Int)) = false := decide_eq_false c10
      clear c10
      obtain rfl := Option.some.inj H
      go_wp2
      go_ret
      exact ⟨_, by first|rfl|(simp [errW_none, errW_some] <;> rfl)|(simp [*, errW_none, errW_some] <;> rfl), by (with_reducible repeat (first|apply yy1|apply yy2|apply yy3));exact Kd.R_mono HO_5.out (fun _ hk => trivial), by repeat (first|(with_reducible first|exact HB.out|apply zG|apply zF|apply zH)|exact HB.out)⟩
  ·rw [if_neg c5] at H
   exact absurd H (by simp)
 ·rw [if_neg c4] at H
  exact absurd H (by simp)

def quarryref10_Opens.f (a0 : Int) : Option (Bool) := if a0 = 123 then (some true) else (some (a0 == 91))
set_option maxHeartbeats 8000000 in
set_option maxRecDepth 100000 in
theorem quarryref10_Opens.calls (a0 : Int) (r : Bool) (w : World) (h : quarryref10_Opens.f a0 = some r) :
  Calls Tryd.prog 76 #[.int .u8 a0] w fun e w' => e = .returned (.bool r) ∧ Drawn0 w w' := by
 have H : (if a0 = 123 then (some true) else (some (a0 == 91))) = some r := h
 clear h
 by_cases c2 : a0 = 123
 ·rw [if_pos c2] at H
  have c2b0 : (a0 == 123) = true := beq_iff_eq.mpr c2
  have c2b1 : (a0 != 123) = false := bne_eq_false_iff_eq.mpr c2
  clear c2
  obtain rfl := Option.some.inj H
  go_enter Tryd.func76, Tryd.ntmps76
  go_wp2
  go_ret
  exact ⟨by first|rfl|(simp;done)|(simp [*];done), by repeat (first|exact Drawn0.refl _|apply Drawn0.step)⟩
 ·rw [if_neg c2] at H
  have c2b0 : (a0 == 123) = false := beq_eq_false_iff_ne.mpr c2
  have c2b1 : (a0 != 123) = true := bne_iff_ne.mpr c2
  obtain rfl := Option.some.inj H
  go_enter Tryd.func76, Tryd.ntmps76
  go_wp2
  go_ret
  exact ⟨by first|rfl|(simp;done)|(simp [*];done), by repeat (first|exact Drawn0.refl _|apply Drawn0.step)⟩

def quarryref10_Closes.f (a0 : Int) : Option (Bool) := if a0 = 125 then (some true) else (some (a0 == 93))
set_option maxHeartbeats 8000000 in
set_option maxRecDepth 100000 in
theorem quarryref10_Closes.calls (a0 : Int) (r : Bool) (w : World) (h : quarryref10_Closes.f a0 = some r) :
  Calls Tryd.prog 77 #[.int .u8 a0] w fun e w' => e = .returned (.bool r) ∧ Drawn0 w w' := by
 have H : (if a0 = 125 then (some true) else (some (a0 == 93))) = some r := h
 clear h
 by_cases c2 : a0 = 125
 ·rw [if_pos c2] at H
  have c2b0 : (a0 == 125) = true := beq_iff_eq.mpr c2
  have c2b1 : (a0 != 125) = false := bne_eq_false_iff_eq.mpr c2
  clear c2
  obtain rfl := Option.some.inj H
  go_enter Tryd.func77, Tryd.ntmps77
  go_wp2
  go_ret
  exact ⟨by first|rfl|(simp;done)|(simp [*];done), by repeat (first|exact Drawn0.refl _|apply Drawn0.step)⟩
 ·rw [if_neg c2] at H
  have c2b0 : (a0 == 125) = false := beq_eq_false_iff_ne.mpr c2
  have c2b1 : (a0 != 125) = true := bne_iff_ne.mpr c2
  obtain rfl := Option.some.inj H
  go_enter Tryd.func77, Tryd.ntmps77
  go_wp2
  go_ret
  exact ⟨by first|rfl|(simp;done)|(simp [*];done), by repeat (first|exact Drawn0.refl _|apply Drawn0.step)⟩

end Go.Proofs.YtgddljealeklkaaDoor.PL
end
-- PLx8
section
namespace Go.Proofs.YtgddljealeklkaaDoor.PL
open Go.RowKit Go.Proofs.YtgddljealeklkaaDoorW.PrintWords Go.Proofs.YtgddljealeklkaaDoorW.PrintLast Go.Proofs.YtgddljealeklkaaDoorW.PrintMore
attribute [local go_sem] max2_int min2_int max_two min_two max_three min_three max_four min_four   -- for this text's walks alone
set_option linter.unusedVariables false
set_option linter.unusedSimpArgs false

mutual
def quarryref10_Depths.l0 : Nat → ByteArray → List Bool → List Int → Int → Int → Option (List Int)
 | 0, _, _, _, _, _ => none
 | k + 1, x0, x3, x4, x5, x6 => if x6 < (x0.size : Int) then (if 0 ≤ x6 then (if x6 < (x3.length : Int) then (if rdOf false x3 x6 = true then ((quarryref10_Opens.f (bt x0 x6)).bind fun t220 => (quarryref10_Depths.j1 k x0 x3 x4 x5 x6 t220)) else (quarryref10_Depths.j1 k x0 x3 x4 x5 x6 false)) else (none)) else (none)) else (some x4)
def quarryref10_Depths.j1 : Nat → ByteArray → List Bool → List Int → Int → Int → Bool → Option (List Int)
 | 0, _, _, _, _, _, _ => none
 | k + 1, x0, x3, x4, x5, x6, x25 => if x25 = true then (if 0 ≤ x6 then (if x6 < (x3.length : Int) then (if rdOf false x3 x6 = true then (if x6 < (x0.size : Int) then ((quarryref10_Closes.f (bt x0 x6)).bind fun t222 => (if t222 = true then (if (wrap64 (x5 + 1)) > 0 then (if x4.length < 17592186044416 then (quarryref10_Depths.l0 k x0 x3 (x4 ++ [wrap64 ((wrap64 (x5 + 1)) - 1)]) (wrap64 ((wrap64 (x5 + 1)) - 1)) (wrap64 (x6 + 1))) else (none)) else (if x4.length < 17592186044416 then (quarryref10_Depths.l0 k x0 x3 (x4 ++ [wrap64 (x5 + 1)]) (wrap64 (x5 + 1)) (wrap64 (x6 + 1))) else (none))) else (if x4.length < 17592186044416 then (quarryref10_Depths.l0 k x0 x3 (x4 ++ [wrap64 (x5 + 1)]) (wrap64 (x5 + 1)) (wrap64 (x6 + 1))) else (none)))) else (none)) else (if x4.length < 17592186044416 then (quarryref10_Depths.l0 k x0 x3 (x4 ++ [wrap64 (x5 + 1)]) (wrap64 (x5 + 1)) (wrap64 (x6 + 1))) else (none))) else (none)) else (none)) else (if 0 ≤ x6 then (if x6 < (x3.length : Int) then (if rdOf false x3 x6 = true then (if x6 < (x0.size : Int) then ((quarryref10_Closes.f (bt x0 x6)).bind fun t236 => (if t236 = true then (if x5 > 0 then (if x4.length < 17592186044416 then (quarryref10_Depths.l0 k x0 x3 (x4 ++ [wrap64 (x5 - 1)]) (wrap64 (x5 - 1)) (wrap64 (x6 + 1))) else (none)) else (if x4.length < 17592186044416 then (quarryref10_Depths.l0 k x0 x3 (x4 ++ [x5]) x5 (wrap64 (x6 + 1))) else (none))) else (if x4.length < 17592186044416 then (quarryref10_Depths.l0 k x0 x3 (x4 ++ [x5]) x5 (wrap64 (x6 + 1))) else (none)))) else (none)) else (if x4.length < 17592186044416 then (quarryref10_Depths.l0 k x0 x3 (x4 ++ [x5]) x5 (wrap64 (x6 + 1))) else (none))) else (none)) else (none))
end
def quarryref10_Depths.f (k : Nat) (a0 : ByteArray) : Option (List Int) := (quarryref10_Outside.f k a0).bind fun t213 => (quarryref10_Depths.l0 k a0 t213 (([0] : List Int)) 0 0)
set_option maxHeartbeats 8000000 in
set_option maxRecDepth 100000 in
theorem quarryref10_Depths.calls (k : Nat) (a0 : ByteArray) (r : List Int) (w : World) (h : quarryref10_Depths.f k a0 = some r) :
  Calls Tryd.prog 67 #[.string a0] w fun e w' => ∃ v0_ : Value, e = .returned (v0_) ∧ Kd.R (Kd.int .i64) 3 w' w.heap.size (fun _ => True) v0_ r ∧ Below w.heap.size w w' := by
 have HB := zA (Below.refl w.heap.size w)
 have H : ((quarryref10_Outside.f k a0).bind fun t213 => (quarryref10_Depths.l0 k a0 t213 (([0] : List Int)) 0 0)) = some r := h
 clear h
 replace H := Option.bind_eq_some_iff.mp H
 obtain ⟨t213, A20, H⟩ := H
 replace H : (quarryref10_Depths.l0 k a0 t213 (([0] : List Int)) 0 0) = some r := H
 have A2 := zA A20
 clear A20
 obtain ⟨y216, hy216⟩ : ∃ y_ : List Int, y_ = (([0] : List Int)) := ⟨_, rfl⟩
 replace H : (quarryref10_Depths.l0 k a0 t213 y216 0 0) = some r := by first|(rw [hy216];with_reducible exact H)|(have H2_ := (zz3 _ _).symm.trans H;rw [hy216];with_reducible exact H2_)|(have H2_ := (zz3 _ _).symm.trans H;with_reducible exact H2_)|with_reducible exact H|(rw [hy216];exact H)|exact H
 have Ny216 := zA hy216
 clear hy216
 have H' := zA H
 clear H
 go_enter Tryd.func67, Tryd.ntmps67
 go_wp2_with (first|((with_reducible refine gate_callee (f := 66) rfl ?_);refine goesL_ (some 8) rfl rfl Tryd.func66 (by kernel_rfl) rfl #[.string a0] rfl (by (try simp only [List.map_toArray, List.map_cons, List.map_nil]);first|done|rfl|(simp only [List.length_drop, List.length_take];rfl)) ?_;(with_reducible refine (quarryref10_Outside.calls k a0 t213 _ A2.out).mono ?_);rintro e w3 ⟨v214, rfl, ho0, hb⟩;refine ⟨_, rfl, ?_⟩;have n0_ := zA (Kd.R_lower ho0 (zO (by repeat (first|(with_reducible first|exact HB.out|apply zG|apply zF|apply zH)|exact HB.out))));have n1_ := zA (zN (by repeat (first|(with_reducible first|exact HB.out|apply zG|apply zF|apply zH)|exact HB.out)) hb);clear HB;have HO215 := n0_;have HB := n1_;clear n0_ n1_;(try clear hb);(try clear hb2);(try clear hk);(try clear hi);(try clear ho0))|((with_reducible refine gate_dst (N := 9) rfl ?_);refine Kd.R_lit (Kd.int .i64) _ 3 ?hg (N := 9) ?hd (xs := ([0] : List Int)) (inner := [.int .i64 0]) (ok := fun _ => True) (okp := fun _ => True) ?hr ?hp (fun _ hk => hk) trivial (Below.refl _ _) (Nat.le_refl _) (by simp) ?_;(case hd => rfl);(case hg => rfl);(case hr => first|(go_simp;done)|(go_simp;rfl));(case hp => exact (Reps.one (show Kd.M (Kd.int .i64) _ _ _ 0 [.int .i64 0] from rfl) (Reps.none _ _)));intro v217 w4 ho5 hb hg_ hnew_;clear hg_ hnew_;(first|rw [← Ny216.out] at ho5|(simp only [Int.reduceToNat] at ho5;rw [← Ny216.out] at ho5));have n0_ := zA (yy9 (by (with_reducible repeat (first|apply yy1|apply yy2|apply yy3));exact HO215.out) hb);have n1_ := zA (Kd.R_lower ho5 (zO (by repeat (first|(with_reducible first|exact HB.out|apply zG|apply zF|apply zH)|exact HB.out))));have n2_ := zA (zN (by repeat (first|(with_reducible first|exact HB.out|apply zG|apply zF|apply zH)|exact HB.out)) hb);clear HO215;clear HB;have HO215 := n0_;have HO218 := n1_;have HB := n2_;clear n0_ n1_ n2_;clear hb ho5))
 go_loopg [4, 5, 6] k (fun kq v4 v5 v6 w' => ∃ (x4_1 : List Int) (x5_1 : Int) (x6_1 : Int), v5 = .int .i64 x5_1 ∧ v6 = .int .i64 x6_1 ∧ Aside0 (quarryref10_Depths.l0 kq a0 t213 x4_1 x5_1 x6_1 = some r) ∧ Aside0 (kq ≤ k) ∧ Aside0 (Kd.R Kd.bool 4 w' w.heap.size (fun _ => True) v214 t213) ∧ Aside0 (Kd.R (Kd.int .i64) 3 w' w.heap.size (fun _ => True) v4 x4_1) ∧ Aside0 (Below w.heap.size w w'))
 case atStart => exact ⟨(y216), (0), (0), (by first|rfl|(simp;done)|(simp [*];done)), (by first|rfl|(simp;done)|(simp [*];done)), H', ⟨Nat.le_refl _⟩, ⟨by (with_reducible repeat (first|apply yy1|apply yy2|apply yy3));exact HO215.out⟩, ⟨by (with_reducible repeat (first|apply yy1|apply yy2|apply yy3));exact HO218.out⟩, ⟨by repeat (first|(with_reducible first|exact HB.out|apply zG|apply zF|apply zH)|exact HB.out)⟩⟩
 case round =>
  clear H'
  try clear p2
  obtain ⟨x4_1, x5_1, x6_1, rfl, rfl, HA, HK1, HO_3, HO_4, HB⟩ := hrel
  cases gk with
  | zero => exact absurd HA.out (by simp [quarryref10_Depths.l0])
  | succ k1 =>
   have H := HA.out
   clear HA
   simp only [quarryref10_Depths.l0] at H
   by_cases c6 : x6_1 < (a0.size : Int)
   ·rw [if_pos c6] at H
    have c6b0 : decide (x6_1 < (a0.size : Int)) = true := zz1 c6
    clear c6
    have HC7 := zA H
    clear H
    go_upto_region 7 with (fail)
    go_cut [25] (fun v25 wc => ∃ (kq : Nat) (x25_6 : Bool), v25 = .bool x25_6 ∧ Aside0 (quarryref10_Depths.j1 kq a0 t213 x4_1 x5_1 x6_1 x25_6 = some r) ∧ Aside0 (kq ≤ k1) ∧ Aside0 (Kd.R Kd.bool 4 wc w.heap.size (fun _ => True) v214 t213) ∧ Aside0 (Kd.R (Kd.int .i64) 3 wc w.heap.size (fun _ => True) u4 x4_1) ∧ Aside0 (Below w.heap.size w wc))
    case first =>
     have H := HC7.out
     clear HC7
     by_cases c8 : 0 ≤ x6_1
     ·rw [if_pos c8] at H
      have c8b0 : decide (0 ≤ x6_1) = true := zz1 c8
      clear c8
      (first|rw [c8b0]|(simp only [i64_w, i32_w];rw [c8b0])|skip)
      by_cases c9 : x6_1 < (t213.length : Int)
      ·rw [if_pos c9] at H
       have c9b0 : decide (x6_1 < (t213.length : Int)) = true := zz1 c9
       clear c9
       obtain ⟨bq10, hbq10⟩ : ∃ b_ : Bool, b_ = (rdOf false t213 x6_1) := ⟨_, rfl⟩
       replace H : (if bq10 = true then ((quarryref10_Opens.f (bt a0 x6_1)).bind fun t220 => (quarryref10_Depths.j1 k1 a0 t213 x4_1 x5_1 x6_1 t220)) else (quarryref10_Depths.j1 k1 a0 t213 x4_1 x5_1 x6_1 false)) = some r := by rw [← hbq10] at H;exact H
       have Nbq10 := zA hbq10
       clear hbq10
       by_cases c11 : bq10 = true
       ·subst c11
        have H1 : ((quarryref10_Opens.f (bt a0 x6_1)).bind fun t220 => (quarryref10_Depths.j1 k1 a0 t213 x4_1 x5_1 x6_1 t220)) = some r := by rw [if_pos rfl] at H;exact H
        clear H
        have H := H1
        clear H1
        replace H := Option.bind_eq_some_iff.mp H
        obtain ⟨t220, A130, H⟩ := H
        replace H : (quarryref10_Depths.j1 k1 a0 t213 x4_1 x5_1 x6_1 t220) = some r := H
        have A13 := zA A130
        clear A130
        have H' := zA H
        clear H
        obtain ⟨Ao14, co14, eo14⟩ := Kd.R_slice HO_3.out
        subst eo14
        have p219 : 0 ≤ (x6_1 : Int) := zE (by first|(with_reducible assumption)|assumption)
        have q219 : x6_1 < (t213.length : Int) := zE (by first|(with_reducible assumption)|assumption)
        obtain ⟨ad219, e219, hx219_0⟩ := Kd.at_bool (Kd.R_reads' HO_3.out).2.2 x6_1 p219 q219
        (try rw [← Nbq10.out] at hx219_0)
        cases e219
        replace p219 := eq_true p219
        replace q219 := eq_true q219
        have p12 : 0 ≤ (x6_1 : Int) := zE (by first|(with_reducible assumption)|assumption)
        have q12 : x6_1 < (a0.size : Int) := zE (by first|(with_reducible assumption)|assumption)
        have hx12 := bt_at a0 x6_1
        replace p12 := eq_true p12
        replace q12 := eq_true q12
        go_wp2_with (first|(go_at_call 76;(with_reducible refine (quarryref10_Opens.calls (bt a0 x6_1) t220 _ A13.out).mono ?_);rintro e w' ⟨rfl, ⟨nd, rfl⟩⟩))
        go_meet
        case rel => exact ⟨_, (t220), (by first|rfl|(simp;done)|(simp [*];done)), H', ⟨by have := HK1.out;first|omega|exact Nat.le_refl _⟩, ⟨by (with_reducible repeat (first|apply yy1|apply yy2|apply yy3));exact HO_3.out⟩, ⟨by (with_reducible repeat (first|apply yy1|apply yy2|apply yy3));exact HO_4.out⟩, ⟨by repeat (first|(with_reducible first|exact HB.out|apply zG|apply zF|apply zH)|exact HB.out)⟩⟩
       ·replace c11 := Bool.eq_false_iff.mpr c11
        subst c11
        have H1 : (quarryref10_Depths.j1 k1 a0 t213 x4_1 x5_1 x6_1 false) = some r := by rw [if_neg (show ¬ (false = true) by decide)] at H;exact H
        clear H
        have H := H1
        clear H1
        have H' := zA H
        clear H
        obtain ⟨Ao15, co15, eo15⟩ := Kd.R_slice HO_3.out
        subst eo15
        have p219 : 0 ≤ (x6_1 : Int) := zE (by first|(with_reducible assumption)|assumption)
        have q219 : x6_1 < (t213.length : Int) := zE (by first|(with_reducible assumption)|assumption)
        obtain ⟨ad219, e219, hx219_0⟩ := Kd.at_bool (Kd.R_reads' HO_3.out).2.2 x6_1 p219 q219
        (try rw [← Nbq10.out] at hx219_0)
        cases e219
        replace p219 := eq_true p219
        replace q219 := eq_true q219
        go_wp2
        go_meet
        case rel => exact ⟨_, (false), (by first|rfl|(simp;done)|(simp [*];done)), H', ⟨by have := HK1.out;first|omega|exact Nat.le_refl _⟩, ⟨by (with_reducible repeat (first|apply yy1|apply yy2|apply yy3));exact HO_3.out⟩, ⟨by (with_reducible repeat (first|apply yy1|apply yy2|apply yy3));exact HO_4.out⟩, ⟨by repeat (first|(with_reducible first|exact HB.out|apply zG|apply zF|apply zH)|exact HB.out)⟩⟩
      ·rw [if_neg c9] at H
       exact absurd H (by simp)
     ·rw [if_neg c8] at H
      exact absurd H (by simp)
    case rest =>
     clear HC7
     try clear c1
     try clear p1
     try clear q1
     try clear hx1
     try clear p2
     try clear q2
     try clear hx2
     try clear c6
     try clear c6b0
     try clear c8
     try clear c8b0
     try clear c9
     try clear c9b0
     try clear q10
     try clear c11
     try clear p12
     try clear q12
     try clear hx12
     try clear hx219_0
     try clear p12
     try clear p2
     try clear p219
     try clear q12
     try clear q219
     obtain ⟨kq, x25_6, rfl, HA, HJ6, HO_3, HO_4, HB⟩ := hcut
     cases kq with
     | zero => exact absurd HA.out (by simp [quarryref10_Depths.j1])
     | succ kj6 =>
      have H := HA.out
      clear HA
      simp only [quarryref10_Depths.j1] at H
      by_cases c16 : x25_6 = true
      ·subst c16
       have H1 : (if 0 ≤ x6_1 then (if x6_1 < (t213.length : Int) then (if rdOf false t213 x6_1 = true then (if x6_1 < (a0.size : Int) then ((quarryref10_Closes.f (bt a0 x6_1)).bind fun t222 => (if t222 = true then (if (wrap64 (x5_1 + 1)) > 0 then (if x4_1.length < 17592186044416 then (quarryref10_Depths.l0 kj6 a0 t213 (x4_1 ++ [wrap64 ((wrap64 (x5_1 + 1)) - 1)]) (wrap64 ((wrap64 (x5_1 + 1)) - 1)) (wrap64 (x6_1 + 1))) else (none)) else (if x4_1.length < 17592186044416 then (quarryref10_Depths.l0 kj6 a0 t213 (x4_1 ++ [wrap64 (x5_1 + 1)]) (wrap64 (x5_1 + 1)) (wrap64 (x6_1 + 1))) else (none))) else (if x4_1.length < 17592186044416 then (quarryref10_Depths.l0 kj6 a0 t213 (x4_1 ++ [wrap64 (x5_1 + 1)]) (wrap64 (x5_1 + 1)) (wrap64 (x6_1 + 1))) else (none)))) else (none)) else (if x4_1.length < 17592186044416 then (quarryref10_Depths.l0 kj6 a0 t213 (x4_1 ++ [wrap64 (x5_1 + 1)]) (wrap64 (x5_1 + 1)) (wrap64 (x6_1 + 1))) else (none))) else (none)) else (none)) = some r := by rw [if_pos rfl] at H;exact H
       clear H
       have H := H1
       clear H1
       by_cases c17 : 0 ≤ x6_1
       ·rw [if_pos c17] at H
        have c17b0 : decide (0 ≤ x6_1) = true := zz1 c17
        clear c17
        by_cases c18 : x6_1 < (t213.length : Int)
        ·rw [if_pos c18] at H
         have c18b0 : decide (x6_1 < (t213.length : Int)) = true := zz1 c18
         clear c18
         obtain ⟨bq19, hbq19⟩ : ∃ b_ : Bool, b_ = (rdOf false t213 x6_1) := ⟨_, rfl⟩
         replace H : (if bq19 = true then (if x6_1 < (a0.size : Int) then ((quarryref10_Closes.f (bt a0 x6_1)).bind fun t222 => (if t222 = true then (if (wrap64 (x5_1 + 1)) > 0 then (if x4_1.length < 17592186044416 then (quarryref10_Depths.l0 kj6 a0 t213 (x4_1 ++ [wrap64 ((wrap64 (x5_1 + 1)) - 1)]) (wrap64 ((wrap64 (x5_1 + 1)) - 1)) (wrap64 (x6_1 + 1))) else (none)) else (if x4_1.length < 17592186044416 then (quarryref10_Depths.l0 kj6 a0 t213 (x4_1 ++ [wrap64 (x5_1 + 1)]) (wrap64 (x5_1 + 1)) (wrap64 (x6_1 + 1))) else (none))) else (if x4_1.length < 17592186044416 then (quarryref10_Depths.l0 kj6 a0 t213 (x4_1 ++ [wrap64 (x5_1 + 1)]) (wrap64 (x5_1 + 1)) (wrap64 (x6_1 + 1))) else (none)))) else (none)) else (if x4_1.length < 17592186044416 then (quarryref10_Depths.l0 kj6 a0 t213 (x4_1 ++ [wrap64 (x5_1 + 1)]) (wrap64 (x5_1 + 1)) (wrap64 (x6_1 + 1))) else (none))) = some r := by rw [← hbq19] at H;exact H
         have Nbq19 := zA hbq19
         clear hbq19
         by_cases c20 : bq19 = true
         ·subst c20
          have H1 : (if x6_1 < (a0.size : Int) then ((quarryref10_Closes.f (bt a0 x6_1)).bind fun t222 => (if t222 = true then (if (wrap64 (x5_1 + 1)) > 0 then (if x4_1.length < 17592186044416 then (quarryref10_Depths.l0 kj6 a0 t213 (x4_1 ++ [wrap64 ((wrap64 (x5_1 + 1)) - 1)]) (wrap64 ((wrap64 (x5_1 + 1)) - 1)) (wrap64 (x6_1 + 1))) else (none)) else (if x4_1.length < 17592186044416 then (quarryref10_Depths.l0 kj6 a0 t213 (x4_1 ++ [wrap64 (x5_1 + 1)]) (wrap64 (x5_1 + 1)) (wrap64 (x6_1 + 1))) else (none))) else (if x4_1.length < 17592186044416 then (quarryref10_Depths.l0 kj6 a0 t213 (x4_1 ++ [wrap64 (x5_1 + 1)]) (wrap64 (x5_1 + 1)) (wrap64 (x6_1 + 1))) else (none)))) else (none)) = some r := by rw [if_pos rfl] at H;exact H
          clear H
          have H := H1
          clear H1
          by_cases c21 : x6_1 < (a0.size : Int)
          ·rw [if_pos c21] at H
           have c21b0 : decide (x6_1 < (a0.size : Int)) = true := zz1 c21
           clear c21
           replace H := Option.bind_eq_some_iff.mp H
           obtain ⟨t222, A230, H⟩ := H
           replace H : (if t222 = true then (if (wrap64 (x5_1 + 1)) > 0 then (if x4_1.length < 17592186044416 then (quarryref10_Depths.l0 kj6 a0 t213 (x4_1 ++ [wrap64 ((wrap64 (x5_1 + 1)) - 1)]) (wrap64 ((wrap64 (x5_1 + 1)) - 1)) (wrap64 (x6_1 + 1))) else (none)) else (if x4_1.length < 17592186044416 then (quarryref10_Depths.l0 kj6 a0 t213 (x4_1 ++ [wrap64 (x5_1 + 1)]) (wrap64 (x5_1 + 1)) (wrap64 (x6_1 + 1))) else (none))) else (if x4_1.length < 17592186044416 then (quarryref10_Depths.l0 kj6 a0 t213 (x4_1 ++ [wrap64 (x5_1 + 1)]) (wrap64 (x5_1 + 1)) (wrap64 (x6_1 + 1))) else (none))) = some r := H
           have A23 := zA A230
           clear A230
           by_cases c24 : t222 = true
           ·subst c24
            have H1 : (if (wrap64 (x5_1 + 1)) > 0 then (if x4_1.length < 17592186044416 then (quarryref10_Depths.l0 kj6 a0 t213 (x4_1 ++ [wrap64 ((wrap64 (x5_1 + 1)) - 1)]) (wrap64 ((wrap64 (x5_1 + 1)) - 1)) (wrap64 (x6_1 + 1))) else (none)) else (if x4_1.length < 17592186044416 then (quarryref10_Depths.l0 kj6 a0 t213 (x4_1 ++ [wrap64 (x5_1 + 1)]) (wrap64 (x5_1 + 1)) (wrap64 (x6_1 + 1))) else (none))) = some r := by rw [if_pos rfl] at H;exact H
            clear H
            have H := H1
            clear H1
            by_cases c25 : (wrap64 (x5_1 + 1)) > 0
            ·rw [if_pos c25] at H
             have c25b0 : decide (0 < (wrap64 (x5_1 + 1))) = true := zz1 c25
             clear c25
             by_cases c26 : x4_1.length < 17592186044416
             ·rw [if_pos c26] at H
              have LMc26 := zA c26
              clear c26
              obtain ⟨y223, hy223⟩ : ∃ y_ : List Int, y_ = (x4_1 ++ [wrap64 ((wrap64 (x5_1 + 1)) - 1)]) := ⟨_, rfl⟩
              replace H : (quarryref10_Depths.l0 kj6 a0 t213 y223 (wrap64 ((wrap64 (x5_1 + 1)) - 1)) (wrap64 (x6_1 + 1))) = some r := by first|(rw [hy223];with_reducible exact H)|(have H2_ := (zz3 _ _).symm.trans H;rw [hy223];with_reducible exact H2_)|(have H2_ := (zz3 _ _).symm.trans H;with_reducible exact H2_)|with_reducible exact H|(rw [hy223];exact H)|exact H
              have Ny223 := zA hy223
              clear hy223
              have H' := zA H
              clear H
              obtain ⟨Ao27, co27, eo27⟩ := Kd.R_slice HO_3.out
              subst eo27
              have p221 : 0 ≤ (x6_1 : Int) := zE (by first|(with_reducible assumption)|assumption)
              have q221 : x6_1 < (t213.length : Int) := zE (by first|(with_reducible assumption)|assumption)
              obtain ⟨ad221, e221, hx221_0⟩ := Kd.at_bool (Kd.R_reads' HO_3.out).2.2 x6_1 p221 q221
              (try rw [← Nbq19.out] at hx221_0)
              cases e221
              replace p221 := eq_true p221
              replace q221 := eq_true q221
              have p22 : 0 ≤ (x6_1 : Int) := zE (by first|(with_reducible assumption)|assumption)
              have q22 : x6_1 < (a0.size : Int) := zE (by first|(with_reducible assumption)|assumption)
              have hx22 := bt_at a0 x6_1
              replace p22 := eq_true p22
              replace q22 := eq_true q22
              go_wp2_with (first|(go_at_call 77;(with_reducible refine (quarryref10_Closes.calls (bt a0 x6_1) true _ A23.out).mono ?_);rintro e w' ⟨rfl, ⟨nd, rfl⟩⟩)|((with_reducible refine gate_builtin (b := .append) (xs := #[.tmp 44, .tmp 46]) rfl ?_);at_builtin;refine Kd.R_append (Kd.int .i64) (w0 := w) w.heap.size rfl (.tmp 44) (.tmp 46) 36 3 (.int .i64 0) 8 rfl Tryd.underlying36 info3 rfl (by decide) (by omega) u4 x4_1 (wrap64 ((wrap64 (x5_1 + 1)) - 1)) [.int .i64 (wrap64 ((wrap64 (x5_1 + 1)) - 1))] (fun _ => True) (fun _ => False) rfl rfl ?aP (fun _ hk => hk.elim) ?aF ?aO ?aB ?aS ?aL ?_;(case aP => exact rfl);(case aB => exact (by repeat (first|(with_reducible first|exact HB.out|apply zG|apply zF|apply zH)|exact HB.out)));(case aF => exact (fun _ _ => trivial));(case aO => exact (by (with_reducible repeat (first|apply yy1|apply yy2|apply yy3));exact HO_4.out));(case aS => exact (zO (by repeat (first|(with_reducible first|exact HB.out|apply zG|apply zF|apply zH)|exact HB.out))));(case aL => have := LMc26.out;omega);intro v224 w28 ho hb hg hat;rw [← Ny223.out] at ho;have n0_ := zA (Kd.R_over' (by (with_reducible repeat (first|apply yy1|apply yy2|apply yy3));exact HO_3.out) (Kd.R_typed (by (with_reducible repeat (first|apply yy1|apply yy2|apply yy3));exact HO_4.out)) (by decide) hg);have n1_ := zA (hb);have n2_ := zA (ho);clear HO_3;clear HB;clear HO_4;have HO_3 := n0_;have HB := n1_;have HO225 := n2_;clear n0_ n1_ n2_;clear ho hb hg hat))
              go_roundg kj6
              case measure => have := HK1.out;have := HJ6.out;omega
              case rel => exact ⟨(y223), (wrap64 ((wrap64 (x5_1 + 1)) - 1)), (wrap64 (x6_1 + 1)), (by first|rfl|(simp;done)|(simp [*];done)), (by first|rfl|(simp;done)|(simp [*];done)), H', ⟨by have := HK1.out;have := HJ6.out;omega⟩, ⟨by (with_reducible repeat (first|apply yy1|apply yy2|apply yy3));exact HO_3.out⟩, ⟨by (with_reducible repeat (first|apply yy1|apply yy2|apply yy3));exact HO225.out⟩, ⟨by repeat (first|(with_reducible first|exact HB.out|apply zG|apply zF|apply zH)|exact HB.out)⟩⟩
             ·rw [if_neg c26] at H
              exact absurd H (by simp)
            ·rw [if_neg c25] at H
             have c25b0 : decide (0 < (wrap64 (x5_1 + 1))) = false := decide_eq_false c25
             clear c25
             by_cases c29 : x4_1.length < 17592186044416
             ·rw [if_pos c29] at H
              have LMc29 := zA c29
              clear c29
              obtain ⟨y226, hy226⟩ : ∃ y_ : List Int, y_ = (x4_1 ++ [wrap64 (x5_1 + 1)]) := ⟨_, rfl⟩
              replace H : (quarryref10_Depths.l0 kj6 a0 t213 y226 (wrap64 (x5_1 + 1)) (wrap64 (x6_1 + 1))) = some r := by first|(rw [hy226];with_reducible exact H)|(have H2_ := (zz3 _ _).symm.trans H;rw [hy226];with_reducible exact H2_)|(have H2_ := (zz3 _ _).symm.trans H;with_reducible exact H2_)|with_reducible exact H|(rw [hy226];exact H)|exact H
              have Ny226 := zA hy226
              clear hy226
              have H' := zA H
              clear H
              obtain ⟨Ao30, co30, eo30⟩ := Kd.R_slice HO_3.out
              subst eo30
              have p221 : 0 ≤ (x6_1 : Int) := zE (by first|(with_reducible assumption)|assumption)
              have q221 : x6_1 < (t213.length : Int) := zE (by first|(with_reducible assumption)|assumption)
              obtain ⟨ad221, e221, hx221_0⟩ := Kd.at_bool (Kd.R_reads' HO_3.out).2.2 x6_1 p221 q221
              (try rw [← Nbq19.out] at hx221_0)
              cases e221
              replace p221 := eq_true p221
              replace q221 := eq_true q221
              have p22 : 0 ≤ (x6_1 : Int) := zE (by first|(with_reducible assumption)|assumption)
              have q22 : x6_1 < (a0.size : Int) := zE (by first|(with_reducible assumption)|assumption)
              have hx22 := bt_at a0 x6_1
              replace p22 := eq_true p22
              replace q22 := eq_true q22
              go_wp2_with (first|(go_at_call 77;(with_reducible refine (quarryref10_Closes.calls (bt a0 x6_1) true _ A23.out).mono ?_);rintro e w' ⟨rfl, ⟨nd, rfl⟩⟩)|((with_reducible refine gate_builtin (b := .append) (xs := #[.tmp 44, .tmp 46]) rfl ?_);at_builtin;refine Kd.R_append (Kd.int .i64) (w0 := w) w.heap.size rfl (.tmp 44) (.tmp 46) 36 3 (.int .i64 0) 8 rfl Tryd.underlying36 info3 rfl (by decide) (by omega) u4 x4_1 (wrap64 (x5_1 + 1)) [.int .i64 (wrap64 (x5_1 + 1))] (fun _ => True) (fun _ => False) rfl rfl ?aP (fun _ hk => hk.elim) ?aF ?aO ?aB ?aS ?aL ?_;(case aP => exact rfl);(case aB => exact (by repeat (first|(with_reducible first|exact HB.out|apply zG|apply zF|apply zH)|exact HB.out)));(case aF => exact (fun _ _ => trivial));(case aO => exact (by (with_reducible repeat (first|apply yy1|apply yy2|apply yy3));exact HO_4.out));(case aS => exact (zO (by repeat (first|(with_reducible first|exact HB.out|apply zG|apply zF|apply zH)|exact HB.out))));(case aL => have := LMc29.out;omega);intro v227 w31 ho hb hg hat;rw [← Ny226.out] at ho;have n0_ := zA (Kd.R_over' (by (with_reducible repeat (first|apply yy1|apply yy2|apply yy3));exact HO_3.out) (Kd.R_typed (by (with_reducible repeat (first|apply yy1|apply yy2|apply yy3));exact HO_4.out)) (by decide) hg);have n1_ := zA (hb);have n2_ := zA (ho);clear HO_3;clear HB;clear HO_4;have HO_3 := n0_;have HB := n1_;have HO228 := n2_;clear n0_ n1_ n2_;clear ho hb hg hat))
              go_roundg kj6
              case measure => have := HK1.out;have := HJ6.out;omega
              case rel => exact ⟨(y226), (wrap64 (x5_1 + 1)), (wrap64 (x6_1 + 1)), (by first|rfl|(simp;done)|(simp [*];done)), (by first|rfl|(simp;done)|(simp [*];done)), H', ⟨by have := HK1.out;have := HJ6.out;omega⟩, ⟨by (with_reducible repeat (first|apply yy1|apply yy2|apply yy3));exact HO_3.out⟩, ⟨by (with_reducible repeat (first|apply yy1|apply yy2|apply yy3));exact HO228.out⟩, ⟨by repeat (first|(with_reducible first|exact HB.out|apply zG|apply zF|apply zH)|exact HB.out)⟩⟩
             ·rw [if_neg c29] at H
              exact absurd H (by simp)
           ·replace c24 := Bool.eq_false_iff.mpr c24
            subst c24
            have H1 : (if x4_1.length < 17592186044416 then (quarryref10_Depths.l0 kj6 a0 t213 (x4_1 ++ [wrap64 (x5_1 + 1)]) (wrap64 (x5_1 + 1)) (wrap64 (x6_1 + 1))) else (none)) = some r := by rw [if_neg (show ¬ (false = true) by decide)] at H;exact H
            clear H
            have H := H1
            clear H1
            by_cases c32 : x4_1.length < 17592186044416
            ·rw [if_pos c32] at H
             have LMc32 := zA c32
             clear c32
             obtain ⟨y229, hy229⟩ : ∃ y_ : List Int, y_ = (x4_1 ++ [wrap64 (x5_1 + 1)]) := ⟨_, rfl⟩
             replace H : (quarryref10_Depths.l0 kj6 a0 t213 y229 (wrap64 (x5_1 + 1)) (wrap64 (x6_1 + 1))) = some r := by first|(rw [hy229];with_reducible exact H)|(have H2_ := (zz3 _ _).symm.trans H;rw [hy229];with_reducible exact H2_)|(have H2_ := (zz3 _ _).symm.trans H;with_reducible exact H2_)|with_reducible exact H|(rw [hy229];exact H)|exact H
             have Ny229 := zA hy229
             clear hy229
             have H' := zA H
             clear H
             obtain ⟨Ao33, co33, eo33⟩ := Kd.R_slice HO_3.out
             subst eo33
             have p221 : 0 ≤ (x6_1 : Int) := zE (by first|(with_reducible assumption)|assumption)
             have q221 : x6_1 < (t213.length : Int) := zE (by first|(with_reducible assumption)|assumption)
             obtain ⟨ad221, e221, hx221_0⟩ := Kd.at_bool (Kd.R_reads' HO_3.out).2.2 x6_1 p221 q221
             (try rw [← Nbq19.out] at hx221_0)
             cases e221
             replace p221 := eq_true p221
             replace q221 := eq_true q221
             have p22 : 0 ≤ (x6_1 : Int) := zE (by first|(with_reducible assumption)|assumption)
             have q22 : x6_1 < (a0.size : Int) := zE (by first|(with_reducible assumption)|assumption)
             have hx22 := bt_at a0 x6_1
             replace p22 := eq_true p22
             replace q22 := eq_true q22
             go_wp2_with (first|(go_at_call 77;(with_reducible refine (quarryref10_Closes.calls (bt a0 x6_1) false _ A23.out).mono ?_);rintro e w' ⟨rfl, ⟨nd, rfl⟩⟩)|((with_reducible refine gate_builtin (b := .append) (xs := #[.tmp 44, .tmp 46]) rfl ?_);at_builtin;refine Kd.R_append (Kd.int .i64) (w0 := w) w.heap.size rfl (.tmp 44) (.tmp 46) 36 3 (.int .i64 0) 8 rfl Tryd.underlying36 info3 rfl (by decide) (by omega) u4 x4_1 (wrap64 (x5_1 + 1)) [.int .i64 (wrap64 (x5_1 + 1))] (fun _ => True) (fun _ => False) rfl rfl ?aP (fun _ hk => hk.elim) ?aF ?aO ?aB ?aS ?aL ?_;(case aP => exact rfl);(case aB => exact (by repeat (first|(with_reducible first|exact HB.out|apply zG|apply zF|apply zH)|exact HB.out)));(case aF => exact (fun _ _ => trivial));(case aO => exact (by (with_reducible repeat (first|apply yy1|apply yy2|apply yy3));exact HO_4.out));(case aS => exact (zO (by repeat (first|(with_reducible first|exact HB.out|apply zG|apply zF|apply zH)|exact HB.out))));(case aL => have := LMc32.out;omega);intro v230 w34 ho hb hg hat;rw [← Ny229.out] at ho;have n0_ := zA (Kd.R_over' (by (with_reducible repeat (first|apply yy1|apply yy2|apply yy3));exact HO_3.out) (Kd.R_typed (by (with_reducible repeat (first|apply yy1|apply yy2|apply yy3));exact HO_4.out)) (by decide) hg);have n1_ := zA (hb);have n2_ := zA (ho);clear HO_3;clear HB;clear HO_4;have HO_3 := n0_;have HB := n1_;have HO231 := n2_;clear n0_ n1_ n2_;clear ho hb hg hat))
             go_roundg kj6
             case measure => have := HK1.out;have := HJ6.out;omega
             case rel => exact ⟨(y229), (wrap64 (x5_1 + 1)), (wrap64 (x6_1 + 1)), (by first|rfl|(simp;done)|(simp [*];done)), (by first|rfl|(simp;done)|(simp [*];done)), H', ⟨by have := HK1.out;have := HJ6.out;omega⟩, ⟨by (with_reducible repeat (first|apply yy1|apply yy2|apply yy3));exact HO_3.out⟩, ⟨by (with_reducible repeat (first|apply yy1|apply yy2|apply yy3));exact HO231.out⟩, ⟨by repeat (first|(with_reducible first|exact HB.out|apply zG|apply zF|apply zH)|exact HB.out)⟩⟩
            ·rw [if_neg c32] at H
             exact absurd H (by simp)
          ·rw [if_neg c21] at H
           exact absurd H (by simp)
         ·replace c20 := Bool.eq_false_iff.mpr c20
          subst c20
          have H1 : (if x4_1.length < 17592186044416 then (quarryref10_Depths.l0 kj6 a0 t213 (x4_1 ++ [wrap64 (x5_1 + 1)]) (wrap64 (x5_1 + 1)) (wrap64 (x6_1 + 1))) else (none)) = some r := by rw [if_neg (show ¬ (false = true) by decide)] at H;exact H
          clear H
          have H := H1
          clear H1
          by_cases c35 : x4_1.length < 17592186044416
          ·rw [if_pos c35] at H
           have LMc35 := zA c35
           clear c35
           obtain ⟨y232, hy232⟩ : ∃ y_ : List Int, y_ = (x4_1 ++ [wrap64 (x5_1 + 1)]) := ⟨_, rfl⟩
           replace H : (quarryref10_Depths.l0 kj6 a0 t213 y232 (wrap64 (x5_1 + 1)) (wrap64 (x6_1 + 1))) = some r := by first|(rw [hy232];with_reducible exact H)|(have H2_ := (zz3 _ _).symm.trans H;rw [hy232];with_reducible exact H2_)|(have H2_ := (zz3 _ _).symm.trans H;with_reducible exact H2_)|with_reducible exact H|(rw [hy232];exact H)|exact H
           have Ny232 := zA hy232
           clear hy232
           have H' := zA H
           clear H
           obtain ⟨Ao36, co36, eo36⟩ := Kd.R_slice HO_3.out
           subst eo36
           have p221 : 0 ≤ (x6_1 : Int) := zE (by first|(with_reducible assumption)|assumption)
           have q221 : x6_1 < (t213.length : Int) := zE (by first|(with_reducible assumption)|assumption)
           obtain ⟨ad221, e221, hx221_0⟩ := Kd.at_bool (Kd.R_reads' HO_3.out).2.2 x6_1 p221 q221
           (try rw [← Nbq19.out] at hx221_0)
           cases e221
           replace p221 := eq_true p221
           replace q221 := eq_true q221
           go_wp2_with (first|((with_reducible refine gate_builtin (b := .append) (xs := #[.tmp 44, .tmp 46]) rfl ?_);at_builtin;refine Kd.R_append (Kd.int .i64) (w0 := w) w.heap.size rfl (.tmp 44) (.tmp 46) 36 3 (.int .i64 0) 8 rfl Tryd.underlying36 info3 rfl (by decide) (by omega) u4 x4_1 (wrap64 (x5_1 + 1)) [.int .i64 (wrap64 (x5_1 + 1))] (fun _ => True) (fun _ => False) rfl rfl ?aP (fun _ hk => hk.elim) ?aF ?aO ?aB ?aS ?aL ?_;(case aP => exact rfl);(case aB => exact (by repeat (first|(with_reducible first|exact HB.out|apply zG|apply zF|apply zH)|exact HB.out)));(case aF => exact (fun _ _ => trivial));(case aO => exact (by (with_reducible repeat (first|apply yy1|apply yy2|apply yy3));exact HO_4.out));(case aS => exact (zO (by repeat (first|(with_reducible first|exact HB.out|apply zG|apply zF|apply zH)|exact HB.out))));(case aL => have := LMc35.out;omega);intro v233 w37 ho hb hg hat;rw [← Ny232.out] at ho;have n0_ := zA (Kd.R_over' (by (with_reducible repeat (first|apply yy1|apply yy2|apply yy3));exact HO_3.out) (Kd.R_typed (by (with_reducible repeat (first|apply yy1|apply yy2|apply yy3));exact HO_4.out)) (by decide) hg);have n1_ := zA (hb);have n2_ := zA (ho);clear HO_3;clear HB;clear HO_4;have HO_3 := n0_;have HB := n1_;have HO234 := n2_;clear n0_ n1_ n2_;clear ho hb hg hat))
           go_roundg kj6
           case measure => have := HK1.out;have := HJ6.out;omega
           case rel => exact ⟨(y232), (wrap64 (x5_1 + 1)), (wrap64 (x6_1 + 1)), (by first|rfl|(simp;done)|(simp [*];done)), (by first|rfl|(simp;done)|(simp [*];done)), H', ⟨by have := HK1.out;have := HJ6.out;omega⟩, ⟨by (with_reducible repeat (first|apply yy1|apply yy2|apply yy3));exact HO_3.out⟩, ⟨by (with_reducible repeat (first|apply yy1|apply yy2|apply yy3));exact HO234.out⟩, ⟨by repeat (first|(with_reducible first|exact HB.out|apply zG|apply zF|apply zH)|exact HB.out)⟩⟩
          ·rw [if_neg c35] at H
           exact absurd H (by simp)
        ·rw [if_neg c18] at H
         exact absurd H (by simp)
       ·rw [if_neg c17] at H
        exact absurd H (by simp)
      ·replace c16 := Bool.eq_false_iff.mpr c16
       subst c16
       have H1 : (if 0 ≤ x6_1 then (if x6_1 < (t213.length : Int) then (if rdOf false t213 x6_1 = true then (if x6_1 < (a0.size : Int) then ((quarryref10_Closes.f (bt a0 x6_1)).bind fun t236 => (if t236 = true then (if x5_1 > 0 then (if x4_1.length < 17592186044416 then (quarryref10_Depths.l0 kj6 a0 t213 (x4_1 ++ [wrap64 (x5_1 - 1)]) (wrap64 (x5_1 - 1)) (wrap64 (x6_1 + 1))) else (none)) else (if x4_1.length < 17592186044416 then (quarryref10_Depths.l0 kj6 a0 t213 (x4_1 ++ [x5_1]) x5_1 (wrap64 (x6_1 + 1))) else (none))) else (if x4_1.length < 17592186044416 then (quarryref10_Depths.l0 kj6 a0 t213 (x4_1 ++ [x5_1]) x5_1 (wrap64 (x6_1 + 1))) else (none)))) else (none)) else (if x4_1.length < 17592186044416 then (quarryref10_Depths.l0 kj6 a0 t213 (x4_1 ++ [x5_1]) x5_1 (wrap64 (x6_1 + 1))) else (none))) else (none)) else (none)) = some r := by rw [if_neg (show ¬ (false = true) by decide)] at H;exact H
       clear H
       have H := H1
       clear H1
       by_cases c38 : 0 ≤ x6_1
       ·rw [if_pos c38] at H
        have c38b0 : decide (0 ≤ x6_1) = true := zz1 c38
        clear c38
        by_cases c39 : x6_1 < (t213.length : Int)
        ·rw [if_pos c39] at H
         have c39b0 : decide (x6_1 < (t213.length : Int)) = true := zz1 c39
         clear c39
         obtain ⟨bq40, hbq40⟩ : ∃ b_ : Bool, b_ = (rdOf false t213 x6_1) := ⟨_, rfl⟩
         replace H : (if bq40 = true then (if x6_1 < (a0.size : Int) then ((quarryref10_Closes.f (bt a0 x6_1)).bind fun t236 => (if t236 = true then (if x5_1 > 0 then (if x4_1.length < 17592186044416 then (quarryref10_Depths.l0 kj6 a0 t213 (x4_1 ++ [wrap64 (x5_1 - 1)]) (wrap64 (x5_1 - 1)) (wrap64 (x6_1 + 1))) else (none)) else (if x4_1.length < 17592186044416 then (quarryref10_Depths.l0 kj6 a0 t213 (x4_1 ++ [x5_1]) x5_1 (wrap64 (x6_1 + 1))) else (none))) else (if x4_1.length < 17592186044416 then (quarryref10_Depths.l0 kj6 a0 t213 (x4_1 ++ [x5_1]) x5_1 (wrap64 (x6_1 + 1))) else (none)))) else (none)) else (if x4_1.length < 17592186044416 then (quarryref10_Depths.l0 kj6 a0 t213 (x4_1 ++ [x5_1]) x5_1 (wrap64 (x6_1 + 1))) else (none))) = some r := by rw [← hbq40] at H;exact H
         have Nbq40 := zA hbq40
         clear hbq40
         by_cases c41 : bq40 = true
         ·subst c41
          have H1 : (if x6_1 < (a0.size : Int) then ((quarryref10_Closes.f (bt a0 x6_1)).bind fun t236 => (if t236 = true then (if x5_1 > 0 then (if x4_1.length < 17592186044416 then (quarryref10_Depths.l0 kj6 a0 t213 (x4_1 ++ [wrap64 (x5_1 - 1)]) (wrap64 (x5_1 - 1)) (wrap64 (x6_1 + 1))) else (none)) else (if x4_1.length < 17592186044416 then (quarryref10_Depths.l0 kj6 a0 t213 (x4_1 ++ [x5_1]) x5_1 (wrap64 (x6_1 + 1))) else (none))) else (if x4_1.length < 17592186044416 then (quarryref10_Depths.l0 kj6 a0 t213 (x4_1 ++ [x5_1]) x5_1 (wrap64 (x6_1 + 1))) else (none)))) else (none)) = some r := by rw [if_pos rfl] at H;exact H
          clear H
          have H := H1
          clear H1
          by_cases c42 : x6_1 < (a0.size : Int)
          ·rw [if_pos c42] at H
           have c42b0 : decide (x6_1 < (a0.size : Int)) = true := zz1 c42
           clear c42
           replace H := Option.bind_eq_some_iff.mp H
           obtain ⟨t236, A440, H⟩ := H
           replace H : (if t236 = true then (if x5_1 > 0 then (if x4_1.length < 17592186044416 then (quarryref10_Depths.l0 kj6 a0 t213 (x4_1 ++ [wrap64 (x5_1 - 1)]) (wrap64 (x5_1 - 1)) (wrap64 (x6_1 + 1))) else (none)) else (if x4_1.length < 17592186044416 then (quarryref10_Depths.l0 kj6 a0 t213 (x4_1 ++ [x5_1]) x5_1 (wrap64 (x6_1 + 1))) else (none))) else (if x4_1.length < 17592186044416 then (quarryref10_Depths.l0 kj6 a0 t213 (x4_1 ++ [x5_1]) x5_1 (wrap64 (x6_1 + 1))) else (none))) = some r := H
           have A44 := zA A440
           clear A440
           by_cases c45 : t236 = true
           ·subst c45
            have H1 : (if x5_1 > 0 then (if x4_1.length < 17592186044416 then (quarryref10_Depths.l0 kj6 a0 t213 (x4_1 ++ [wrap64 (x5_1 - 1)]) (wrap64 (x5_1 - 1)) (wrap64 (x6_1 + 1))) else (none)) else (if x4_1.length < 17592186044416 then (quarryref10_Depths.l0 kj6 a0 t213 (x4_1 ++ [x5_1]) x5_1 (wrap64 (x6_1 + 1))) else (none))) = some r := by rw [if_pos rfl] at H;exact H
            clear H
            have H := H1
            clear H1
            by_cases c46 : x5_1 > 0
            ·rw [if_pos c46] at H
             have c46b0 : decide (0 < x5_1) = true := zz1 c46
             clear c46
             by_cases c47 : x4_1.length < 17592186044416
             ·rw [if_pos c47] at H
              have LMc47 := zA c47
              clear c47
              obtain ⟨y237, hy237⟩ : ∃ y_ : List Int, y_ = (x4_1 ++ [wrap64 (x5_1 - 1)]) := ⟨_, rfl⟩
              replace H : (quarryref10_Depths.l0 kj6 a0 t213 y237 (wrap64 (x5_1 - 1)) (wrap64 (x6_1 + 1))) = some r := by first|(rw [hy237];with_reducible exact H)|(have H2_ := (zz3 _ _).symm.trans H;rw [hy237];with_reducible exact H2_)|(have H2_ := (zz3 _ _).symm.trans H;with_reducible exact H2_)|with_reducible exact H|(rw [hy237];exact H)|exact H
              have Ny237 := zA hy237
              clear hy237
              have H' := zA H
              clear H
              obtain ⟨Ao48, co48, eo48⟩ := Kd.R_slice HO_3.out
              subst eo48
              have p235 : 0 ≤ (x6_1 : Int) := zE (by first|(with_reducible assumption)|assumption)
              have q235 : x6_1 < (t213.length : Int) := zE (by first|(with_reducible assumption)|assumption)
              obtain ⟨ad235, e235, hx235_0⟩ := Kd.at_bool (Kd.R_reads' HO_3.out).2.2 x6_1 p235 q235
              (try rw [← Nbq40.out] at hx235_0)
              cases e235
              replace p235 := eq_true p235
              replace q235 := eq_true q235
              have p43 : 0 ≤ (x6_1 : Int) := zE (by first|(with_reducible assumption)|assumption)
              have q43 : x6_1 < (a0.size : Int) := zE (by first|(with_reducible assumption)|assumption)
              have hx43 := bt_at a0 x6_1
              replace p43 := eq_true p43
              replace q43 := eq_true q43
              go_wp2_with (first|(go_at_call 77;(with_reducible refine (quarryref10_Closes.calls (bt a0 x6_1) true _ A44.out).mono ?_);rintro e w' ⟨rfl, ⟨nd, rfl⟩⟩)|((with_reducible refine gate_builtin (b := .append) (xs := #[.tmp 44, .tmp 46]) rfl ?_);at_builtin;refine Kd.R_append (Kd.int .i64) (w0 := w) w.heap.size rfl (.tmp 44) (.tmp 46) 36 3 (.int .i64 0) 8 rfl Tryd.underlying36 info3 rfl (by decide) (by omega) u4 x4_1 (wrap64 (x5_1 - 1)) [.int .i64 (wrap64 (x5_1 - 1))] (fun _ => True) (fun _ => False) rfl rfl ?aP (fun _ hk => hk.elim) ?aF ?aO ?aB ?aS ?aL ?_;(case aP => exact rfl);(case aB => exact (by repeat (first|(with_reducible first|exact HB.out|apply zG|apply zF|apply zH)|exact HB.out)));(case aF => exact (fun _ _ => trivial));(case aO => exact (by (with_reducible repeat (first|apply yy1|apply yy2|apply yy3));exact HO_4.out));(case aS => exact (zO (by repeat (first|(with_reducible first|exact HB.out|apply zG|apply zF|apply zH)|exact HB.out))));(case aL => have := LMc47.out;omega);intro v238 w49 ho hb hg hat;rw [← Ny237.out] at ho;have n0_ := zA (Kd.R_over' (by (with_reducible repeat (first|apply yy1|apply yy2|apply yy3));exact HO_3.out) (Kd.R_typed (by (with_reducible repeat (first|apply yy1|apply yy2|apply yy3));exact HO_4.out)) (by decide) hg);have n1_ := zA (hb);have n2_ := zA (ho);clear HO_3;clear HB;clear HO_4;have HO_3 := n0_;have HB := n1_;have HO239 := n2_;clear n0_ n1_ n2_;clear ho hb hg hat))
              go_roundg kj6
              case measure => have := HK1.out;have := HJ6.out;omega
              case rel => exact ⟨(y237), (wrap64 (x5_1 - 1)), (wrap64 (x6_1 + 1)), (by first|rfl|(simp;done)|(simp [*];done)), (by first|rfl|(simp;done)|(simp [*];done)), H', ⟨by have := HK1.out;have := HJ6.out;omega⟩, ⟨by (with_reducible repeat (first|apply yy1|apply yy2|apply yy3));exact HO_3.out⟩, ⟨by (with_reducible repeat (first|apply yy1|apply yy2|apply yy3));exact HO239.out⟩, ⟨by repeat (first|(with_reducible first|exact HB.out|apply zG|apply zF|apply zH)|exact HB.out)⟩⟩
             ·rw [if_neg c47] at H
              exact absurd H (by simp)
            ·rw [if_neg c46] at H
             have c46b0 : decide (0 < x5_1) = false := decide_eq_false c46
             clear c46
             by_cases c50 : x4_1.length < 17592186044416
             ·rw [if_pos c50] at H
              have LMc50 := zA c50
              clear c50
              obtain ⟨y240, hy240⟩ : ∃ y_ : List Int, y_ = (x4_1 ++ [x5_1]) := ⟨_, rfl⟩
              replace H : (quarryref10_Depths.l0 kj6 a0 t213 y240 x5_1 (wrap64 (x6_1 + 1))) = some r := by first|(rw [hy240];with_reducible exact H)|(have H2_ := (zz3 _ _).symm.trans H;rw [hy240];with_reducible exact H2_)|(have H2_ := (zz3 _ _).symm.trans H;with_reducible exact H2_)|with_reducible exact H|(rw [hy240];exact H)|exact H
              have Ny240 := zA hy240
              clear hy240
              have H' := zA H
              clear H
              obtain ⟨Ao51, co51, eo51⟩ := Kd.R_slice HO_3.out
              subst eo51
              have p235 : 0 ≤ (x6_1 : Int) := zE (by first|(with_reducible assumption)|assumption)
              have q235 : x6_1 < (t213.length : Int) := zE (by first|(with_reducible assumption)|assumption)
              obtain ⟨ad235, e235, hx235_0⟩ := Kd.at_bool (Kd.R_reads' HO_3.out).2.2 x6_1 p235 q235
              (try rw [← Nbq40.out] at hx235_0)
              cases e235
              replace p235 := eq_true p235
              replace q235 := eq_true q235
              have p43 : 0 ≤ (x6_1 : Int) := zE (by first|(with_reducible assumption)|assumption)
              have q43 : x6_1 < (a0.size : Int) := zE (by first|(with_reducible assumption)|assumption)
              have hx43 := bt_at a0 x6_1
              replace p43 := eq_true p43
              replace q43 := eq_true q43
              go_wp2_with (first|(go_at_call 77;(with_reducible refine (quarryref10_Closes.calls (bt a0 x6_1) true _ A44.out).mono ?_);rintro e w' ⟨rfl, ⟨nd, rfl⟩⟩)|((with_reducible refine gate_builtin (b := .append) (xs := #[.tmp 44, .tmp 46]) rfl ?_);at_builtin;refine Kd.R_append (Kd.int .i64) (w0 := w) w.heap.size rfl (.tmp 44) (.tmp 46) 36 3 (.int .i64 0) 8 rfl Tryd.underlying36 info3 rfl (by decide) (by omega) u4 x4_1 x5_1 [.int .i64 x5_1] (fun _ => True) (fun _ => False) rfl rfl ?aP (fun _ hk => hk.elim) ?aF ?aO ?aB ?aS ?aL ?_;(case aP => exact rfl);(case aB => exact (by repeat (first|(with_reducible first|exact HB.out|apply zG|apply zF|apply zH)|exact HB.out)));(case aF => exact (fun _ _ => trivial));(case aO => exact (by (with_reducible repeat (first|apply yy1|apply yy2|apply yy3));exact HO_4.out));(case aS => exact (zO (by repeat (first|(with_reducible first|exact HB.out|apply zG|apply zF|apply zH)|exact HB.out))));(case aL => have := LMc50.out;omega);intro v241 w52 ho hb hg hat;rw [← Ny240.out] at ho;have n0_ := zA (Kd.R_over' (by (with_reducible repeat (first|apply yy1|apply yy2|apply yy3));exact HO_3.out) (Kd.R_typed (by (with_reducible repeat (first|apply yy1|apply yy2|apply yy3));exact HO_4.out)) (by decide) hg);have n1_ := zA (hb);have n2_ := zA (ho);clear HO_3;clear HB;clear HO_4;have HO_3 := n0_;have HB := n1_;have HO242 := n2_;clear n0_ n1_ n2_;clear ho hb hg hat))
              go_roundg kj6
              case measure => have := HK1.out;have := HJ6.out;omega
              case rel => exact ⟨(y240), (x5_1), (wrap64 (x6_1 + 1)), (by first|rfl|(simp;done)|(simp [*];done)), (by first|rfl|(simp;done)|(simp [*];done)), H', ⟨by have := HK1.out;have := HJ6.out;omega⟩, ⟨by (with_reducible repeat (first|apply yy1|apply yy2|apply yy3));exact HO_3.out⟩, ⟨by (with_reducible repeat (first|apply yy1|apply yy2|apply yy3));exact HO242.out⟩, ⟨by repeat (first|(with_reducible first|exact HB.out|apply zG|apply zF|apply zH)|exact HB.out)⟩⟩
             ·rw [if_neg c50] at H
              exact absurd H (by simp)
           ·replace c45 := Bool.eq_false_iff.mpr c45
            subst c45
            have H1 : (if x4_1.length < 17592186044416 then (quarryref10_Depths.l0 kj6 a0 t213 (x4_1 ++ [x5_1]) x5_1 (wrap64 (x6_1 + 1))) else (none)) = some r := by rw [if_neg (show ¬ (false = true) by decide)] at H;exact H
            clear H
            have H := H1
            clear H1
            by_cases c53 : x4_1.length < 17592186044416
            ·rw [if_pos c53] at H
             have LMc53 := zA c53
             clear c53
             obtain ⟨y243, hy243⟩ : ∃ y_ : List Int, y_ = (x4_1 ++ [x5_1]) := ⟨_, rfl⟩
             replace H : (quarryref10_Depths.l0 kj6 a0 t213 y243 x5_1 (wrap64 (x6_1 + 1))) = some r := by first|(rw [hy243];with_reducible exact H)|(have H2_ := (zz3 _ _).symm.trans H;rw [hy243];with_reducible exact H2_)|(have H2_ := (zz3 _ _).symm.trans H;with_reducible exact H2_)|with_reducible exact H|(rw [hy243];exact H)|exact H
             have Ny243 := zA hy243
             clear hy243
             have H' := zA H
             clear H
             obtain ⟨Ao54, co54, eo54⟩ := Kd.R_slice HO_3.out
             subst eo54
             have p235 : 0 ≤ (x6_1 : Int) := zE (by first|(with_reducible assumption)|assumption)
             have q235 : x6_1 < (t213.length : Int) := zE (by first|(with_reducible assumption)|assumption)
             obtain ⟨ad235, e235, hx235_0⟩ := Kd.at_bool (Kd.R_reads' HO_3.out).2.2 x6_1 p235 q235
             (try rw [← Nbq40.out] at hx235_0)
             cases e235
             replace p235 := eq_true p235
             replace q235 := eq_true q235
             have p43 : 0 ≤ (x6_1 : Int) := zE (by first|(with_reducible assumption)|assumption)
             have q43 : x6_1 < (a0.size : Int) := zE (by first|(with_reducible assumption)|assumption)
             have hx43 := bt_at a0 x6_1
             replace p43 := eq_true p43
             replace q43 := eq_true q43
             go_wp2_with (first|(go_at_call 77;(with_reducible refine (quarryref10_Closes.calls (bt a0 x6_1) false _ A44.out).mono ?_);rintro e w' ⟨rfl, ⟨nd, rfl⟩⟩)|((with_reducible refine gate_builtin (b := .append) (xs := #[.tmp 44, .tmp 46]) rfl ?_);at_builtin;refine Kd.R_append (Kd.int .i64) (w0 := w) w.heap.size rfl (.tmp 44) (.tmp 46) 36 3 (.int .i64 0) 8 rfl Tryd.underlying36 info3 rfl (by decide) (by omega) u4 x4_1 x5_1 [.int .i64 x5_1] (fun _ => True) (fun _ => False) rfl rfl ?aP (fun _ hk => hk.elim) ?aF ?aO ?aB ?aS ?aL ?_;(case aP => exact rfl);(case aB => exact (by repeat (first|(with_reducible first|exact HB.out|apply zG|apply zF|apply zH)|exact HB.out)));(case aF => exact (fun _ _ => trivial));(case aO => exact (by (with_reducible repeat (first|apply yy1|apply yy2|apply yy3));exact HO_4.out));(case aS => exact (zO (by repeat (first|(with_reducible first|exact HB.out|apply zG|apply zF|apply zH)|exact HB.out))));(case aL => have := LMc53.out;omega);intro v244 w55 ho hb hg hat;rw [← Ny243.out] at ho;have n0_ := zA (Kd.R_over' (by (with_reducible repeat (first|apply yy1|apply yy2|apply yy3));exact HO_3.out) (Kd.R_typed (by (with_reducible repeat (first|apply yy1|apply yy2|apply yy3));exact HO_4.out)) (by decide) hg);have n1_ := zA (hb);have n2_ := zA (ho);clear HO_3;clear HB;clear HO_4;have HO_3 := n0_;have HB := n1_;have HO245 := n2_;clear n0_ n1_ n2_;clear ho hb hg hat))
             go_roundg kj6
             case measure => have := HK1.out;have := HJ6.out;omega
             case rel => exact ⟨(y243), (x5_1), (wrap64 (x6_1 + 1)), (by first|rfl|(simp;done)|(simp [*];done)), (by first|rfl|(simp;done)|(simp [*];done)), H', ⟨by have := HK1.out;have := HJ6.out;omega⟩, ⟨by (with_reducible repeat (first|apply yy1|apply yy2|apply yy3));exact HO_3.out⟩, ⟨by (with_reducible repeat (first|apply yy1|apply yy2|apply yy3));exact HO245.out⟩, ⟨by repeat (first|(with_reducible first|exact HB.out|apply zG|apply zF|apply zH)|exact HB.out)⟩⟩
            ·rw [if_neg c53] at H
             exact absurd H (by simp)
          ·rw [if_neg c42] at H
           exact absurd H (by simp)
         ·replace c41 := Bool.eq_false_iff.mpr c41
          subst c41
          have H1 : (if x4_1.length < 17592186044416 then (quarryref10_Depths.l0 kj6 a0 t213 (x4_1 ++ [x5_1]) x5_1 (wrap64 (x6_1 + 1))) else (none)) = some r := by rw [if_neg (show ¬ (false = true) by decide)] at H;exact H
          clear H
          have H := H1
          clear H1
          by_cases c56 : x4_1.length < 17592186044416
          ·rw [if_pos c56] at H
           have LMc56 := zA c56
           clear c56
           obtain ⟨y246, hy246⟩ : ∃ y_ : List Int, y_ = (x4_1 ++ [x5_1]) := ⟨_, rfl⟩
           replace H : (quarryref10_Depths.l0 kj6 a0 t213 y246 x5_1 (wrap64 (x6_1 + 1))) = some r := by first|(rw [hy246];with_reducible exact H)|(have H2_ := (zz3 _ _).symm.trans H;rw [hy246];with_reducible exact H2_)|(have H2_ := (zz3 _ _).symm.trans H;with_reducible exact H2_)|with_reducible exact H|(rw [hy246];exact H)|exact H
           have Ny246 := zA hy246
           clear hy246
           have H' := zA H
           clear H
           obtain ⟨Ao57, co57, eo57⟩ := Kd.R_slice HO_3.out
           subst eo57
           have p235 : 0 ≤ (x6_1 : Int) := zE (by first|(with_reducible assumption)|assumption)
           have q235 : x6_1 < (t213.length : Int) := zE (by first|(with_reducible assumption)|assumption)
           obtain ⟨ad235, e235, hx235_0⟩ := Kd.at_bool (Kd.R_reads' HO_3.out).2.2 x6_1 p235 q235
           (try rw [← Nbq40.out] at hx235_0)
           cases e235
           replace p235 := eq_true p235
           replace q235 := eq_true q235
           go_wp2_with (first|((with_reducible refine gate_builtin (b := .append) (xs := #[.tmp 44, .tmp 46]) rfl ?_);at_builtin;refine Kd.R_append (Kd.int .i64) (w0 := w) w.heap.size rfl (.tmp 44) (.tmp 46) 36 3 (.int .i64 0) 8 rfl Tryd.underlying36 info3 rfl (by decide) (by omega) u4 x4_1 x5_1 [.int .i64 x5_1] (fun _ => True) (fun _ => False) rfl rfl ?aP (fun _ hk => hk.elim) ?aF ?aO ?aB ?aS ?aL ?_;(case aP => exact rfl);(case aB => exact (by repeat (first|(with_reducible first|exact HB.out|apply zG|apply zF|apply zH)|exact HB.out)));(case aF => exact (fun _ _ => trivial));(case aO => exact (by (with_reducible repeat (first|apply yy1|apply yy2|apply yy3));exact HO_4.out));(case aS => exact (zO (by repeat (first|(with_reducible first|exact HB.out|apply zG|apply zF|apply zH)|exact HB.out))));(case aL => have := LMc56.out;omega);intro v247 w58 ho hb hg hat;rw [← Ny246.out] at ho;have n0_ := zA (Kd.R_over' (by (with_reducible repeat (first|apply yy1|apply yy2|apply yy3));exact HO_3.out) (Kd.R_typed (by (with_reducible repeat (first|apply yy1|apply yy2|apply yy3));exact HO_4.out)) (by decide) hg);have n1_ := zA (hb);have n2_ := zA (ho);clear HO_3;clear HB;clear HO_4;have HO_3 := n0_;have HB := n1_;have HO248 := n2_;clear n0_ n1_ n2_;clear ho hb hg hat))
           go_roundg kj6
           case measure => have := HK1.out;have := HJ6.out;omega
           case rel => exact ⟨(y246), (x5_1), (wrap64 (x6_1 + 1)), (by first|rfl|(simp;done)|(simp [*];done)), (by first|rfl|(simp;done)|(simp [*];done)), H', ⟨by have := HK1.out;have := HJ6.out;omega⟩, ⟨by (with_reducible repeat (first|apply yy1|apply yy2|apply yy3));exact HO_3.out⟩, ⟨by (with_reducible repeat (first|apply yy1|apply yy2|apply yy3));exact HO248.out⟩, ⟨by repeat (first|(with_reducible first|exact HB.out|apply zG|apply zF|apply zH)|exact HB.out)⟩⟩
          ·rw [if_neg c56] at H
           exact absurd H (by simp)
        ·rw [if_neg c39] at H
         exact absurd H (by simp)
       ·rw [if_neg c38] at H
        exact absurd H (by simp)
   ·rw [if_neg c6] at H
    have c6b0 : decide (x6_1 < (a0.size : Int)) = false := decide_eq_false c6
    clear c6
    obtain rfl := Option.some.inj H
    go_wp2
    go_ret
    exact ⟨_, by first|rfl|(simp [errW_none, errW_some] <;> rfl)|(simp [*, errW_none, errW_some] <;> rfl), by (with_reducible repeat (first|apply yy1|apply yy2|apply yy3));exact HO_4.out, by repeat (first|(with_reducible first|exact HB.out|apply zG|apply zF|apply zH)|exact HB.out)⟩

def quarryref04_need.f (a0 : Int) : Option (Int) := if (Int.tmod a0 64) = 0 then (some (wrap64 (Int.tdiv a0 64))) else (some (wrap64 ((wrap64 (Int.tdiv a0 64)) + 1)))
set_option maxHeartbeats 8000000 in
set_option maxRecDepth 100000 in
theorem quarryref04_need.calls (a0 : Int) (r : Int) (w : World) (h : quarryref04_need.f a0 = some r) :
  Calls Tryd.prog 102 #[.int .i64 a0] w fun e w' => e = .returned (.int .i64 r) ∧ Drawn0 w w' := by
 have H : (if (Int.tmod a0 64) = 0 then (some (wrap64 (Int.tdiv a0 64))) else (some (wrap64 ((wrap64 (Int.tdiv a0 64)) + 1)))) = some r := h
 clear h
 by_cases c2 : (Int.tmod a0 64) = 0
 ·rw [if_pos c2] at H
  have c2b0 : ((Int.tmod a0 64) == 0) = true := beq_iff_eq.mpr c2
  have c2b1 : ((Int.tmod a0 64) != 0) = false := bne_eq_false_iff_eq.mpr c2
  clear c2
  obtain rfl := Option.some.inj H
  go_enter Tryd.func102, Tryd.ntmps102
  go_wp2
  go_ret
  exact ⟨by first|rfl|(simp;done)|(simp [*];done), by repeat (first|exact Drawn0.refl _|apply Drawn0.step)⟩
 ·rw [if_neg c2] at H
  have c2b0 : ((Int.tmod a0 64) == 0) = false := beq_eq_false_iff_ne.mpr c2
  have c2b1 : ((Int.tmod a0 64) != 0) = true := bne_iff_ne.mpr c2
  obtain rfl := Option.some.inj H
  go_enter Tryd.func102, Tryd.ntmps102
  go_wp2
  go_ret
  exact ⟨by first|rfl|(simp;done)|(simp [*];done), by repeat (first|exact Drawn0.refl _|apply Drawn0.step)⟩

mutual
def quarryref04_Of.l0 : Nat → List Bool → Int → Int → List Int → Option (Int × List Int)
 | 0, _, _, _, _ => none
 | k + 1, x0, x4, x251000, x251001 => (quarryref04_need.f (x0.length : Int)).bind fun t251 => (if x4 < t251 then (quarryref04_Of.l1 k x0 x4 0 63 x251000 x251001) else (some (x251000, x251001)))
def quarryref04_Of.l1 : Nat → List Bool → Int → Int → Int → Int → List Int → Option (Int × List Int)
 | 0, _, _, _, _, _, _ => none
 | k + 1, x0, x4, x5, x6, x251000, x251001 => if x6 ≥ 0 then (if (wrap64 ((wrap64 (64 * x4)) + x6)) < (x0.length : Int) then (if 0 ≤ (wrap64 ((wrap64 (64 * x4)) + x6)) then (if rdOf false x0 (wrap64 ((wrap64 (64 * x4)) + x6)) = true then (quarryref04_Of.l1 k x0 x4 (IntKind.u64.wrap ((IntKind.u64.wrap (2 * x5)) + 1)) (wrap64 (x6 - 1)) x251000 x251001) else (quarryref04_Of.l1 k x0 x4 (IntKind.u64.wrap (2 * x5)) (wrap64 (x6 - 1)) x251000 x251001)) else (none)) else (quarryref04_Of.l1 k x0 x4 (IntKind.u64.wrap (2 * x5)) (wrap64 (x6 - 1)) x251000 x251001)) else (if x251001.length < 17592186044416 then (quarryref04_Of.l0 k x0 (wrap64 (x4 + 1)) x251000 (x251001 ++ [x5])) else (none))
end
def quarryref04_Of.f (k : Nat) (l0 : List Bool) : Option (Int × List Int) := quarryref04_Of.l0 k l0 0 (l0.length : Int) ([] : List Int)
set_option maxHeartbeats 8000000 in
set_option maxRecDepth 100000 in
theorem quarryref04_Of.calls (k : Nat) (A0 : Option Addr) (c0 : Nat) (l0 : List Bool) (r1 : Int) (r2 : List Int) (w : World) (hr0 : Kd.C Kd.bool w A0 l0.length l0) (hc0 : l0.length ≤ c0) (h : quarryref04_Of.f k l0 = some (r1, r2)) :
  Calls Tryd.prog 68 #[.slice A0 l0.length c0] w fun e w' => ∃ v1_ : Value, e = .returned (.agg #[.int .i64 r1, v1_]) ∧ Kd.R (Kd.int .u64) 75 w' w.heap.size (fun _ => True) v1_ r2 ∧ Below w.heap.size w w' := by
 have hu34 := Tryd.underlying34
 have HR0 := zA hr0
 have HC0 := zA hc0
 clear hr0 hc0
 have HB := zA (Below.refl w.heap.size w)
 have H : (quarryref04_Of.l0 k l0 0 (l0.length : Int) ([] : List Int)) = some (r1, r2) := h
 clear h
 have H' := zA H
 clear H
 go_enter Tryd.func68, Tryd.ntmps68
 go_wp2_with (first|((with_reducible refine gate_dst (N := 2) rfl ?_);refine box_event ?hg (N := 2) ?hd (cs := #[.int .i64 0, .slice none 0 0]) (t := 34) ?hr ?_;(case hd => rfl);(case hg => rfl);(case hr => first|(go_simp;done)|(go_simp;rfl));intro gb249 hg w2 hbox hb;have n0_ := zA (zN (by repeat (first|(with_reducible first|exact HB.out|apply zG|apply zF|apply zH)|exact HB.out)) hb);have n1_ := zA (hbox);have n2_ := zA ((by rw [hg];exact (zO (by repeat (first|(with_reducible first|exact HB.out|apply zG|apply zF|apply zH)|exact HB.out))) : w.heap.size ≤ gb249));have n3_ := zA ((by rw [hg];exact (zO (by repeat (first|(with_reducible first|exact HB.out|apply zG|apply zF|apply zH)|exact HB.out))) : w.heap.size ≤ gb249));clear HB;have HB := n0_;have BK249 := n1_;have GW249 := n2_;have GE249 := n3_;clear n0_ n1_ n2_ n3_;clear hb hbox hg)|((with_reducible refine gate_dst (N := 3) rfl ?_);refine box_event ?hg (N := 3) ?hd (cs := #[.int .i64 0, .slice none 0 0]) (t := 34) ?hr ?_;(case hd => rfl);(case hg => rfl);(case hr => first|(go_simp;done)|(go_simp;rfl));intro gb250 hg w3 hbox hb;have n0_ := zA (zQ (g := gb249) (o := .cells #[.int .i64 0, .slice none 0 0] 34 (0, 0)) (by (with_reducible repeat (first|refine zJ ?_ _|refine zK ?_|refine zL ?_ _));exact BK249.out) hb);have n1_ := zA (zN (by repeat (first|(with_reducible first|exact HB.out|apply zG|apply zF|apply zH|refine zI ?_ GE249.out)|exact HB.out)) hb);have n2_ := zA (hbox);have n3_ := zA ((by rw [hg];exact (zO (by repeat (first|(with_reducible first|exact HB.out|apply zG|apply zF|apply zH|refine zI ?_ GE249.out)|exact HB.out))) : w.heap.size ≤ gb250));have n4_ := zA ((by rw [hg];exact (zO (by repeat (first|(with_reducible first|exact HB.out|apply zG|apply zF|apply zH|refine zI ?_ GE249.out)|exact HB.out))) : w.heap.size ≤ gb250));have n5_ := zA ((by rw [hg];exact Nat.ne_of_lt (blk_lt (g := gb249) (o := .cells #[.int .i64 0, .slice none 0 0] 34 (0, 0)) (by (with_reducible repeat (first|refine zJ ?_ _|refine zK ?_|refine zL ?_ _));exact BK249.out)) : gb249 ≠ gb250));have n6_ := zA ((by rw [hg];exact Nat.ne_of_gt (blk_lt (g := gb249) (o := .cells #[.int .i64 0, .slice none 0 0] 34 (0, 0)) (by (with_reducible repeat (first|refine zJ ?_ _|refine zK ?_|refine zL ?_ _));exact BK249.out)) : gb250 ≠ gb249));clear BK249;clear HB;have BK249 := n0_;have HB := n1_;have BK250 := n2_;have GW250 := n3_;have GE250 := n4_;have NB249_250 := n5_;have NB250_249 := n6_;clear n0_ n1_ n2_ n3_ n4_ n5_ n6_;clear hb hbox hg;have hnb4 := NB250_249.out;have hnc4 := NB249_250.out;have hcz5_0 : w3.cell? ⟨gb250, 0, none⟩ = some (.int .i64 0) := (zP BK250.out 0).trans rfl;have hcz5_1 : w3.cell? ⟨gb250, 1, none⟩ = some (.slice none 0 0) := (zP BK250.out 1).trans rfl;have hfz5_0 := zR BK250.out 0;have hfz5_1 := zR BK250.out 1))
 go_loopg [4] k (fun kq v4 w' => ∃ (x4_1 : Int) (x251001_1 : List Int) (u251001 : Value), v4 = .int .i64 x4_1 ∧ Aside0 (quarryref04_Of.l0 kq l0 x4_1 (l0.length : Int) x251001_1 = some (r1, r2)) ∧ Aside0 (kq ≤ k) ∧ Aside0 (Kd.R (Kd.int .u64) 75 w' w.heap.size (fun _ => True) u251001 x251001_1) ∧ Aside0 (w'.heap[gb249]? = some (.cells #[.int .i64 0, (.slice none 0 0)] 34 (0, 0))) ∧ Aside0 (w'.heap[gb250]? = some (.cells #[.int .i64 (l0.length : Int), u251001] 34 (0, 0))) ∧ Aside0 (Below w.heap.size w w'))
 case atStart => exact ⟨(0), (([] : List Int)), (.slice none 0 0), (by first|rfl|(simp;done)|(simp [*];done)), H', ⟨Nat.le_refl _⟩, ⟨by first|exact Kd.R_nil _ _ _ _ _|exact Kd.N_nil _ _ _ _ _|exact Kd.V_nil _ _ _ _ _|exact Kd.Q_nil _ _ _ _ _|exact Kd.S_nil _ _ _ _ _⟩, ⟨by (with_reducible repeat (first|refine zJ ?_ _|refine zK ?_|refine zL ?_ _));refine blk_far ?_ NB249_250.out _;(with_reducible repeat (first|refine zJ ?_ _|refine zK ?_|refine zL ?_ _));refine blk_far ?_ NB249_250.out _;(with_reducible repeat (first|refine zJ ?_ _|refine zK ?_|refine zL ?_ _));exact BK249.out⟩, ⟨by (with_reducible repeat (first|refine zJ ?_ _|refine zK ?_|refine zL ?_ _));refine blk_put (cs := #[.int .i64 (l0.length : Int), .slice none 0 0]) ?_ 1 _ rfl;(with_reducible repeat (first|refine zJ ?_ _|refine zK ?_|refine zL ?_ _));refine blk_put (cs := #[.int .i64 0, .slice none 0 0]) ?_ 0 _ rfl;(with_reducible repeat (first|refine zJ ?_ _|refine zK ?_|refine zL ?_ _));exact BK250.out⟩, ⟨by repeat (first|(with_reducible first|exact HB.out|apply zG|apply zF|apply zH|refine zI ?_ GE249.out|refine zI ?_ GE250.out)|exact HB.out)⟩⟩
 case round =>
  clear H'
  try clear p2
  try clear c4
  try clear hcz5_0
  try clear hcz5_1
  try clear hfz5_0
  try clear hfz5_1
  obtain ⟨x4_1, x251001_1, u251001, rfl, HA, HK1, HO_251001, BK249, BK250, HB⟩ := hrel
  cases gk with
  | zero => exact absurd HA.out (by simp [quarryref04_Of.l0])
  | succ k1 =>
   have H := HA.out
   clear HA
   simp only [quarryref04_Of.l0] at H
   replace H := Option.bind_eq_some_iff.mp H
   obtain ⟨t251, A60, H⟩ := H
   replace H : (if x4_1 < t251 then (quarryref04_Of.l1 k1 l0 x4_1 0 63 (l0.length : Int) x251001_1) else (some ((l0.length : Int), x251001_1))) = some (r1, r2) := H
   have A6 := zA A60
   clear A60
   by_cases c7 : x4_1 < t251
   ·rw [if_pos c7] at H
    have c7b0 : decide (x4_1 < t251) = true := zz1 c7
    clear c7
    have H' := zA H
    clear H
    go_wp2_with (first|((with_reducible refine gate_callee (f := 102) rfl ?_);refine goesL_ (some 13) rfl rfl Tryd.func102 (by kernel_rfl) rfl #[.int .i64 (l0.length : Int)] rfl (by (try simp only [List.map_toArray, List.map_cons, List.map_nil]);first|done|rfl|(simp only [List.length_drop, List.length_take];rfl)) ?_;(with_reducible refine (quarryref04_need.calls (l0.length : Int) t251 _ A6.out).mono ?_);rintro e w' ⟨rfl, ⟨nd, rfl⟩⟩;refine ⟨_, rfl, ?_⟩))
    go_loopg [5, 6] k1 (fun kq v5 v6 w' => ∃ (x5_2 : Int) (x6_2 : Int), v5 = .int .u64 x5_2 ∧ v6 = .int .i64 x6_2 ∧ Aside0 (quarryref04_Of.l1 kq l0 x4_1 x5_2 x6_2 (l0.length : Int) x251001_1 = some (r1, r2)) ∧ Aside0 (kq ≤ k1) ∧ Aside0 (Kd.R (Kd.int .u64) 75 w' w.heap.size (fun _ => True) u251001 x251001_1) ∧ Aside0 (w'.heap[gb249]? = some (.cells #[.int .i64 0, (.slice none 0 0)] 34 (0, 0))) ∧ Aside0 (w'.heap[gb250]? = some (.cells #[.int .i64 (l0.length : Int), u251001] 34 (0, 0))) ∧ Aside0 (Below w.heap.size w w'))
    case atStart => exact ⟨(0), (63), (by first|rfl|(simp;done)|(simp [*];done)), (by first|rfl|(simp;done)|(simp [*];done)), H', ⟨Nat.le_refl _⟩, ⟨by (with_reducible repeat (first|apply yy1|apply yy2|apply yy3));exact HO_251001.out⟩, ⟨by (with_reducible repeat (first|refine zJ ?_ _|refine zK ?_|refine zL ?_ _));exact BK249.out⟩, ⟨by (with_reducible repeat (first|refine zJ ?_ _|refine zK ?_|refine zL ?_ _));exact BK250.out⟩, ⟨by repeat (first|(with_reducible first|exact HB.out|apply zG|apply zF|apply zH|refine zI ?_ GE249.out|refine zI ?_ GE250.out)|exact HB.out)⟩⟩
    case round =>
     clear H'
     try clear c1
     try clear p2
     try clear c4
     try clear c6
     try clear c7
     try clear c7b0
     try clear hcz5_0
     try clear hcz5_1
     try clear hfz5_0
     try clear hfz5_1
     try clear p2
     obtain ⟨x5_2, x6_2, rfl, rfl, HA, HK2, HO_251001, BK249, BK250, HB⟩ := hrel
     cases gk with
     | zero => exact absurd HA.out (by simp [quarryref04_Of.l1])
     | succ k2 =>
      have H := HA.out
      clear HA
      simp only [quarryref04_Of.l1] at H
      by_cases c8 : x6_2 ≥ 0
      ·rw [if_pos c8] at H
       have c8b0 : decide (0 ≤ x6_2) = true := zz1 c8
       clear c8
       by_cases c9 : (wrap64 ((wrap64 (64 * x4_1)) + x6_2)) < (l0.length : Int)
       ·rw [if_pos c9] at H
        have c9b0 : decide ((wrap64 ((wrap64 (64 * x4_1)) + x6_2)) < (l0.length : Int)) = true := zz1 c9
        clear c9
        obtain ⟨ji10, hji10⟩ : ∃ j_ : Int, (wrap64 ((wrap64 (64 * x4_1)) + x6_2)) = j_ := ⟨_, rfl⟩
        replace H : (if 0 ≤ (ji10) then (if rdOf false l0 (ji10) = true then (quarryref04_Of.l1 k2 l0 x4_1 (IntKind.u64.wrap ((IntKind.u64.wrap (2 * x5_2)) + 1)) (wrap64 (x6_2 - 1)) (l0.length : Int) x251001_1) else (quarryref04_Of.l1 k2 l0 x4_1 (IntKind.u64.wrap (2 * x5_2)) (wrap64 (x6_2 - 1)) (l0.length : Int) x251001_1)) else (none)) = some (r1, r2) := by first|(rw [hji10] at H;exact H)|(simp only [hji10] at H ⊢;exact H)
        (try rw [hji10] at c9b0)
        have hji10w : (IntKind.i64.wrap ((wrap64 (64 * x4_1)) + x6_2)) = ji10 := (i64_w _).trans hji10
        by_cases c11 : 0 ≤ (ji10)
        ·rw [if_pos c11] at H
         have c11b0 : decide (0 ≤ (ji10)) = true := zz1 c11
         clear c11
         obtain ⟨bq12, hbq12⟩ : ∃ b_ : Bool, b_ = (rdOf false l0 (ji10)) := ⟨_, rfl⟩
         replace H : (if bq12 = true then (quarryref04_Of.l1 k2 l0 x4_1 (IntKind.u64.wrap ((IntKind.u64.wrap (2 * x5_2)) + 1)) (wrap64 (x6_2 - 1)) (l0.length : Int) x251001_1) else (quarryref04_Of.l1 k2 l0 x4_1 (IntKind.u64.wrap (2 * x5_2)) (wrap64 (x6_2 - 1)) (l0.length : Int) x251001_1)) = some (r1, r2) := by rw [← hbq12] at H;exact H
         have Nbq12 := zA hbq12
         clear hbq12
         by_cases c13 : bq12 = true
         ·subst c13
          have H1 : (quarryref04_Of.l1 k2 l0 x4_1 (IntKind.u64.wrap ((IntKind.u64.wrap (2 * x5_2)) + 1)) (wrap64 (x6_2 - 1)) (l0.length : Int) x251001_1) = some (r1, r2) := by rw [if_pos rfl] at H;exact H
          clear H
          have H := H1
          clear H1
          have H' := zA H
          clear H
          have p252 : 0 ≤ ((ji10) : Int) := zE (by first|(with_reducible assumption)|assumption)
          have q252 : (ji10) < (l0.length : Int) := zE (by first|(with_reducible assumption)|assumption)
          obtain ⟨ad252, e252, hx252_0⟩ := Kd.at_bool HR0.out (ji10) p252 q252
          (try rw [← Nbq12.out] at hx252_0)
          cases e252
          replace hx252_0 := (HB.out.cell (zz4 w _ hx252_0)).trans hx252_0
          replace p252 := eq_true p252
          replace q252 := eq_true q252
          go_wp2
          go_roundg k2
          case measure => have := HK1.out;have := HK2.out;omega
          case rel => exact ⟨(IntKind.u64.wrap ((IntKind.u64.wrap (2 * x5_2)) + 1)), (wrap64 (x6_2 - 1)), (by first|rfl|(simp;done)|(simp [*];done)), (by first|rfl|(simp;done)|(simp [*];done)), H', ⟨by have := HK1.out;have := HK2.out;omega⟩, ⟨by (with_reducible repeat (first|apply yy1|apply yy2|apply yy3));exact HO_251001.out⟩, ⟨by (with_reducible repeat (first|refine zJ ?_ _|refine zK ?_|refine zL ?_ _));exact BK249.out⟩, ⟨by (with_reducible repeat (first|refine zJ ?_ _|refine zK ?_|refine zL ?_ _));exact BK250.out⟩, ⟨by repeat (first|(with_reducible first|exact HB.out|apply zG|apply zF|apply zH|refine zI ?_ GE249.out|refine zI ?_ GE250.out)|exact HB.out)⟩⟩
         ·replace c13 := Bool.eq_false_iff.mpr c13
          subst c13
          have H1 : (quarryref04_Of.l1 k2 l0 x4_1 (IntKind.u64.wrap (2 * x5_2)) (wrap64 (x6_2 - 1)) (l0.length : Int) x251001_1) = some (r1, r2) := by rw [if_neg (show ¬ (false = true) by decide)] at H;exact H
          clear H
          have H := H1
          clear H1
          have H' := zA H
          clear H
          have p252 : 0 ≤ ((ji10) : Int) := zE (by first|(with_reducible assumption)|assumption)
          have q252 : (ji10) < (l0.length : Int) := zE (by first|(with_reducible assumption)|assumption)
          obtain ⟨ad252, e252, hx252_0⟩ := Kd.at_bool HR0.out (ji10) p252 q252
          (try rw [← Nbq12.out] at hx252_0)
          cases e252
          replace hx252_0 := (HB.out.cell (zz4 w _ hx252_0)).trans hx252_0
          replace p252 := eq_true p252
          replace q252 := eq_true q252
          go_wp2
          go_roundg k2
          case measure => have := HK1.out;have := HK2.out;omega
          case rel => exact ⟨(IntKind.u64.wrap (2 * x5_2)), (wrap64 (x6_2 - 1)), (by first|rfl|(simp;done)|(simp [*];done)), (by first|rfl|(simp;done)|(simp [*];done)), H', ⟨by have := HK1.out;have := HK2.out;omega⟩, ⟨by (with_reducible repeat (first|apply yy1|apply yy2|apply yy3));exact HO_251001.out⟩, ⟨by (with_reducible repeat (first|refine zJ ?_ _|refine zK ?_|refine zL ?_ _));exact BK249.out⟩, ⟨by (with_reducible repeat (first|refine zJ ?_ _|refine zK ?_|refine zL ?_ _));exact BK250.out⟩, ⟨by repeat (first|(with_reducible first|exact HB.out|apply zG|apply zF|apply zH|refine zI ?_ GE249.out|refine zI ?_ GE250.out)|exact HB.out)⟩⟩
        ·rw [if_neg c11] at H
         exact absurd H (by simp)
       ·rw [if_neg c9] at H
        have c9b0 : decide ((wrap64 ((wrap64 (64 * x4_1)) + x6_2)) < (l0.length : Int)) = false := decide_eq_false c9
        clear c9
        have H' := zA H
        clear H
        go_wp2
        go_roundg k2
        case measure => have := HK1.out;have := HK2.out;omega
        case rel => exact ⟨(IntKind.u64.wrap (2 * x5_2)), (wrap64 (x6_2 - 1)), (by first|rfl|(simp;done)|(simp [*];done)), (by first|rfl|(simp;done)|(simp [*];done)), H', ⟨by have := HK1.out;have := HK2.out;omega⟩, ⟨by (with_reducible repeat (first|apply yy1|apply yy2|apply yy3));exact HO_251001.out⟩, ⟨by (with_reducible repeat (first|refine zJ ?_ _|refine zK ?_|refine zL ?_ _));exact BK249.out⟩, ⟨by (with_reducible repeat (first|refine zJ ?_ _|refine zK ?_|refine zL ?_ _));exact BK250.out⟩, ⟨by repeat (first|(with_reducible first|exact HB.out|apply zG|apply zF|apply zH|refine zI ?_ GE249.out|refine zI ?_ GE250.out)|exact HB.out)⟩⟩
      ·rw [if_neg c8] at H
       have c8b0 : decide (0 ≤ x6_2) = false := decide_eq_false c8
       clear c8
       by_cases c14 : x251001_1.length < 17592186044416
       ·rw [if_pos c14] at H
        have LMc14 := zA c14
        clear c14
        obtain ⟨y253, hy253⟩ : ∃ y_ : List Int, y_ = (x251001_1 ++ [x5_2]) := ⟨_, rfl⟩
        replace H : (quarryref04_Of.l0 k2 l0 (wrap64 (x4_1 + 1)) (l0.length : Int) y253) = some (r1, r2) := by first|(rw [hy253];with_reducible exact H)|(have H2_ := (zz3 _ _).symm.trans H;rw [hy253];with_reducible exact H2_)|(have H2_ := (zz3 _ _).symm.trans H;with_reducible exact H2_)|with_reducible exact H|(rw [hy253];exact H)|exact H
        have Ny253 := zA hy253
        clear hy253
        have H' := zA H
        clear H
        have hnb15 := NB250_249.out
        have hnc15 := NB249_250.out
        have hcz16_0 : wr.cell? ⟨gb250, 0, none⟩ = some (.int .i64 (l0.length : Int)) := (zP BK250.out 0).trans rfl
        have hcz16_1 : wr.cell? ⟨gb250, 1, none⟩ = some (u251001) := (zP BK250.out 1).trans rfl
        have hfz16_0 := zR BK250.out 0
        have hfz16_1 := zR BK250.out 1
        go_wp2_with (first|((with_reducible refine gate_builtin (b := .append) (xs := #[.tmp 42, .tmp 44]) rfl ?_);at_builtin;refine Kd.R_append (Kd.int .u64) (w0 := w) w.heap.size rfl (.tmp 42) (.tmp 44) 32 75 (.int .u64 0) 8 rfl Tryd.underlying32 info75 rfl (by decide) (by omega) u251001 x251001_1 x5_2 [.int .u64 x5_2] (fun _ => True) (fun _ => False) rfl rfl ?aP (fun _ hk => hk.elim) ?aF ?aO ?aB ?aS ?aL ?_;(case aP => exact rfl);(case aB => exact (by repeat (first|(with_reducible first|exact HB.out|apply zG|apply zF|apply zH|refine zI ?_ GE249.out|refine zI ?_ GE250.out)|exact HB.out)));(case aF => exact (fun _ _ => trivial));(case aO => exact (by (with_reducible repeat (first|apply yy1|apply yy2|apply yy3));exact HO_251001.out));(case aS => exact (zO (by repeat (first|(with_reducible first|exact HB.out|apply zG|apply zF|apply zH|refine zI ?_ GE249.out|refine zI ?_ GE250.out)|exact HB.out))));(case aL => have := LMc14.out;omega);intro v254 w17 ho hb hg hat;rw [← Ny253.out] at ho;have n0_ := zA (yy0 (g := gb249) (o := .cells #[.int .i64 0, .slice none 0 0] 34 (0, 0)) (by (with_reducible repeat (first|refine zJ ?_ _|refine zK ?_|refine zL ?_ _));exact BK249.out) hg (Kd.R_ne HO_251001.out BK249.out (by decide)));have n1_ := zA (yy0 (g := gb250) (o := .cells #[.int .i64 (l0.length : Int), u251001] 34 (0, 0)) (by (with_reducible repeat (first|refine zJ ?_ _|refine zK ?_|refine zL ?_ _));exact BK250.out) hg (Kd.R_ne HO_251001.out BK250.out (by decide)));have n2_ := zA (hb);have n3_ := zA (ho);clear BK249;clear BK250;clear HB;clear HO_251001;have BK249 := n0_;have BK250 := n1_;have HB := n2_;have HO255 := n3_;clear n0_ n1_ n2_ n3_;clear ho hb hg hat;obtain ⟨Ao18, co18, eo18⟩ := Kd.R_slice HO255.out;subst eo18;have hcz19_0 : w17.cell? ⟨gb250, 0, none⟩ = some (.int .i64 (l0.length : Int)) := (zP BK250.out 0).trans rfl;have hcz19_1 : w17.cell? ⟨gb250, 1, none⟩ = some (u251001) := (zP BK250.out 1).trans rfl;have hfz19_0 := zR BK250.out 0;have hfz19_1 := zR BK250.out 1))
        go_roundg k2
        case measure => have := HK1.out;have := HK2.out;omega
        case rel => exact ⟨(wrap64 (x4_1 + 1)), (y253), (.slice Ao18 y253.length co18), (by first|rfl|(simp;done)|(simp [*];done)), H', ⟨by have := HK1.out;have := HK2.out;omega⟩, ⟨by (with_reducible repeat (first|apply yy1|apply yy2|apply yy3));exact Kd.R_mono (Kd.R_far (p := ⟨gb250, 1, none⟩) (Kd.R_types HO255.out BK250.out (by decide)) (fun _ hk => hk.2) (.slice Ao18 y253.length co18)) (fun _ hk => trivial)⟩, ⟨by (with_reducible repeat (first|refine zJ ?_ _|refine zK ?_|refine zL ?_ _));refine blk_far ?_ NB249_250.out _;(with_reducible repeat (first|refine zJ ?_ _|refine zK ?_|refine zL ?_ _));exact BK249.out⟩, ⟨by (with_reducible repeat (first|refine zJ ?_ _|refine zK ?_|refine zL ?_ _));refine blk_put (cs := #[.int .i64 (l0.length : Int), u251001]) ?_ 1 _ rfl;(with_reducible repeat (first|refine zJ ?_ _|refine zK ?_|refine zL ?_ _));exact BK250.out⟩, ⟨by repeat (first|(with_reducible first|exact HB.out|apply zG|apply zF|apply zH|refine zI ?_ GE249.out|refine zI ?_ GE250.out)|exact HB.out)⟩⟩
       ·rw [if_neg c14] at H
        exact absurd H (by simp)
   ·rw [if_neg c7] at H
    have c7b0 : decide (x4_1 < t251) = false := decide_eq_false c7
    clear c7
    simp only [Option.some.injEq, Prod.mk.injEq] at H
    obtain ⟨rfl, rfl⟩ := H
    go_wp2_with (first|((with_reducible refine gate_callee (f := 102) rfl ?_);refine goesL_ (some 13) rfl rfl Tryd.func102 (by kernel_rfl) rfl #[.int .i64 (l0.length : Int)] rfl (by (try simp only [List.map_toArray, List.map_cons, List.map_nil]);first|done|rfl|(simp only [List.length_drop, List.length_take];rfl)) ?_;(with_reducible refine (quarryref04_need.calls (l0.length : Int) t251 _ A6.out).mono ?_);rintro e w' ⟨rfl, ⟨nd, rfl⟩⟩;refine ⟨_, rfl, ?_⟩;(try (rw [drewN_self wr];generalize hq_ : World.drewN wr _ = wr;have n0_ : Aside0 (Kd.R (Kd.int .u64) 75 wr w.heap.size (fun _ => True) u251001 x251001_1) := ⟨by rw [← hq_];exact (by (with_reducible repeat (first|apply yy1|apply yy2|apply yy3));exact HO_251001.out)⟩;have n1_ : Aside0 (wr.heap[gb249]? = some (.cells #[.int .i64 0, .slice none 0 0] 34 (0, 0))) := ⟨by rw [← hq_];exact (by (with_reducible repeat (first|refine zJ ?_ _|refine zK ?_|refine zL ?_ _));exact BK249.out)⟩;have n2_ : Aside0 (wr.heap[gb250]? = some (.cells #[.int .i64 (l0.length : Int), u251001] 34 (0, 0))) := ⟨by rw [← hq_];exact (by (with_reducible repeat (first|refine zJ ?_ _|refine zK ?_|refine zL ?_ _));exact BK250.out)⟩;have n3_ : Aside0 (Below w.heap.size w wr) := ⟨by rw [← hq_];exact (by repeat (first|(with_reducible first|exact HB.out|apply zG|apply zF|apply zH|refine zI ?_ GE249.out|refine zI ?_ GE250.out)|exact HB.out))⟩;clear HO_251001 BK249 BK250 HB hq_;have HO_251001 := n0_;have BK249 := n1_;have BK250 := n2_;have HB := n3_;clear n0_ n1_ n2_ n3_));have hnb20 := NB250_249.out;have hnc20 := NB249_250.out;have hcz21_0 : wr.cell? ⟨gb250, 0, none⟩ = some (.int .i64 (l0.length : Int)) := (zP BK250.out 0).trans rfl;have hcz21_1 : wr.cell? ⟨gb250, 1, none⟩ = some (u251001) := (zP BK250.out 1).trans rfl;have hfz21_0 := zR BK250.out 0;have hfz21_1 := zR BK250.out 1;have hcz22_0 : wr.cell? ⟨gb249, 0, none⟩ = some (.int .i64 0) := (zP BK249.out 0).trans rfl;have hcz22_1 : wr.cell? ⟨gb249, 1, none⟩ = some (.slice none 0 0) := (zP BK249.out 1).trans rfl;have hfz22_0 := zR BK249.out 0;have hfz22_1 := zR BK249.out 1;obtain ⟨Ao23, co23, eo23⟩ := Kd.R_slice HO_251001.out;subst eo23))
    refine bodyPost_ret (results_cell_row rfl _ _ gb249 34 #[.int .i64 (l0.length : Int), .slice Ao23 x251001_1.length co23] (0, 0) _ rfl (by (with_reducible repeat (first|refine zJ ?_ _|refine zK ?_|refine zL ?_ _));refine blk_put (cs := #[.int .i64 (l0.length : Int), .slice none 0 0]) ?_ 1 _ rfl;(with_reducible repeat (first|refine zJ ?_ _|refine zK ?_|refine zL ?_ _));refine blk_put (cs := #[.int .i64 0, .slice none 0 0]) ?_ 0 _ rfl;(with_reducible repeat (first|refine zJ ?_ _|refine zK ?_|refine zL ?_ _));exact BK249.out) Tryd.underlying34 rfl (by kernel_rfl)) rfl ?_
    exact ⟨_, by first|rfl|(simp [errW_none, errW_some] <;> rfl)|(simp [*, errW_none, errW_some] <;> rfl), by (with_reducible repeat (first|apply yy1|apply yy2|apply yy3));exact Kd.R_mono (Kd.R_far (p := ⟨gb249, 1, none⟩) (Kd.R_far (p := ⟨gb249, 0, none⟩) (Kd.R_types HO_251001.out BK249.out (by decide)) (fun _ hk => hk.2) (.int .i64 (l0.length : Int))) (fun _ hk => hk.2) (.slice Ao23 x251001_1.length co23)) (fun _ hk => trivial), by repeat (first|(with_reducible first|exact HB.out|apply zG|apply zF|apply zH|refine zI ?_ GE249.out|refine zI ?_ GE250.out)|exact HB.out)⟩

end Go.Proofs.YtgddljealeklkaaDoor.PL
end
