-- Written by a program (myprint.py, over the kit's print) for this claim. Not trusted: Lean checks it.
import Derived.Test.YtifpahkgielocaaPRx0
import Derived.Test.YtifpahkgielocaaPRx1
namespace Go.Proofs.Ytifpahkgielocaa.PR
open Go.RowKit Go.Proofs.YtifpahkgielocaaW.PrintWords Go.Proofs.YtifpahkgielocaaW.PrintLast Go.Proofs.YtifpahkgielocaaW.PrintMore
attribute [local go_sem] max2_int min2_int max_two min_two max_three min_three max_four min_four   -- for this text's walks alone
set_option linter.unusedVariables false
set_option linter.unusedSimpArgs false

/-! ### pieces_Formed: function 12 -/
section
open Go.Proofs.YtifpahkgielocaaQ Go.Proofs.YtifpahkgielocaaM
set_option maxHeartbeats 400000 in
set_option maxRecDepth 100000 in
theorem pieces_Formed.calls (o : Nat → Bool) (u : Nat → Int) (w : World) :
    Calls Try.prog 12 #[.agg (partA o u)] w fun e w' => e = .returned (.bool (formedP o u)) ∧ Below w.heap.size w w' := by
  have HB := BelowH.refl w
  obtain ⟨r, hr⟩ : ∃ r, r = formedP o u := ⟨_, rfl⟩
  rw [← hr]
  have HR := Aside0.mk hr
  clear hr
  go_enter Try.func12, Try.ntmps12
  go_upto_region 1 with (first
    | ((with_reducible refine gate_dst (N := 1) rfl ?_); refine ev_alloc HB rfl (partA o u) 25 ?hr ?_; (case hr => first | (go_simp; done) | (go_simp; rfl)); intro g1 w1 G_g1 GE_g1 B_g1 HBn K_g1; clear HB; have HB := HBn; clear HBn))
  have hc0 := B_g1.cell (partA_u o u (x := 0) (by decide))
  have hc1 := B_g1.cell (partA_u o u (x := 1) (by decide))
  go_wp2_with (first
    | ((with_reducible refine gate_dst (N := 6) rfl ?_); refine ev_load_mid rfl 23 _ rfl g1 2 rfl #[.int .i64 (u 0), .int .i64 (u 1)] (fun j hj => by
        have hj2 : j < 2 := hj
        rw [two_get _ _ hj2, blk_cell B_g1.out, partA_u o u hj2]
        match j, hj2 with
        | 0, _ => rfl
        | 1, _ => rfl) Try.underlying23 (sizeI2 _ _) ?_))
  clear hc0 hc1
  go_loopw [7] (fun v7 wr => ∃ x : Nat, x ≤ 2 ∧ v7 = .int .i64 x ∧ Aside0 (∀ y, y < x → binB (u y) = true) ∧ Blk wr g1 (partA o u) 25 ∧ BelowH w wr) (fun v7 _ => 2 - (intOf v7).toNat)
  case atStart => exact ⟨0, by omega, rfl, ⟨fun y h => absurd h (by omega)⟩, B_g1, HB⟩
  case round =>
    clear B_g1 HB
    obtain ⟨x, hx, rfl, HX, B1, HB⟩ := hrel
    by_cases hlt : x < 2
    · have h1 : (x : Int) < 2 := by omega
      have KX := Aside0.mk hlt
      have IX : ∀ W : World, (Instr.index 23 (.agg #[.int .i64 (u 0), .int .i64 (u 1)]) (.int .i64 (x : Int))).run Try.prog W = .ok (.int .i64 (u x)) W := fun W =>
        run_index_arr (P := Try.prog) Try.underlying23 (by kernel_rfl) (by kernel_rfl) (by kernel_rfl) hlt (by
          rw [two_get _ _ hlt]
          match x, hlt with
          | 0, _ => rfl
          | 1, _ => rfl) .i64 W
      clear hlt hx
      by_cases z0 : u x = 0
      · have f0 : (u x != 0) = false := bne_eq_false_iff_eq.mpr z0
        have NX := Aside0.mk (bin_next HX.out (.inl z0))
        clear z0
        go_wp2
        go_roundw
        case rel => exact ⟨x + 1, by have := KX.out; omega, by simp, NX, B1, HB⟩
        case measure =>
          simp [intOf]
          have := KX.out
          omega
      · have f0 : (u x != 0) = true := bne_iff_ne.mpr z0
        by_cases z1 : u x = 1
        · have f1 : (u x != 1) = false := bne_eq_false_iff_eq.mpr z1
          have NX := Aside0.mk (bin_next HX.out (.inr z1))
          clear z0 z1
          go_wp2
          go_roundw
          case rel => exact ⟨x + 1, by have := KX.out; omega, by simp, NX, B1, HB⟩
          case measure =>
            simp [intOf]
            have := KX.out
            omega
        · have f1 : (u x != 1) = true := bne_iff_ne.mpr z1
          have NX : formedP o u = false := formed_bad KX.out (by simp [binB, z0, z1])
          rw [NX] at HR
          have HR' := HR.out
          subst HR'
          clear z0 z1 NX HR
          go_wp2
          go_ret
          exact ⟨rfl, HB.out⟩
    · obtain rfl : x = 2 := by omega
      have NX := formed_end (o := o) HX.out
      have HR := Aside0.mk (HR.out.trans NX)
      have hc0 := B1.cell (partA_u o u (x := 0) (by decide))
      have hc1 := B1.cell (partA_u o u (x := 1) (by decide))
      by_cases e : u 0 = u 1
      · have f0 : (u 0 == u 1) = true := beq_iff_eq.mpr e
        rw [decide_eq_true e, Bool.true_or] at HR
        have HR' := HR.out
        subst HR'
        clear e NX HR
        go_wp2
        go_ret
        exact ⟨rfl, HB.out⟩
      · have f0 : (u 0 == u 1) = false := beq_eq_false_iff_ne.mpr e
        rw [decide_eq_false e, Bool.false_or] at HR
        clear e NX
        have c0 := B1.cell (partA_o o u (x := 0) (by decide))
        have c1 := B1.cell (partA_o o u (x := 1) (by decide))
        have EQ : ∀ W : World, (Op.equalIn 10000 22 (.agg #[.bool (o 0), .bool (o 1)]) (.agg #[.bool false, .bool false])).run Try.prog W = .ok ((o 0 == false) && (o 1 == false)) W := fun W => eqB2 9998 _ _ _ _ W
        go_wp2
        go_ret
        refine ⟨?_, HB.out⟩
        rw [HR.out]
        cases o 0 <;> cases o 1 <;> rfl
end


/-! ### quarryref09_texts: function 30 -/
mutual
def quarryref09_texts.l0 : Nat → List ByteArray → Int → Int → Option (List ByteArray)
  | 0, _, _, _ => none
  | k + 1, x1, x2, x3 => if x3 < 3 then (quarryref09_texts.l1 k x1 x3 (x1.length : Int) x2) else (some x1)
def quarryref09_texts.l1 : Nat → List ByteArray → Int → Int → Int → Option (List ByteArray)
  | 0, _, _, _, _ => none
  | k + 1, x1, x3, x4, x5 => if x5 < x4 then (if 0 ≤ x5 then (if x5 < (x1.length : Int) then (if (rdOf ByteArray.empty x1 x5).size + 1 ≤ 9223372036854775807 then (if x1.length < 8796093022208 then ((some (x1 ++ [(rdOf ByteArray.empty x1 x5) ++ (⟨#[92]⟩ : ByteArray)] : List ByteArray)).bind fun y117 => (if x5 < (y117.length : Int) then (if (rdOf ByteArray.empty y117 x5).size + 1 ≤ 9223372036854775807 then (if y117.length < 8796093022208 then ((some (y117 ++ [(rdOf ByteArray.empty y117 x5) ++ (⟨#[34]⟩ : ByteArray)] : List ByteArray)).bind fun y121 => (if x5 < (y121.length : Int) then (if (rdOf ByteArray.empty y121 x5).size + 1 ≤ 9223372036854775807 then (if y121.length < 8796093022208 then (quarryref09_texts.l1 k (y121 ++ [(rdOf ByteArray.empty y121 x5) ++ (⟨#[120]⟩ : ByteArray)]) x3 x4 (wrap64 (x5 + 1))) else (none)) else (none)) else (none))) else (none)) else (none)) else (none))) else (none)) else (none)) else (none)) else (none)) else (quarryref09_texts.l0 k x1 x4 (wrap64 (x3 + 1)))
end
def quarryref09_texts.f (k : Nat)  : Option (List ByteArray) := quarryref09_texts.l0 k (([(⟨#[]⟩ : ByteArray)] : List ByteArray)) 0 0
theorem quarryref09_texts.mono_l : ∀ k, (∀ y0 y1 y2, LeO (quarryref09_texts.l0 k y0 y1 y2) (quarryref09_texts.l0 (k + 1) y0 y1 y2)) ∧ (∀ y0 y1 y2 y3, LeO (quarryref09_texts.l1 k y0 y1 y2 y3) (quarryref09_texts.l1 (k + 1) y0 y1 y2 y3))
  | 0 => ⟨fun _ _ _ r h => by simp [quarryref09_texts.l0] at h, fun _ _ _ _ r h => by simp [quarryref09_texts.l1] at h⟩
  | k + 1 => by
    obtain ⟨ih0, ih1⟩ := quarryref09_texts.mono_l k
    refine ⟨?_, ?_⟩
    · intro y0 y1 y2
      unfold quarryref09_texts.l0
      repeat' first
      | (with_reducible exact ih0 _ _ _)
      | (with_reducible exact ih1 _ _ _ _)
      | (with_reducible exact LeO.refl _)
      | (with_reducible exact LeO.none _)
      | (with_reducible refine LeO.ite ?_ ?_)
      | (with_reducible refine LeO.bind ?_ (fun _ => ?_))
      | exact ih0 _ _ _
      | exact ih1 _ _ _ _
      | exact LeO.none _
      | refine LeO.ite ?_ ?_
      | refine LeO.bind ?_ (fun _ => ?_)
    · intro y0 y1 y2 y3
      unfold quarryref09_texts.l1
      repeat' first
      | (with_reducible exact ih0 _ _ _)
      | (with_reducible exact ih1 _ _ _ _)
      | (with_reducible exact LeO.refl _)
      | (with_reducible exact LeO.none _)
      | (with_reducible refine LeO.ite ?_ ?_)
      | (with_reducible refine LeO.bind ?_ (fun _ => ?_))
      | exact ih0 _ _ _
      | exact ih1 _ _ _ _
      | exact LeO.none _
      | refine LeO.ite ?_ ?_
      | refine LeO.bind ?_ (fun _ => ?_)
theorem quarryref09_texts.mono : ∀ k, LeO (quarryref09_texts.f k ) (quarryref09_texts.f (k + 1) ) := by
  intro  k
  obtain ⟨ih0, ih1⟩ := quarryref09_texts.mono_l k
  unfold quarryref09_texts.f
  repeat' first
      | (with_reducible exact ih0 _ _ _)
      | (with_reducible exact ih1 _ _ _ _)
      | (with_reducible exact LeO.refl _)
      | (with_reducible exact LeO.none _)
      | (with_reducible refine LeO.ite ?_ ?_)
      | (with_reducible refine LeO.bind ?_ (fun _ => ?_))
      | exact ih0 _ _ _
      | exact ih1 _ _ _ _
      | exact LeO.none _
      | refine LeO.ite ?_ ?_
      | refine LeO.bind ?_ (fun _ => ?_)
set_option maxHeartbeats 8000000 in
set_option maxRecDepth 100000 in
theorem quarryref09_texts.calls (k : Nat)  (r : List ByteArray) (w : World) (h : quarryref09_texts.f k  = some r) :
    Calls Try.prog 30 #[] w fun e w' => ∃ v0_ : Value, e = .returned (v0_) ∧ Kd.R Kd.string 9 w' w.heap.size (fun _ => True) v0_ r ∧ Below w.heap.size w w' := by
  have HB := Aside0.mk (Below.refl w.heap.size w)
  have H : (quarryref09_texts.l0 k (([(⟨#[]⟩ : ByteArray)] : List ByteArray)) 0 0) = some r := h
  clear h
  obtain ⟨y113, hy113⟩ : ∃ y_ : List ByteArray, y_ = (([(⟨#[]⟩ : ByteArray)] : List ByteArray)) := ⟨_, rfl⟩
  replace H : (quarryref09_texts.l0 k y113 0 0) = some r := by first | (rw [hy113]; with_reducible exact H) | (have H2_ := (Option.bind_some _ _).symm.trans H; rw [hy113]; with_reducible exact H2_) | (have H2_ := (Option.bind_some _ _).symm.trans H; with_reducible exact H2_) | with_reducible exact H | (rw [hy113]; exact H) | exact H
  have Ny113 := Aside0.mk hy113
  clear hy113
  have H' := Aside0.mk H
  clear H
  go_enter Try.func30, Try.ntmps30
  go_wp2_with (first | ((with_reducible refine gate_dst (N := 6) rfl ?_); refine Kd.R_lit Kd.string _ 9 ?hg (N := 6) ?hd (xs := ([(⟨#[]⟩ : ByteArray)] : List ByteArray)) (inner := [.string (⟨#[]⟩ : ByteArray)]) (ok := fun _ => True) (okp := fun _ => True) ?hr ?hp (fun _ hk => hk) trivial (Below.refl _ _) (Nat.le_refl _) (by simp) ?_; (case hd => rfl); (case hg => rfl); (case hr => first | (go_simp; done) | (go_simp; rfl)); (case hp => exact (Reps.one (show Kd.M Kd.string _ _ _ (⟨#[]⟩ : ByteArray) [.string (⟨#[]⟩ : ByteArray)] from rfl) (Reps.none _ _))); intro v114 w1 ho2 hb hg_ hnew_; clear hg_ hnew_; (first | rw [← Ny113.out] at ho2 | (simp only [Int.reduceToNat] at ho2; rw [← Ny113.out] at ho2)); have n0_ := Aside0.mk (Kd.R_lower ho2 (below_size (by repeat (first | (with_reducible first | exact HB.out | apply below_alloc | apply pw_below_drewN | apply below_drew1) | exact HB.out)))); have n1_ := Aside0.mk (below_step (by repeat (first | (with_reducible first | exact HB.out | apply below_alloc | apply pw_below_drewN | apply below_drew1) | exact HB.out)) hb); clear HB; have HO115 := n0_; have HB := n1_; clear n0_ n1_; clear hb ho2))
  go_loopg [1, 2, 3] k (fun kq v1 v2 v3 w' => ∃ (x1_1 : List ByteArray) (x2_1 : Int) (x3_1 : Int), v2 = .int .i64 x2_1 ∧ v3 = .int .i64 x3_1 ∧ Aside0 (quarryref09_texts.l0 kq x1_1 x2_1 x3_1 = some r) ∧ Aside0 (kq ≤ k) ∧ Aside0 (Kd.R Kd.string 9 w' w.heap.size (fun _ => True) v1 x1_1) ∧ Aside0 (Below w.heap.size w w'))
  case atStart => exact ⟨(y113), (0), (0), (by first | rfl | (simp; done) | (simp [*]; done)), (by first | rfl | (simp; done) | (simp [*]; done)), H', ⟨Nat.le_refl _⟩, ⟨by (with_reducible repeat (first | apply Kd.R_alloc | apply Kd.R_drewN | apply Kd.R_drew)); exact HO115.out⟩, ⟨by repeat (first | (with_reducible first | exact HB.out | apply below_alloc | apply pw_below_drewN | apply below_drew1) | exact HB.out)⟩⟩
  case round =>
    clear H'
    try clear p2
    obtain ⟨x1_1, x2_1, x3_1, rfl, rfl, HA, HK1, HO_1, HB⟩ := hrel
    cases gk with
    | zero => exact absurd HA.out (by simp [quarryref09_texts.l0])
    | succ k1 =>
      have H := HA.out
      clear HA
      simp only [quarryref09_texts.l0] at H
      by_cases c3 : x3_1 < 3
      · rw [if_pos c3] at H
        have c3b0 : decide (x3_1 < 3) = true := decide_eq_true c3
        clear c3
        have H' := Aside0.mk H
        clear H
        obtain ⟨Ao4, co4, eo4⟩ := Kd.R_slice HO_1.out
        subst eo4
        go_wp2
        go_loopg [1, 5] k1 (fun kq v1 v5 w' => ∃ (x1_2 : List ByteArray) (x5_2 : Int), v5 = .int .i64 x5_2 ∧ Aside0 (quarryref09_texts.l1 kq x1_2 x3_1 (x1_1.length : Int) x5_2 = some r) ∧ Aside0 (kq ≤ k1) ∧ Aside0 (Kd.R Kd.string 9 w' w.heap.size (fun _ => True) v1 x1_2) ∧ Aside0 (Below w.heap.size w w'))
        case atStart => exact ⟨(x1_1), (x2_1), (by first | rfl | (simp; done) | (simp [*]; done)), H', ⟨Nat.le_refl _⟩, ⟨by (with_reducible repeat (first | apply Kd.R_alloc | apply Kd.R_drewN | apply Kd.R_drew)); exact HO_1.out⟩, ⟨by repeat (first | (with_reducible first | exact HB.out | apply below_alloc | apply pw_below_drewN | apply below_drew1) | exact HB.out)⟩⟩
        case round =>
          clear H'
          try clear p2
          try clear c3
          try clear c3b0
          try clear p2
          obtain ⟨x1_2, x5_2, rfl, HA, HK2, HO_1, HB⟩ := hrel
          cases gk with
          | zero => exact absurd HA.out (by simp [quarryref09_texts.l1])
          | succ k2 =>
            have H := HA.out
            clear HA
            simp only [quarryref09_texts.l1] at H
            by_cases c5 : x5_2 < (x1_1.length : Int)
            · rw [if_pos c5] at H
              have c5b0 : decide (x5_2 < (x1_1.length : Int)) = true := decide_eq_true c5
              clear c5
              by_cases c6 : 0 ≤ x5_2
              · rw [if_pos c6] at H
                have c6b0 : decide (0 ≤ x5_2) = true := decide_eq_true c6
                clear c6
                by_cases c7 : x5_2 < (x1_2.length : Int)
                · rw [if_pos c7] at H
                  have c7b0 : decide (x5_2 < (x1_2.length : Int)) = true := decide_eq_true c7
                  clear c7
                  by_cases c8 : (rdOf ByteArray.empty x1_2 x5_2).size + 1 ≤ 9223372036854775807
                  · rw [if_pos c8] at H
                    have c8b0 := eq_true c8
                    have c8b1 : decide ((rdOf ByteArray.empty x1_2 x5_2).size + 1 ≤ 9223372036854775807) = true := decide_eq_true c8
                    try have c8b2 : (9223372036854775807 < (rdOf ByteArray.empty x1_2 x5_2).size + 1) = False := eq_false (Nat.not_lt.2 c8)
                    by_cases c9 : x1_2.length < 8796093022208
                    · rw [if_pos c9] at H
                      have LMc9 := Aside0.mk c9
                      clear c9
                      obtain ⟨y117, hy117⟩ : ∃ y_ : List ByteArray, y_ = (x1_2 ++ [(rdOf ByteArray.empty x1_2 x5_2) ++ (⟨#[92]⟩ : ByteArray)]) := ⟨_, rfl⟩
                      replace H : (if x5_2 < (y117.length : Int) then (if (rdOf ByteArray.empty y117 x5_2).size + 1 ≤ 9223372036854775807 then (if y117.length < 8796093022208 then ((some (y117 ++ [(rdOf ByteArray.empty y117 x5_2) ++ (⟨#[34]⟩ : ByteArray)] : List ByteArray)).bind fun y121 => (if x5_2 < (y121.length : Int) then (if (rdOf ByteArray.empty y121 x5_2).size + 1 ≤ 9223372036854775807 then (if y121.length < 8796093022208 then (quarryref09_texts.l1 k2 (y121 ++ [(rdOf ByteArray.empty y121 x5_2) ++ (⟨#[120]⟩ : ByteArray)]) x3_1 (x1_1.length : Int) (wrap64 (x5_2 + 1))) else (none)) else (none)) else (none))) else (none)) else (none)) else (none)) = some r := by first | (rw [hy117]; with_reducible exact H) | (have H2_ := (Option.bind_some _ _).symm.trans H; rw [hy117]; with_reducible exact H2_) | (have H2_ := (Option.bind_some _ _).symm.trans H; with_reducible exact H2_) | with_reducible exact H | (rw [hy117]; exact H) | exact H
                      have Ny117 := Aside0.mk hy117
                      clear hy117
                      by_cases c10 : x5_2 < (y117.length : Int)
                      · rw [if_pos c10] at H
                        have c10b0 : decide (x5_2 < (y117.length : Int)) = true := decide_eq_true c10
                        clear c10
                        by_cases c11 : (rdOf ByteArray.empty y117 x5_2).size + 1 ≤ 9223372036854775807
                        · rw [if_pos c11] at H
                          have c11b0 := eq_true c11
                          have c11b1 : decide ((rdOf ByteArray.empty y117 x5_2).size + 1 ≤ 9223372036854775807) = true := decide_eq_true c11
                          try have c11b2 : (9223372036854775807 < (rdOf ByteArray.empty y117 x5_2).size + 1) = False := eq_false (Nat.not_lt.2 c11)
                          by_cases c12 : y117.length < 8796093022208
                          · rw [if_pos c12] at H
                            have LMc12 := Aside0.mk c12
                            clear c12
                            obtain ⟨y121, hy121⟩ : ∃ y_ : List ByteArray, y_ = (y117 ++ [(rdOf ByteArray.empty y117 x5_2) ++ (⟨#[34]⟩ : ByteArray)]) := ⟨_, rfl⟩
                            replace H : (if x5_2 < (y121.length : Int) then (if (rdOf ByteArray.empty y121 x5_2).size + 1 ≤ 9223372036854775807 then (if y121.length < 8796093022208 then (quarryref09_texts.l1 k2 (y121 ++ [(rdOf ByteArray.empty y121 x5_2) ++ (⟨#[120]⟩ : ByteArray)]) x3_1 (x1_1.length : Int) (wrap64 (x5_2 + 1))) else (none)) else (none)) else (none)) = some r := by first | (rw [hy121]; with_reducible exact H) | (have H2_ := (Option.bind_some _ _).symm.trans H; rw [hy121]; with_reducible exact H2_) | (have H2_ := (Option.bind_some _ _).symm.trans H; with_reducible exact H2_) | with_reducible exact H | (rw [hy121]; exact H) | exact H
                            have Ny121 := Aside0.mk hy121
                            clear hy121
                            by_cases c13 : x5_2 < (y121.length : Int)
                            · rw [if_pos c13] at H
                              have c13b0 : decide (x5_2 < (y121.length : Int)) = true := decide_eq_true c13
                              clear c13
                              by_cases c14 : (rdOf ByteArray.empty y121 x5_2).size + 1 ≤ 9223372036854775807
                              · rw [if_pos c14] at H
                                have c14b0 := eq_true c14
                                have c14b1 : decide ((rdOf ByteArray.empty y121 x5_2).size + 1 ≤ 9223372036854775807) = true := decide_eq_true c14
                                try have c14b2 : (9223372036854775807 < (rdOf ByteArray.empty y121 x5_2).size + 1) = False := eq_false (Nat.not_lt.2 c14)
                                by_cases c15 : y121.length < 8796093022208
                                · rw [if_pos c15] at H
                                  have LMc15 := Aside0.mk c15
                                  clear c15
                                  obtain ⟨y125, hy125⟩ : ∃ y_ : List ByteArray, y_ = (y121 ++ [(rdOf ByteArray.empty y121 x5_2) ++ (⟨#[120]⟩ : ByteArray)]) := ⟨_, rfl⟩
                                  replace H : (quarryref09_texts.l1 k2 y125 x3_1 (x1_1.length : Int) (wrap64 (x5_2 + 1))) = some r := by first | (rw [hy125]; with_reducible exact H) | (have H2_ := (Option.bind_some _ _).symm.trans H; rw [hy125]; with_reducible exact H2_) | (have H2_ := (Option.bind_some _ _).symm.trans H; with_reducible exact H2_) | with_reducible exact H | (rw [hy125]; exact H) | exact H
                                  have Ny125 := Aside0.mk hy125
                                  clear hy125
                                  have H' := Aside0.mk H
                                  clear H
                                  obtain ⟨Ao16, co16, eo16⟩ := Kd.R_slice HO_1.out
                                  subst eo16
                                  have p116 : 0 ≤ (x5_2 : Int) := of_decide_eq_true (by first | (with_reducible assumption) | assumption)
                                  have q116 : x5_2 < (x1_2.length : Int) := of_decide_eq_true (by first | (with_reducible assumption) | assumption)
                                  obtain ⟨ad116, e116, hx116_0⟩ := Kd.at_string (Kd.R_reads' HO_1.out).2.2 x5_2 p116 q116
                                  cases e116
                                  replace p116 := eq_true p116
                                  replace q116 := eq_true q116
                                  go_wp2_with (first | ((with_reducible refine gate_builtin (b := .append) (xs := #[.tmp 19, .tmp 25]) rfl ?_); at_builtin; refine Kd.R_append Kd.string (w0 := w) w.heap.size rfl (.tmp 19) (.tmp 25) 50 9 (.string ⟨#[]⟩) 16 rfl Try.underlying50 info9 rfl (by decide) (by omega) (.slice (some ad116) x1_2.length co16) x1_2 ((rdOf ByteArray.empty x1_2 x5_2) ++ (⟨#[92]⟩ : ByteArray)) [.string ((rdOf ByteArray.empty x1_2 x5_2) ++ (⟨#[92]⟩ : ByteArray))] (fun _ => True) (fun _ => False) rfl rfl ?aP (fun _ hk => hk.elim) ?aF ?aO ?aB ?aS ?aL ?_; (case aP => exact rfl); (case aB => exact (by repeat (first | (with_reducible first | exact HB.out | apply below_alloc | apply pw_below_drewN | apply below_drew1) | exact HB.out))); (case aF => exact (fun _ _ => trivial)); (case aO => exact (by (with_reducible repeat (first | apply Kd.R_alloc | apply Kd.R_drewN | apply Kd.R_drew)); exact HO_1.out)); (case aS => exact (below_size (by repeat (first | (with_reducible first | exact HB.out | apply below_alloc | apply pw_below_drewN | apply below_drew1) | exact HB.out)))); (case aL => have := LMc9.out; omega); intro v118 w17 ho hb hg hat; rw [← Ny117.out] at ho; have n0_ := Aside0.mk (hb); have n1_ := Aside0.mk (ho); clear HB; clear HO_1; have HB := n0_; have HO119 := n1_; clear n0_ n1_; clear ho hb hg hat; obtain ⟨Ao18, co18, eo18⟩ := Kd.R_slice HO119.out; subst eo18; have p120 : 0 ≤ (x5_2 : Int) := of_decide_eq_true (by first | (with_reducible assumption) | assumption); have q120 : x5_2 < (y117.length : Int) := of_decide_eq_true (by first | (with_reducible assumption) | assumption); obtain ⟨ad120, e120, hx120_0⟩ := Kd.at_string (Kd.R_reads' HO119.out).2.2 x5_2 p120 q120; cases e120; replace p120 := eq_true p120; replace q120 := eq_true q120) | ((with_reducible refine gate_builtin (b := .append) (xs := #[.tmp 27, .tmp 33]) rfl ?_); at_builtin; refine Kd.R_append Kd.string (w0 := w) w.heap.size rfl (.tmp 27) (.tmp 33) 50 9 (.string ⟨#[]⟩) 16 rfl Try.underlying50 info9 rfl (by decide) (by omega) (.slice (some ad120) y117.length co18) y117 ((rdOf ByteArray.empty y117 x5_2) ++ (⟨#[34]⟩ : ByteArray)) [.string ((rdOf ByteArray.empty y117 x5_2) ++ (⟨#[34]⟩ : ByteArray))] (fun _ => True) (fun _ => False) rfl rfl ?aP (fun _ hk => hk.elim) ?aF ?aO ?aB ?aS ?aL ?_; (case aP => exact rfl); (case aB => exact (by repeat (first | (with_reducible first | exact HB.out | apply below_alloc | apply pw_below_drewN | apply below_drew1) | exact HB.out))); (case aF => exact (fun _ _ => trivial)); (case aO => exact (by (with_reducible repeat (first | apply Kd.R_alloc | apply Kd.R_drewN | apply Kd.R_drew)); exact HO119.out)); (case aS => exact (below_size (by repeat (first | (with_reducible first | exact HB.out | apply below_alloc | apply pw_below_drewN | apply below_drew1) | exact HB.out)))); (case aL => have := LMc12.out; omega); intro v122 w19 ho hb hg hat; rw [← Ny121.out] at ho; have n0_ := Aside0.mk (hb); have n1_ := Aside0.mk (ho); clear HB; clear HO119; have HB := n0_; have HO123 := n1_; clear n0_ n1_; clear ho hb hg hat; obtain ⟨Ao20, co20, eo20⟩ := Kd.R_slice HO123.out; subst eo20; have p124 : 0 ≤ (x5_2 : Int) := of_decide_eq_true (by first | (with_reducible assumption) | assumption); have q124 : x5_2 < (y121.length : Int) := of_decide_eq_true (by first | (with_reducible assumption) | assumption); obtain ⟨ad124, e124, hx124_0⟩ := Kd.at_string (Kd.R_reads' HO123.out).2.2 x5_2 p124 q124; cases e124; replace p124 := eq_true p124; replace q124 := eq_true q124) | ((with_reducible refine gate_builtin (b := .append) (xs := #[.tmp 35, .tmp 41]) rfl ?_); at_builtin; refine Kd.R_append Kd.string (w0 := w) w.heap.size rfl (.tmp 35) (.tmp 41) 50 9 (.string ⟨#[]⟩) 16 rfl Try.underlying50 info9 rfl (by decide) (by omega) (.slice (some ad124) y121.length co20) y121 ((rdOf ByteArray.empty y121 x5_2) ++ (⟨#[120]⟩ : ByteArray)) [.string ((rdOf ByteArray.empty y121 x5_2) ++ (⟨#[120]⟩ : ByteArray))] (fun _ => True) (fun _ => False) rfl rfl ?aP (fun _ hk => hk.elim) ?aF ?aO ?aB ?aS ?aL ?_; (case aP => exact rfl); (case aB => exact (by repeat (first | (with_reducible first | exact HB.out | apply below_alloc | apply pw_below_drewN | apply below_drew1) | exact HB.out))); (case aF => exact (fun _ _ => trivial)); (case aO => exact (by (with_reducible repeat (first | apply Kd.R_alloc | apply Kd.R_drewN | apply Kd.R_drew)); exact HO123.out)); (case aS => exact (below_size (by repeat (first | (with_reducible first | exact HB.out | apply below_alloc | apply pw_below_drewN | apply below_drew1) | exact HB.out)))); (case aL => have := LMc15.out; omega); intro v126 w21 ho hb hg hat; rw [← Ny125.out] at ho; have n0_ := Aside0.mk (hb); have n1_ := Aside0.mk (ho); clear HB; clear HO123; have HB := n0_; have HO127 := n1_; clear n0_ n1_; clear ho hb hg hat))
                                  go_roundg k2
                                  case measure => have := HK1.out; have := HK2.out; omega
                                  case rel => exact ⟨(y125), (wrap64 (x5_2 + 1)), (by first | rfl | (simp; done) | (simp [*]; done)), H', ⟨by have := HK1.out; have := HK2.out; omega⟩, ⟨by (with_reducible repeat (first | apply Kd.R_alloc | apply Kd.R_drewN | apply Kd.R_drew)); exact HO127.out⟩, ⟨by repeat (first | (with_reducible first | exact HB.out | apply below_alloc | apply pw_below_drewN | apply below_drew1) | exact HB.out)⟩⟩
                                · rw [if_neg c15] at H
                                  exact absurd H (by simp)
                              · rw [if_neg c14] at H
                                exact absurd H (by simp)
                            · rw [if_neg c13] at H
                              exact absurd H (by simp)
                          · rw [if_neg c12] at H
                            exact absurd H (by simp)
                        · rw [if_neg c11] at H
                          exact absurd H (by simp)
                      · rw [if_neg c10] at H
                        exact absurd H (by simp)
                    · rw [if_neg c9] at H
                      exact absurd H (by simp)
                  · rw [if_neg c8] at H
                    exact absurd H (by simp)
                · rw [if_neg c7] at H
                  exact absurd H (by simp)
              · rw [if_neg c6] at H
                exact absurd H (by simp)
            · rw [if_neg c5] at H
              have c5b0 : decide (x5_2 < (x1_1.length : Int)) = false := decide_eq_false c5
              clear c5
              have H' := Aside0.mk H
              clear H
              go_wp2
              go_roundg k2
              case measure => have := HK1.out; have := HK2.out; omega
              case rel => exact ⟨(x1_2), ((x1_1.length : Int)), (wrap64 (x3_1 + 1)), (by first | rfl | (simp; done) | (simp [*]; done)), (by first | rfl | (simp; done) | (simp [*]; done)), H', ⟨by have := HK1.out; have := HK2.out; omega⟩, ⟨by (with_reducible repeat (first | apply Kd.R_alloc | apply Kd.R_drewN | apply Kd.R_drew)); exact HO_1.out⟩, ⟨by repeat (first | (with_reducible first | exact HB.out | apply below_alloc | apply pw_below_drewN | apply below_drew1) | exact HB.out)⟩⟩
      · rw [if_neg c3] at H
        have c3b0 : decide (x3_1 < 3) = false := decide_eq_false c3
        clear c3
        obtain rfl := Option.some.inj H
        go_wp2
        go_ret
        exact ⟨_, by first | rfl | (simp [errW_none, errW_some] <;> rfl) | (simp [*, errW_none, errW_some] <;> rfl), by (with_reducible repeat (first | apply Kd.R_alloc | apply Kd.R_drewN | apply Kd.R_drew)); exact HO_1.out, by repeat (first | (with_reducible first | exact HB.out | apply below_alloc | apply pw_below_drewN | apply below_drew1) | exact HB.out)⟩

/-! ### quarryref09_Formed: function 13 -/
section
open Go.Proofs.YtifpahkgielocaaQ Go.Proofs.YtifpahkgielocaaM
def TL : List ByteArray := (quarryref09_texts.f 64).getD []
def tx (j : Nat) : ByteArray := rdOf ByteArray.empty TL (j : Int)
theorem tl_eq : quarryref09_texts.f 64 = some TL := by decide +kernel
theorem tl_len : TL.length = 40 := by decide +kernel
theorem tx_short : ∀ j, j < 40 → (tx j).size ≤ 3 := by decide +kernel
def pk (a b : Bool) (j : Nat) : Bool := if j = 0 then a else b
def uk (a b : Int) (j : Nat) : Int := if j = 0 then a else b
theorem all_parts : ∀ (a b : Bool) (c d : Fin 2), formedP (pk a b) (uk c.val d.val) = true → (List.range 40).any (fun j => peq (partO (tx j)) (partU (tx j)) (pk a b) (uk c.val d.val)) = true := by decide +kernel
theorem none_formed {o : Nat → Bool} {u : Nat → Int} (h : ∀ j, j < 40 → peq (partO (tx j)) (partU (tx j)) o u = false) : formedP o u = false := by
  cases g : formedP o u with
  | false => rfl
  | true =>
    exfalso
    obtain ⟨y0, hy0, e0, _⟩ := formed_out g (x := 0) (by decide)
    obtain ⟨y1, hy1, e1, _⟩ := formed_out g (x := 1) (by decide)
    have eo : ∀ o' u', peq o' u' (pk (o 0) (o 1)) (uk (y0 : Int) (y1 : Int)) = peq o' u' o u := fun o' u' => by
      unfold peq pk uk
      rw [e0, e1]
      rfl
    have ef : formedP (pk (o 0) (o 1)) (uk (y0 : Int) (y1 : Int)) = formedP o u := by
      unfold formedP pk uk
      rw [e0, e1]
      rfl
    have hp := all_parts (o 0) (o 1) ⟨y0, hy0⟩ ⟨y1, hy1⟩ (by rw [ef]; exact g)
    rw [List.any_eq_true] at hp
    obtain ⟨j, hj, hj2⟩ := hp
    rw [eo, h j (List.mem_range.mp hj)] at hj2
    cases hj2
set_option maxHeartbeats 1000000 in
set_option maxRecDepth 100000 in
theorem quarryref09_Formed.calls (o : Nat → Bool) (u : Nat → Int) (w : World) :
    Calls Try.prog 13 #[.agg (partA o u)] w fun e w' => e = .returned (.bool (formedP o u)) ∧ Below w.heap.size w w' := by
  have HB := BelowH.refl w
  obtain ⟨r, hr⟩ : ∃ r, r = formedP o u := ⟨_, rfl⟩
  rw [← hr]
  have HR := Aside0.mk hr
  clear hr
  go_enter Try.func13, Try.ntmps13
  go_upto_region 2 with (first
    | ((with_reducible refine gate_dst (N := 1) rfl ?_); refine ev_alloc HB rfl (partA o u) 25 ?hr ?_; (case hr => first | (go_simp; done) | (go_simp; rfl)); intro g1 w1 G_g1 GE_g1 B_g1 HBn K_g1; clear HB; have HB := HBn; clear HBn)
    | (go_at_call 30; (with_reducible refine (quarryref09_texts.calls 64 TL _ tl_eq).mono ?_); rintro e w2 ⟨v0, rfl, hR, hb2⟩; obtain ⟨ad, cap, rfl⟩ := Kd.R_slice1 hR (by rw [tl_len]; decide); have HR2 := Aside0.mk hR; have B1 := B_g1.below hb2; have HB2 := HB.step hb2; clear B_g1 HB hb2 hR))
  have CE : Aside0 (∀ j, j < 40 → w2.cell? (ad.add j) = some (.string (tx j))) := ⟨fun j hj => by
    obtain ⟨A, c, e, _, hC⟩ := Kd.R_reads HR2.out
    cases e
    have h := Kd.foot_string hC (j : Int) (by omega) (by rw [tl_len]; omega)
    rw [Int.toNat_natCast] at h
    exact h⟩
  rw [tl_len]
  clear HR2
  go_wp2
  go_loopw [4] (fun v4 wr => ∃ i : Nat, i ≤ 40 ∧ v4 = .int .i64 i ∧ Blk wr g1 (partA o u) 25 ∧ Aside0 (∀ j, j < 40 → wr.cell? (ad.add j) = some (.string (tx j))) ∧ Aside0 (∀ j, j < i → peq (partO (tx j)) (partU (tx j)) o u = false) ∧ BelowH w wr) (fun v4 _ => 40 - (intOf v4).toNat)
  case atStart => exact ⟨0, by omega, rfl, B1, CE, ⟨fun j h => absurd h (by omega)⟩, HB2⟩
  case round =>
    clear B1 CE HB2
    obtain ⟨i, hi, rfl, s1, CE, NF, HB⟩ := hrel
    by_cases hlt : i < 40
    · have KI := Aside0.mk hlt
      have h1 : (i : Int) < 40 := by omega
      obtain ⟨t, ht⟩ : ∃ t, t = tx i := ⟨_, rfl⟩
      have ca := CE.out
      have ci := ca i hlt
      rw [← ht] at ci
      obtain ⟨b, hb⟩ : ∃ b, b = peq (partO t) (partU t) o u := ⟨_, rfl⟩
      have OC : Aside0 (∀ W, Calls Try.prog 11 #[.string t] W fun e w' => e = .returned (.agg (partA (partO t) (partU t))) ∧ Below W.heap.size W w') := ⟨fun W => quarryref09_Of.calls t W (by have := tx_short i hlt; rw [ht]; omega)⟩
      have EQ : ∀ W : World, (Op.equalIn 10000 25 (.agg (partA (partO t) (partU t))) (.agg (partA o u))).run Try.prog W = .ok b W := fun W => by rw [hb]; exact eqPart _ _ _ _ W
      have HBB : Aside0 (b = true → formedP o u = true) := ⟨fun h => by rw [← formed_same (hb.symm.trans h)]; exact ppart_formed t⟩
      have HBN : Aside0 (b = false → peq (partO (tx i)) (partU (tx i)) o u = false) := ⟨fun h => by rw [← ht, ← hb]; exact h⟩
      clear hlt hi ht hb CE
      go_upto_region 5 with (fail)
      try simp only [Act.put, List.setIfInBounds_toArray, List.set_cons_zero, List.set_cons_succ]
      refine wp_region_noPanic ?_
      refine wp_region_held_drew (S := fun W => Blk W g1 (partA o u) 25 ∧ W.cell? (ad.add i) = some (.string t) ∧ (∀ j, j < 40 → W.cell? (ad.add j) = some (.string (tx j))) ∧ BelowH w W) (by kernel_rfl) ⟨s1.drew, pw_cell_below (below_drew (Below.refl _ _)) ci, fun j hj => pw_cell_below (below_drew (Below.refl _ _)) (ca j hj), HB.drew⟩ (fun hS => ?_)
      clear s1 ci ca HB
      refine' wpAnyH_take (i := 0) (oi := { dst := some 12, op := Go.Op.move (Go.Operand.tmp 3), type := 50, pos := "ref.go:54", after := #[], guard := none }) rfl (by kernel_rfl) (by kernel_rfl) (by kernel_rfl) (fun _ _ _ h => h) (Or.inl ⟨by rfl, ?hy1⟩) hS ?rest1
      case hy1 => (intro w hSw; (try dsimp only at hSw); first | (go_simp; done) | (go_simp; with_reducible rfl))
      try simp only [Act.put, List.setIfInBounds_toArray, List.set_cons_zero, List.set_cons_succ]
      refine' wpAnyH_take (i := 1) (oi := { dst := some 13, op := Go.Op.move (Go.Operand.tmp 4), type := 3, pos := "ref.go:54", after := #[], guard := none }) rfl (by kernel_rfl) (by kernel_rfl) (by kernel_rfl) (fun _ _ _ h => h) (Or.inl ⟨by rfl, ?hy2⟩) hS ?rest2
      case hy2 => (intro w hSw; (try dsimp only at hSw); first | (go_simp; done) | (go_simp; with_reducible rfl))
      try simp only [Act.put, List.setIfInBounds_toArray, List.set_cons_zero, List.set_cons_succ]
      refine' wpAnyH_take (i := 2) (oi := { dst := some 14, op := Go.Op.indexAddr 50 (Go.Operand.tmp 12) (Go.Operand.tmp 13), type := 0, pos := "ref.go:54", after := #[{ on := 0, ground := Go.Ground.data }, { on := 1, ground := Go.Ground.data }], guard := none }) rfl (by kernel_rfl) (by kernel_rfl) (by kernel_rfl) (fun _ _ _ h => h) (Or.inl ⟨by rfl, ?hy3⟩) hS ?rest3
      case hy3 => (intro w hSw; (try dsimp only at hSw); first | (go_simp; done) | (go_simp; with_reducible rfl))
      try simp only [Act.put, List.setIfInBounds_toArray, List.set_cons_zero, List.set_cons_succ]
      refine' wpAnyH_take (i := 3) (oi := { dst := some 15, op := Go.Op.load 9 (Go.Operand.tmp 14), type := 9, pos := "ref.go:54", after := #[{ on := 2, ground := Go.Ground.data }], guard := none }) rfl (by kernel_rfl) (by kernel_rfl) (by kernel_rfl) (fun _ _ _ h => h) (Or.inl ⟨by rfl, ?hy4⟩) hS ?rest4
      case hy4 => (intro w hSw; (try dsimp only at hSw); first | (go_simp; done) | (go_simp; with_reducible rfl))
      try simp only [Act.put, List.setIfInBounds_toArray, List.set_cons_zero, List.set_cons_succ]
      refine wpAnyH_take (i := 5) (oi := { dst := some 17, op := Go.Op.load 25 (Go.Operand.tmp 1), type := 25, pos := "ref.go:54", after := #[], guard := none }) rfl (by kernel_rfl) (by kernel_rfl) (by kernel_rfl) (fun _ _ _ h => h) (rg_load (by rfl) (fun _ hS => hS.1) 25 _ rfl rfl Try.underlying25 rfl (sizeP' _ _)) hS ?_
      try simp only [Act.put, List.setIfInBounds_toArray, List.set_cons_zero, List.set_cons_succ]
      refine wpAnyH_ready (rs := [4]) (by kernel_rfl) (by simp) ?_
      refine AllReadyH.cons (o := { dst := some 16, op := Go.Op.call { callee := Go.Callee.value (Go.Operand.func 11), args := #[Go.Operand.tmp 15], argTypes := #[9] }, type := 25, pos := "ref.go:54", after := #[{ on := 3, ground := Go.Ground.data }], guard := none }) rfl (fun K hK => ?_) ?_
      · obtain ⟨s1, ci, ca, HB⟩ := hS
        refine rg_call (by rfl) _ _ (.agg (partA (partO t) (partU t))) (by first | (go_simp; done) | (go_simp; rfl)) (OC.out _) ?_
        intro W' hb
        refine hK.out _ _ ⟨s1.below hb.out, pw_cell_below hb.out ci, fun j hj => pw_cell_below hb.out (ca j hj), HB.step hb.out⟩ (fun hS => ?_)
        clear hK K hb s1 ci ca HB
        try simp only [Act.put, List.setIfInBounds_toArray, List.set_cons_zero, List.set_cons_succ]
        refine' wpAnyH_take (i := 6) (oi := { dst := some 18, op := Go.Op.binOp Go.BinOp.eql 25 (Go.Operand.tmp 16) (Go.Operand.tmp 17) 25, type := 4, pos := "ref.go:54", after := #[{ on := 4, ground := Go.Ground.data }, { on := 5, ground := Go.Ground.data }], guard := none }) rfl (by kernel_rfl) (by kernel_rfl) (by kernel_rfl) (fun _ _ _ h => h) (Or.inl ⟨by rfl, ?hy5⟩) hS ?rest5
        case hy5 => (intro w hSw; (try dsimp only at hSw); first | (go_simp; done) | (go_simp; with_reducible rfl))
        try simp only [Act.put, List.setIfInBounds_toArray, List.set_cons_zero, List.set_cons_succ]
        refine wpAnyH_done (by kernel_rfl) ?_ _
        refine NoPanic.normal ?_
        obtain ⟨s1, ci, ca, HB⟩ := hS
        cases b with
        | true =>
          have HF := Aside0.mk (HR.out.trans (HBB.out rfl))
          have HF' := HF.out
          subst HF'
          go_wp2
          go_ret
          exact ⟨rfl, HB.out⟩
        | false =>
          go_wp2
          go_roundw
          case rel => exact ⟨i + 1, by have := KI.out; omega, by simp, s1, ⟨ca⟩, ⟨fun j hj => by
            by_cases e : j = i
            · subst e
              exact HBN.out rfl
            · exact NF.out j (by omega)⟩, HB⟩
          case measure =>
            simp [intOf]
            have := KI.out
            omega
      exact AllReadyH.nil
    · obtain rfl : i = 40 := by omega
      have HF := Aside0.mk (HR.out.trans (none_formed NF.out))
      have HF' := HF.out
      subst HF'
      go_wp2
      go_ret
      exact ⟨rfl, HB.out⟩
end


/-! ### quarrylaw09_awake: function 14 -/
section
open Go.Proofs.YtifpahkgielocaaQ Go.Proofs.YtifpahkgielocaaM
set_option maxHeartbeats 400000 in
set_option maxRecDepth 100000 in
theorem quarrylaw09_awake.calls (w : World) :
    Calls Try.prog 14 #[] w fun e w' => e = .returned (.bool true) ∧ Below w.heap.size w w' := by
  have HB := BelowH.refl w
  have HP : peq (partO ⟨#[34, 97, 92]⟩) (partU ⟨#[34, 97, 92]⟩) (fun x => x == 0) (fun _ => 1) = true := by decide +kernel
  have EQ : ∀ W : World, (Op.equalIn 10000 25 (.agg (partA (partO ⟨#[34, 97, 92]⟩) (partU ⟨#[34, 97, 92]⟩))) (.agg #[.bool true, .bool false, .int .i64 1, .int .i64 1])).run Try.prog W = .ok true W := fun W => by
    have := eqPart (partO ⟨#[34, 97, 92]⟩) (partU ⟨#[34, 97, 92]⟩) (fun x => x == 0) (fun _ => 1) W
    rw [HP] at this
    exact this
  clear HP
  go_enter Try.func14, Try.ntmps14
  go_wp2_with (first
    | (go_at_call 10; (with_reducible refine (pieces_Of.calls _ _ (by decide)).mono ?_); rintro e w5 ⟨rfl, hb5⟩; have HB5 := HB.step hb5; clear HB hb5))
  go_ret
  exact ⟨rfl, HB5.out⟩
end


/-! ### quarrylaw09_PiecesParts: function 3 -/
section
open Go.Proofs.YtifpahkgielocaaQ Go.Proofs.YtifpahkgielocaaM
def quarrylaw09_PiecesParts.Pure : Prop := True
set_option maxHeartbeats 1000000 in
set_option maxRecDepth 100000 in
theorem quarrylaw09_PiecesParts.walkP (s : ByteArray) (o : Nat → Bool) (u : Nat → Int) (w : World) (hs : s.size ≤ 140737488351232) :
    Calls Try.prog 3 #[.string s, .agg (partA o u)] w fun e w' => e = .returned (.bool true) ∧ Below w.heap.size w w' := by
  have HB := BelowH.refl w
  obtain ⟨r, hr⟩ : ∃ r, r = formedP o u := ⟨_, rfl⟩
  obtain ⟨so, hso⟩ : ∃ so, so = partO s := ⟨_, rfl⟩
  obtain ⟨su, hsu⟩ : ∃ su, su = partU s := ⟨_, rfl⟩
  have O1 : Aside0 (∀ W, Calls Try.prog 10 #[.string s] W fun e w' => e = .returned (.agg (partA so su)) ∧ Below W.heap.size W w') := ⟨fun W => hso ▸ hsu ▸ pieces_Of.calls s W (by omega)⟩
  have O2 : Aside0 (∀ W, Calls Try.prog 11 #[.string s] W fun e w' => e = .returned (.agg (partA so su)) ∧ Below W.heap.size W w') := ⟨fun W => hso ▸ hsu ▸ quarryref09_Of.calls s W hs⟩
  have F1 : Aside0 (∀ W, Calls Try.prog 12 #[.agg (partA o u)] W fun e w' => e = .returned (.bool r) ∧ Below W.heap.size W w') := ⟨fun W => hr ▸ pieces_Formed.calls o u W⟩
  have F2 : Aside0 (∀ W, Calls Try.prog 13 #[.agg (partA o u)] W fun e w' => e = .returned (.bool r) ∧ Below W.heap.size W w') := ⟨fun W => hr ▸ quarryref09_Formed.calls o u W⟩
  have F3 : Aside0 (∀ W, Calls Try.prog 12 #[.agg (partA so su)] W fun e w' => e = .returned (.bool true) ∧ Below W.heap.size W w') := ⟨fun W => by
    have h := pieces_Formed.calls so su W
    rw [show formedP so su = true by rw [hso, hsu]; exact ppart_formed s] at h
    exact h⟩
  have AW : Aside0 (∀ W, Calls Try.prog 14 #[] W fun e w' => e = .returned (.bool true) ∧ Below W.heap.size W w') := ⟨fun W => quarrylaw09_awake.calls W⟩
  have QE : ∀ W : World, (Op.equalIn 10000 25 (.agg (partA so su)) (.agg (partA so su))).run Try.prog W = .ok true W := fun W => by
    have h := eqPart so su so su W
    rw [peq_true (fun _ _ => rfl) (fun _ _ => rfl)] at h
    exact h
  clear hr hso hsu hs
  go_enter Try.func3, Try.ntmps3
  go_upto_region 1 with (first
    | ((with_reducible refine gate_dst (N := 3) rfl ?_); refine ev_alloc HB rfl (partA o u) 25 ?hr ?_; (case hr => first | (go_simp; done) | (go_simp; rfl)); intro g3 w1 G_g3 GE_g3 B_g3 HBn K_g3; clear HB; have HB := HBn; clear HBn))
  have s3 := B_g3
  clear B_g3 K_g3
  try simp only [Act.put, List.setIfInBounds_toArray, List.set_cons_zero, List.set_cons_succ]
  refine wp_region_noPanic ?_
  refine wp_region_held_drew (S := fun W => Blk W g3 (partA o u) 25 ∧ BelowH w W) (by kernel_rfl) ⟨s3.drew, HB.drew⟩ (fun hS => ?_)
  clear s3 HB
  refine' wpAnyH_take (i := 0) (oi := { dst := some 5, op := Go.Op.move (Go.Operand.tmp 0), type := 9, pos := "law.go:19", after := #[], guard := none }) rfl (by kernel_rfl) (by kernel_rfl) (by kernel_rfl) (fun _ _ _ h => h) (Or.inl ⟨by rfl, ?hy1⟩) hS ?rest1
  case hy1 => (intro w hSw; (try dsimp only at hSw); first | (go_simp; done) | (go_simp; with_reducible rfl))
  try simp only [Act.put, List.setIfInBounds_toArray, List.set_cons_zero, List.set_cons_succ]
  refine' wpAnyH_take (i := 2) (oi := { dst := some 7, op := Go.Op.move (Go.Operand.tmp 0), type := 9, pos := "law.go:19", after := #[], guard := none }) rfl (by kernel_rfl) (by kernel_rfl) (by kernel_rfl) (fun _ _ _ h => h) (Or.inl ⟨by rfl, ?hy2⟩) hS ?rest2
  case hy2 => (intro w hSw; (try dsimp only at hSw); first | (go_simp; done) | (go_simp; with_reducible rfl))
  try simp only [Act.put, List.setIfInBounds_toArray, List.set_cons_zero, List.set_cons_succ]
  refine wpAnyH_ready (rs := [1]) (by kernel_rfl) (by simp) ?_
  refine AllReadyH.cons (o := { dst := some 6, op := Go.Op.call { callee := Go.Callee.value (Go.Operand.func 10), args := #[Go.Operand.tmp 5], argTypes := #[9] }, type := 25, pos := "law.go:19", after := #[{ on := 0, ground := Go.Ground.data }], guard := none }) rfl (fun K hK => ?_) ?_
  · obtain ⟨s3, HB⟩ := hS
    refine rg_call (by rfl) _ _ (.agg (partA so su)) (by first | (go_simp; done) | (go_simp; rfl)) (O1.out _) ?_
    intro W' hb
    refine hK.out _ _ ⟨s3.below hb.out, HB.step hb.out⟩ (fun hS => ?_)
    clear hK K hb s3 HB
    try simp only [Act.put, List.setIfInBounds_toArray, List.set_cons_zero, List.set_cons_succ]
    refine wpAnyH_ready (rs := [3]) (by kernel_rfl) (by simp) ?_
    refine AllReadyH.cons (o := { dst := some 8, op := Go.Op.call { callee := Go.Callee.value (Go.Operand.func 11), args := #[Go.Operand.tmp 7], argTypes := #[9] }, type := 25, pos := "law.go:19", after := #[{ on := 2, ground := Go.Ground.data }, { on := 1, ground := Go.Ground.chain }], guard := none }) rfl (fun K hK => ?_) ?_
    · obtain ⟨s3, HB⟩ := hS
      refine rg_call (by rfl) _ _ (.agg (partA so su)) (by first | (go_simp; done) | (go_simp; rfl)) (O2.out _) ?_
      intro W' hb
      refine hK.out _ _ ⟨s3.below hb.out, HB.step hb.out⟩ (fun hS => ?_)
      clear hK K hb s3 HB
      try simp only [Act.put, List.setIfInBounds_toArray, List.set_cons_zero, List.set_cons_succ]
      refine' wpAnyH_take (i := 4) (oi := { dst := some 9, op := Go.Op.binOp Go.BinOp.eql 25 (Go.Operand.tmp 6) (Go.Operand.tmp 8) 25, type := 4, pos := "law.go:19", after := #[{ on := 1, ground := Go.Ground.data }, { on := 3, ground := Go.Ground.data }], guard := none }) rfl (by kernel_rfl) (by kernel_rfl) (by kernel_rfl) (fun _ _ _ h => h) (Or.inl ⟨by rfl, ?hy3⟩) hS ?rest3
      case hy3 => (intro w hSw; (try dsimp only at hSw); first | (go_simp; done) | (go_simp; with_reducible rfl))
      try simp only [Act.put, List.setIfInBounds_toArray, List.set_cons_zero, List.set_cons_succ]
      refine' wpAnyH_take (i := 5) (oi := { dst := some 10, op := Go.Op.move (Go.Operand.tmp 9), type := 4, pos := "law.go:19", after := #[{ on := 4, ground := Go.Ground.data }, { on := 3, ground := Go.Ground.chain }], guard := none }) rfl (by kernel_rfl) (by kernel_rfl) (by kernel_rfl) (fun _ _ _ h => h) (Or.inl ⟨by rfl, ?hy4⟩) hS ?rest4
      case hy4 => (intro w hSw; (try dsimp only at hSw); first | (go_simp; done) | (go_simp; with_reducible rfl))
      try simp only [Act.put, List.setIfInBounds_toArray, List.set_cons_zero, List.set_cons_succ]
      refine wpAnyH_take (i := 6) (oi := { dst := some 11, op := Go.Op.load 25 (Go.Operand.tmp 3), type := 25, pos := "law.go:19", after := #[{ on := 5, ground := Go.Ground.guard }], guard := some (5, true) }) rfl (by kernel_rfl) (by kernel_rfl) (by kernel_rfl) (fun _ _ _ h => h) (rg_load (by rfl) (fun _ hS => hS.1) 25 _ rfl rfl Try.underlying25 rfl (sizeP' _ _)) hS ?_
      try simp only [Act.put, List.setIfInBounds_toArray, List.set_cons_zero, List.set_cons_succ]
      refine wpAnyH_take (i := 8) (oi := { dst := some 13, op := Go.Op.load 25 (Go.Operand.tmp 3), type := 25, pos := "law.go:19", after := #[{ on := 5, ground := Go.Ground.guard }], guard := some (5, true) }) rfl (by kernel_rfl) (by kernel_rfl) (by kernel_rfl) (fun _ _ _ h => h) (rg_load (by rfl) (fun _ hS => hS.1) 25 _ rfl rfl Try.underlying25 rfl (sizeP' _ _)) hS ?_
      try simp only [Act.put, List.setIfInBounds_toArray, List.set_cons_zero, List.set_cons_succ]
      refine wpAnyH_ready (rs := [7]) (by kernel_rfl) (by simp) ?_
      refine AllReadyH.cons (o := { dst := some 12, op := Go.Op.call { callee := Go.Callee.value (Go.Operand.func 12), args := #[Go.Operand.tmp 11], argTypes := #[25] }, type := 4, pos := "law.go:19", after := #[{ on := 6, ground := Go.Ground.data }, { on := 5, ground := Go.Ground.chain }, { on := 5, ground := Go.Ground.guard }], guard := some (5, true) }) rfl (fun K hK => ?_) ?_
      · obtain ⟨s3, HB⟩ := hS
        refine rg_call (by rfl) _ _ (.bool r) (by first | (go_simp; done) | (go_simp; rfl)) (F1.out _) ?_
        intro W' hb
        refine hK.out _ _ ⟨s3.below hb.out, HB.step hb.out⟩ (fun hS => ?_)
        clear hK K hb s3 HB
        try simp only [Act.put, List.setIfInBounds_toArray, List.set_cons_zero, List.set_cons_succ]
        refine wpAnyH_ready (rs := [9]) (by kernel_rfl) (by simp) ?_
        refine AllReadyH.cons (o := { dst := some 14, op := Go.Op.call { callee := Go.Callee.value (Go.Operand.func 13), args := #[Go.Operand.tmp 13], argTypes := #[25] }, type := 4, pos := "law.go:19", after := #[{ on := 8, ground := Go.Ground.data }, { on := 7, ground := Go.Ground.chain }, { on := 5, ground := Go.Ground.guard }], guard := some (5, true) }) rfl (fun K hK => ?_) ?_
        · obtain ⟨s3, HB⟩ := hS
          refine rg_call (by rfl) _ _ (.bool r) (by first | (go_simp; done) | (go_simp; rfl)) (F2.out _) ?_
          intro W' hb
          refine hK.out _ _ ⟨s3.below hb.out, HB.step hb.out⟩ (fun hS => ?_)
          clear hK K hb s3 HB
          try simp only [Act.put, List.setIfInBounds_toArray, List.set_cons_zero, List.set_cons_succ]
          refine' wpAnyH_take (i := 10) (oi := { dst := some 15, op := Go.Op.binOp Go.BinOp.eql 4 (Go.Operand.tmp 12) (Go.Operand.tmp 14) 4, type := 4, pos := "law.go:19", after := #[{ on := 7, ground := Go.Ground.data }, { on := 9, ground := Go.Ground.data }, { on := 5, ground := Go.Ground.guard }], guard := some (5, true) }) rfl (by kernel_rfl) (by kernel_rfl) (by kernel_rfl) (fun _ _ _ h => h) (Or.inl ⟨by rfl, ?hy5⟩) hS ?rest5
          case hy5 => (intro w hSw; (try dsimp only at hSw); first | (go_simp; done) | (go_simp; with_reducible rfl))
          try simp only [Act.put, List.setIfInBounds_toArray, List.set_cons_zero, List.set_cons_succ]
          refine' wpAnyH_take (i := 11) (oi := { dst := some 16, op := Go.Op.pick (Go.Operand.tmp 10) (Go.Operand.tmp 15) (Go.Operand.const (Go.Value.bool false)), type := 4, pos := "law.go:19", after := #[{ on := 5, ground := Go.Ground.data }, { on := 10, ground := Go.Ground.data }], guard := none }) rfl (by kernel_rfl) (by kernel_rfl) (by kernel_rfl) (fun _ _ _ h => h) (Or.inl ⟨by rfl, ?hy6⟩) hS ?rest6
          case hy6 => (intro w hSw; (try dsimp only at hSw); first | (go_simp; done) | (go_simp; with_reducible rfl))
          try simp only [Act.put, List.setIfInBounds_toArray, List.set_cons_zero, List.set_cons_succ]
          refine' wpAnyH_take (i := 12) (oi := { dst := some 17, op := Go.Op.move (Go.Operand.tmp 16), type := 4, pos := "law.go:19", after := #[{ on := 11, ground := Go.Ground.data }, { on := 9, ground := Go.Ground.chain }], guard := none }) rfl (by kernel_rfl) (by kernel_rfl) (by kernel_rfl) (fun _ _ _ h => h) (Or.inl ⟨by rfl, ?hy7⟩) hS ?rest7
          case hy7 => (intro w hSw; (try dsimp only at hSw); first | (go_simp; done) | (go_simp; with_reducible rfl))
          try simp only [Act.put, List.setIfInBounds_toArray, List.set_cons_zero, List.set_cons_succ]
          refine' wpAnyH_take (i := 13) (oi := { dst := some 18, op := Go.Op.move (Go.Operand.tmp 0), type := 9, pos := "law.go:19", after := #[{ on := 12, ground := Go.Ground.guard }], guard := some (12, true) }) rfl (by kernel_rfl) (by kernel_rfl) (by kernel_rfl) (fun _ _ _ h => h) (Or.inl ⟨by rfl, ?hy8⟩) hS ?rest8
          case hy8 => (intro w hSw; (try dsimp only at hSw); first | (go_simp; done) | (go_simp; with_reducible rfl))
          try simp only [Act.put, List.setIfInBounds_toArray, List.set_cons_zero, List.set_cons_succ]
          refine wpAnyH_ready (rs := [14]) (by kernel_rfl) (by simp) ?_
          refine AllReadyH.cons (o := { dst := some 19, op := Go.Op.call { callee := Go.Callee.value (Go.Operand.func 10), args := #[Go.Operand.tmp 18], argTypes := #[9] }, type := 25, pos := "law.go:19", after := #[{ on := 13, ground := Go.Ground.data }, { on := 12, ground := Go.Ground.chain }, { on := 12, ground := Go.Ground.guard }], guard := some (12, true) }) rfl (fun K hK => ?_) ?_
          · obtain ⟨s3, HB⟩ := hS
            refine rg_call (by rfl) _ _ (.agg (partA so su)) (by first | (go_simp; done) | (go_simp; rfl)) (O1.out _) ?_
            intro W' hb
            refine hK.out _ _ ⟨s3.below hb.out, HB.step hb.out⟩ (fun hS => ?_)
            clear hK K hb s3 HB
            try simp only [Act.put, List.setIfInBounds_toArray, List.set_cons_zero, List.set_cons_succ]
            refine wpAnyH_ready (rs := [15]) (by kernel_rfl) (by simp) ?_
            refine AllReadyH.cons (o := { dst := some 20, op := Go.Op.call { callee := Go.Callee.value (Go.Operand.func 12), args := #[Go.Operand.tmp 19], argTypes := #[25] }, type := 4, pos := "law.go:19", after := #[{ on := 14, ground := Go.Ground.data }, { on := 14, ground := Go.Ground.chain }, { on := 12, ground := Go.Ground.guard }], guard := some (12, true) }) rfl (fun K hK => ?_) ?_
            · obtain ⟨s3, HB⟩ := hS
              refine rg_call (by rfl) _ _ (.bool true) (by first | (go_simp; done) | (go_simp; rfl)) (F3.out _) ?_
              intro W' hb
              refine hK.out _ _ ⟨s3.below hb.out, HB.step hb.out⟩ (fun hS => ?_)
              clear hK K hb s3 HB
              try simp only [Act.put, List.setIfInBounds_toArray, List.set_cons_zero, List.set_cons_succ]
              refine' wpAnyH_take (i := 16) (oi := { dst := some 21, op := Go.Op.pick (Go.Operand.tmp 17) (Go.Operand.tmp 20) (Go.Operand.const (Go.Value.bool false)), type := 4, pos := "law.go:19", after := #[{ on := 12, ground := Go.Ground.data }, { on := 15, ground := Go.Ground.data }], guard := none }) rfl (by kernel_rfl) (by kernel_rfl) (by kernel_rfl) (fun _ _ _ h => h) (Or.inl ⟨by rfl, ?hy9⟩) hS ?rest9
              case hy9 => (intro w hSw; (try dsimp only at hSw); first | (go_simp; done) | (go_simp; with_reducible rfl))
              try simp only [Act.put, List.setIfInBounds_toArray, List.set_cons_zero, List.set_cons_succ]
              refine' wpAnyH_take (i := 17) (oi := { dst := some 22, op := Go.Op.move (Go.Operand.tmp 21), type := 4, pos := "law.go:19", after := #[{ on := 16, ground := Go.Ground.data }, { on := 15, ground := Go.Ground.chain }], guard := none }) rfl (by kernel_rfl) (by kernel_rfl) (by kernel_rfl) (fun _ _ _ h => h) (Or.inl ⟨by rfl, ?hy10⟩) hS ?rest10
              case hy10 => (intro w hSw; (try dsimp only at hSw); first | (go_simp; done) | (go_simp; with_reducible rfl))
              try simp only [Act.put, List.setIfInBounds_toArray, List.set_cons_zero, List.set_cons_succ]
              refine wpAnyH_ready (rs := [18]) (by kernel_rfl) (by simp) ?_
              refine AllReadyH.cons (o := { dst := some 23, op := Go.Op.call { callee := Go.Callee.value (Go.Operand.func 14), args := #[], argTypes := #[] }, type := 4, pos := "law.go:19", after := #[{ on := 17, ground := Go.Ground.chain }, { on := 17, ground := Go.Ground.guard }], guard := some (17, true) }) rfl (fun K hK => ?_) ?_
              · obtain ⟨s3, HB⟩ := hS
                refine rg_call (by rfl) _ _ (.bool true) (by first | (go_simp; done) | (go_simp; rfl)) (AW.out _) ?_
                intro W' hb
                refine hK.out _ _ ⟨s3.below hb.out, HB.step hb.out⟩ (fun hS => ?_)
                clear hK K hb s3 HB
                try simp only [Act.put, List.setIfInBounds_toArray, List.set_cons_zero, List.set_cons_succ]
                refine' wpAnyH_take (i := 19) (oi := { dst := some 24, op := Go.Op.pick (Go.Operand.tmp 22) (Go.Operand.tmp 23) (Go.Operand.const (Go.Value.bool false)), type := 4, pos := "law.go:19", after := #[{ on := 17, ground := Go.Ground.data }, { on := 18, ground := Go.Ground.data }], guard := none }) rfl (by kernel_rfl) (by kernel_rfl) (by kernel_rfl) (fun _ _ _ h => h) (Or.inl ⟨by rfl, ?hy11⟩) hS ?rest11
                case hy11 => (intro w hSw; (try dsimp only at hSw); first | (go_simp; done) | (go_simp; with_reducible rfl))
                try simp only [Act.put, List.setIfInBounds_toArray, List.set_cons_zero, List.set_cons_succ]
                refine' wpAnyH_take (i := 20) (oi := { dst := some 4, op := Go.Op.assign (Go.Operand.tmp 24), type := 4, pos := "law.go:19", after := #[{ on := 19, ground := Go.Ground.data }, { on := 18, ground := Go.Ground.chain }, { on := 0, ground := Go.Ground.phase }, { on := 1, ground := Go.Ground.phase }, { on := 2, ground := Go.Ground.phase }, { on := 3, ground := Go.Ground.phase }, { on := 4, ground := Go.Ground.phase }, { on := 5, ground := Go.Ground.phase }, { on := 6, ground := Go.Ground.phase }, { on := 7, ground := Go.Ground.phase }, { on := 8, ground := Go.Ground.phase }, { on := 9, ground := Go.Ground.phase }, { on := 10, ground := Go.Ground.phase }, { on := 11, ground := Go.Ground.phase }, { on := 12, ground := Go.Ground.phase }, { on := 13, ground := Go.Ground.phase }, { on := 14, ground := Go.Ground.phase }, { on := 15, ground := Go.Ground.phase }, { on := 16, ground := Go.Ground.phase }, { on := 17, ground := Go.Ground.phase }, { on := 18, ground := Go.Ground.phase }, { on := 19, ground := Go.Ground.phase }], guard := none }) rfl (by kernel_rfl) (by kernel_rfl) (by kernel_rfl) (fun _ _ _ h => h) (Or.inl ⟨by rfl, ?hy12⟩) hS ?rest12
                case hy12 => (intro w hSw; (try dsimp only at hSw); first | (go_simp; done) | (go_simp; with_reducible rfl))
                try simp only [Act.put, List.setIfInBounds_toArray, List.set_cons_zero, List.set_cons_succ]
                refine wpAnyH_done (by kernel_rfl) ?_ _
                refine NoPanic.normal ?_
                obtain ⟨s3, HB⟩ := hS
                go_wp2
                go_ret
                exact ⟨rfl, HB.out⟩
              exact AllReadyH.nil
            exact AllReadyH.nil
          exact AllReadyH.nil
        exact AllReadyH.nil
      exact AllReadyH.nil
    exact AllReadyH.nil
  exact AllReadyH.nil
theorem quarrylaw09_PiecesParts.walk (s : ByteArray) (o : Nat → Bool) (u : Nat → Int) (w : World) (hs : s.size ≤ 140737488351232) (_ : True) :
    Calls Try.prog 3 #[.string s, .agg #[.bool (o 0), .bool (o 1), .int .i64 (u 0), .int .i64 (u 1)]] w fun e w' => e = .returned (.bool true) ∧ Below w.heap.size w w' := quarrylaw09_PiecesParts.walkP s o u w hs
end


end Go.Proofs.Ytifpahkgielocaa.PR
