-- Written by a program (myprint.py, over the kit's print) for this claim. Not trusted: Lean checks it.
import Derived.Test.YtagcilcdgckbeaaDoorPKx0
namespace Go.Proofs.YtagcilcdgckbeaaDoor.PK
open Go.RowKit Go.Proofs.YtagcilcdgckbeaaDoorW.PrintWords Go.Proofs.YtagcilcdgckbeaaDoorW.PrintLast Go.Proofs.YtagcilcdgckbeaaDoorW.PrintMore
attribute [local go_sem] max2_int min2_int max_two min_two max_three min_three max_four min_four   -- for this text's walks alone
set_option linter.unusedVariables false
set_option linter.unusedSimpArgs false

/-! ### marks_kindOf: function 37 -/
section
open Go.Proofs.YtagcilcdgckbeaaDoorQ Go.Proofs.YtagcilcdgckbeaaDoorM
set_option maxHeartbeats 2000000 in
set_option maxRecDepth 100000 in
theorem marks_kindOf.tells (x : Nat) (hx : x < 256) (w : World) :
    Calls Tryd.prog 37 #[.int .u8 (x : Int)] w fun e w' => e = .returned (.int .i64 (kindN x)) ∧ Below w.heap.size w w' := by
  have HB := BelowH.refl w
  have H256 := Aside0.mk hx
  clear hx
  go_enter Tryd.func37, Tryd.ntmps37
  go_upto_region 2 with (first
    | ((with_reducible refine gate_dst (N := 3) rfl ?_); refine ev_alloc HB rfl (#[.int .u8 0, .int .i64 0, .int .u8 0, .int .i64 0, .int .u8 0, .int .i64 0, .int .u8 0, .int .i64 0, .int .u8 0, .int .i64 0, .int .u8 0, .int .i64 0, .int .u8 0, .int .i64 0, .int .u8 0, .int .i64 0, .int .u8 0, .int .i64 0, .int .u8 0, .int .i64 0]) 89 ?hr ?_; (case hr => first | (go_simp; done) | (go_simp; rfl)); intro g3 w1 G_g3 GE_g3 B_g3 HBn K_g3; clear HB; have HB := HBn; clear HBn)
    | ((with_reducible refine gate_ (Op.store 89 (.tmp 3) (.tmp 16)) rfl ?_); refine ev_store HB B_g3 GE_g3 rfl 89 _ _ rfl rfl rfl (by kernel_rfl) rfl (by simp [Value.oneCell']) ?_; intro w2 B3 HBn K_w2; clear HB; have HB := HBn; clear HBn))
  go_wp2_with (first
    | ((with_reducible refine gate_dst (N := 17) rfl ?_); refine ev_loadS B3 rfl 89 _ rfl rfl Tryd.underlying89 rfl (by kernel_rfl) ?_))
  clear B3 B_g3 K_w2 K_g3 G_g3 GE_g3
  go_loopw [18] (fun v18 wr => ∃ i : Nat, v18 = .int .i64 (i : Int) ∧ Aside0 (i ≤ 10) ∧ Aside0 (∀ j, j < i → kindsX.getD j 0 ≠ x) ∧ BelowH w wr) (fun v18 _ => 10 - (intOf v18).toNat)
  case atStart => exact ⟨0, rfl, ⟨by decide⟩, ⟨fun j hj => absurd hj (Nat.not_lt_zero j)⟩, HB⟩
  case round =>
    clear HB
    obtain ⟨i, rfl, HI, HJ, HB⟩ := hrel
    have hi := HI.out
    rcases (by omega : i = 0 ∨ i = 1 ∨ i = 2 ∨ i = 3 ∨ i = 4 ∨ i = 5 ∨ i = 6 ∨ i = 7 ∨ i = 8 ∨ i = 9 ∨ i = 10) with rfl | rfl | rfl | rfl | rfl | rfl | rfl | rfl | rfl | rfl | rfl
    · clear hi
      have ix : ∀ w, (Instr.index 89 (.agg #[.int .u8 123, .int .i64 1, .int .u8 125, .int .i64 1, .int .u8 91, .int .i64 1, .int .u8 93, .int .i64 1, .int .u8 58, .int .i64 1, .int .u8 44, .int .i64 1, .int .u8 32, .int .i64 2, .int .u8 9, .int .i64 2, .int .u8 10, .int .i64 2, .int .u8 13, .int .i64 2]) (.int .i64 0)).run Tryd.prog w = .ok (.agg #[.int .u8 123, .int .i64 1]) w := fun _ => by kernel_rfl
      by_cases hx : x = 123
      · have h1 : ((123 : Int) == (x : Int)) = true := by rw [hx]; rfl
        have HX := Aside0.mk hx
        clear hx
        go_wp2_with (first
          | ((with_reducible refine gate_dst (N := 5) rfl ?_); refine ev_alloc HB rfl (#[.int .u8 0, .int .i64 0]) 88 ?hr ?_; (case hr => first | (go_simp; done) | (go_simp; rfl)); intro g5 w3 G_g5 GE_g5 B_g5 HBn K_g5; clear HB; have HB := HBn; clear HBn)
          | ((with_reducible refine gate_ (Op.store 88 (.tmp 5) (.tmp 20)) rfl ?_); refine ev_store HB B_g5 GE_g5 rfl 88 _ _ rfl rfl rfl (by kernel_rfl) rfl (by simp [Value.oneCell']) ?_; intro w4 B5 HBn K_w4; have c50 := B5.cell (i := 0) rfl; have c51 := B5.cell (i := 1) rfl; clear HB; have HB := HBn; clear HBn))
        go_ret
        exact ⟨by rw [HX.out]; rfl, HB.out⟩
      · have h1 : ((123 : Int) == (x : Int)) = false := beq_eq_false_iff_ne.mpr (by omega)
        have HX := Aside0.mk hx
        clear hx
        go_wp2_with (first
          | ((with_reducible refine gate_dst (N := 5) rfl ?_); refine ev_alloc HB rfl (#[.int .u8 0, .int .i64 0]) 88 ?hr ?_; (case hr => first | (go_simp; done) | (go_simp; rfl)); intro g5 w3 G_g5 GE_g5 B_g5 HBn K_g5; clear HB; have HB := HBn; clear HBn)
          | ((with_reducible refine gate_ (Op.store 88 (.tmp 5) (.tmp 20)) rfl ?_); refine ev_store HB B_g5 GE_g5 rfl 88 _ _ rfl rfl rfl (by kernel_rfl) rfl (by simp [Value.oneCell']) ?_; intro w4 B5 HBn K_w4; have c50 := B5.cell (i := 0) rfl; have c51 := B5.cell (i := 1) rfl; clear HB; have HB := HBn; clear HBn))
        go_roundw
        case rel => exact ⟨1, rfl, ⟨by decide⟩, ⟨kinds_next HJ.out (show kindsX.getD 0 0 ≠ x from fun e => HX.out e.symm)⟩, HB⟩
        case measure => decide
    · clear hi
      have ix : ∀ w, (Instr.index 89 (.agg #[.int .u8 123, .int .i64 1, .int .u8 125, .int .i64 1, .int .u8 91, .int .i64 1, .int .u8 93, .int .i64 1, .int .u8 58, .int .i64 1, .int .u8 44, .int .i64 1, .int .u8 32, .int .i64 2, .int .u8 9, .int .i64 2, .int .u8 10, .int .i64 2, .int .u8 13, .int .i64 2]) (.int .i64 1)).run Tryd.prog w = .ok (.agg #[.int .u8 125, .int .i64 1]) w := fun _ => by kernel_rfl
      by_cases hx : x = 125
      · have h1 : ((125 : Int) == (x : Int)) = true := by rw [hx]; rfl
        have HX := Aside0.mk hx
        clear hx
        go_wp2_with (first
          | ((with_reducible refine gate_dst (N := 5) rfl ?_); refine ev_alloc HB rfl (#[.int .u8 0, .int .i64 0]) 88 ?hr ?_; (case hr => first | (go_simp; done) | (go_simp; rfl)); intro g5 w3 G_g5 GE_g5 B_g5 HBn K_g5; clear HB; have HB := HBn; clear HBn)
          | ((with_reducible refine gate_ (Op.store 88 (.tmp 5) (.tmp 20)) rfl ?_); refine ev_store HB B_g5 GE_g5 rfl 88 _ _ rfl rfl rfl (by kernel_rfl) rfl (by simp [Value.oneCell']) ?_; intro w4 B5 HBn K_w4; have c50 := B5.cell (i := 0) rfl; have c51 := B5.cell (i := 1) rfl; clear HB; have HB := HBn; clear HBn))
        go_ret
        exact ⟨by rw [HX.out]; rfl, HB.out⟩
      · have h1 : ((125 : Int) == (x : Int)) = false := beq_eq_false_iff_ne.mpr (by omega)
        have HX := Aside0.mk hx
        clear hx
        go_wp2_with (first
          | ((with_reducible refine gate_dst (N := 5) rfl ?_); refine ev_alloc HB rfl (#[.int .u8 0, .int .i64 0]) 88 ?hr ?_; (case hr => first | (go_simp; done) | (go_simp; rfl)); intro g5 w3 G_g5 GE_g5 B_g5 HBn K_g5; clear HB; have HB := HBn; clear HBn)
          | ((with_reducible refine gate_ (Op.store 88 (.tmp 5) (.tmp 20)) rfl ?_); refine ev_store HB B_g5 GE_g5 rfl 88 _ _ rfl rfl rfl (by kernel_rfl) rfl (by simp [Value.oneCell']) ?_; intro w4 B5 HBn K_w4; have c50 := B5.cell (i := 0) rfl; have c51 := B5.cell (i := 1) rfl; clear HB; have HB := HBn; clear HBn))
        go_roundw
        case rel => exact ⟨2, rfl, ⟨by decide⟩, ⟨kinds_next HJ.out (show kindsX.getD 1 0 ≠ x from fun e => HX.out e.symm)⟩, HB⟩
        case measure => decide
    · clear hi
      have ix : ∀ w, (Instr.index 89 (.agg #[.int .u8 123, .int .i64 1, .int .u8 125, .int .i64 1, .int .u8 91, .int .i64 1, .int .u8 93, .int .i64 1, .int .u8 58, .int .i64 1, .int .u8 44, .int .i64 1, .int .u8 32, .int .i64 2, .int .u8 9, .int .i64 2, .int .u8 10, .int .i64 2, .int .u8 13, .int .i64 2]) (.int .i64 2)).run Tryd.prog w = .ok (.agg #[.int .u8 91, .int .i64 1]) w := fun _ => by kernel_rfl
      by_cases hx : x = 91
      · have h1 : ((91 : Int) == (x : Int)) = true := by rw [hx]; rfl
        have HX := Aside0.mk hx
        clear hx
        go_wp2_with (first
          | ((with_reducible refine gate_dst (N := 5) rfl ?_); refine ev_alloc HB rfl (#[.int .u8 0, .int .i64 0]) 88 ?hr ?_; (case hr => first | (go_simp; done) | (go_simp; rfl)); intro g5 w3 G_g5 GE_g5 B_g5 HBn K_g5; clear HB; have HB := HBn; clear HBn)
          | ((with_reducible refine gate_ (Op.store 88 (.tmp 5) (.tmp 20)) rfl ?_); refine ev_store HB B_g5 GE_g5 rfl 88 _ _ rfl rfl rfl (by kernel_rfl) rfl (by simp [Value.oneCell']) ?_; intro w4 B5 HBn K_w4; have c50 := B5.cell (i := 0) rfl; have c51 := B5.cell (i := 1) rfl; clear HB; have HB := HBn; clear HBn))
        go_ret
        exact ⟨by rw [HX.out]; rfl, HB.out⟩
      · have h1 : ((91 : Int) == (x : Int)) = false := beq_eq_false_iff_ne.mpr (by omega)
        have HX := Aside0.mk hx
        clear hx
        go_wp2_with (first
          | ((with_reducible refine gate_dst (N := 5) rfl ?_); refine ev_alloc HB rfl (#[.int .u8 0, .int .i64 0]) 88 ?hr ?_; (case hr => first | (go_simp; done) | (go_simp; rfl)); intro g5 w3 G_g5 GE_g5 B_g5 HBn K_g5; clear HB; have HB := HBn; clear HBn)
          | ((with_reducible refine gate_ (Op.store 88 (.tmp 5) (.tmp 20)) rfl ?_); refine ev_store HB B_g5 GE_g5 rfl 88 _ _ rfl rfl rfl (by kernel_rfl) rfl (by simp [Value.oneCell']) ?_; intro w4 B5 HBn K_w4; have c50 := B5.cell (i := 0) rfl; have c51 := B5.cell (i := 1) rfl; clear HB; have HB := HBn; clear HBn))
        go_roundw
        case rel => exact ⟨3, rfl, ⟨by decide⟩, ⟨kinds_next HJ.out (show kindsX.getD 2 0 ≠ x from fun e => HX.out e.symm)⟩, HB⟩
        case measure => decide
    · clear hi
      have ix : ∀ w, (Instr.index 89 (.agg #[.int .u8 123, .int .i64 1, .int .u8 125, .int .i64 1, .int .u8 91, .int .i64 1, .int .u8 93, .int .i64 1, .int .u8 58, .int .i64 1, .int .u8 44, .int .i64 1, .int .u8 32, .int .i64 2, .int .u8 9, .int .i64 2, .int .u8 10, .int .i64 2, .int .u8 13, .int .i64 2]) (.int .i64 3)).run Tryd.prog w = .ok (.agg #[.int .u8 93, .int .i64 1]) w := fun _ => by kernel_rfl
      by_cases hx : x = 93
      · have h1 : ((93 : Int) == (x : Int)) = true := by rw [hx]; rfl
        have HX := Aside0.mk hx
        clear hx
        go_wp2_with (first
          | ((with_reducible refine gate_dst (N := 5) rfl ?_); refine ev_alloc HB rfl (#[.int .u8 0, .int .i64 0]) 88 ?hr ?_; (case hr => first | (go_simp; done) | (go_simp; rfl)); intro g5 w3 G_g5 GE_g5 B_g5 HBn K_g5; clear HB; have HB := HBn; clear HBn)
          | ((with_reducible refine gate_ (Op.store 88 (.tmp 5) (.tmp 20)) rfl ?_); refine ev_store HB B_g5 GE_g5 rfl 88 _ _ rfl rfl rfl (by kernel_rfl) rfl (by simp [Value.oneCell']) ?_; intro w4 B5 HBn K_w4; have c50 := B5.cell (i := 0) rfl; have c51 := B5.cell (i := 1) rfl; clear HB; have HB := HBn; clear HBn))
        go_ret
        exact ⟨by rw [HX.out]; rfl, HB.out⟩
      · have h1 : ((93 : Int) == (x : Int)) = false := beq_eq_false_iff_ne.mpr (by omega)
        have HX := Aside0.mk hx
        clear hx
        go_wp2_with (first
          | ((with_reducible refine gate_dst (N := 5) rfl ?_); refine ev_alloc HB rfl (#[.int .u8 0, .int .i64 0]) 88 ?hr ?_; (case hr => first | (go_simp; done) | (go_simp; rfl)); intro g5 w3 G_g5 GE_g5 B_g5 HBn K_g5; clear HB; have HB := HBn; clear HBn)
          | ((with_reducible refine gate_ (Op.store 88 (.tmp 5) (.tmp 20)) rfl ?_); refine ev_store HB B_g5 GE_g5 rfl 88 _ _ rfl rfl rfl (by kernel_rfl) rfl (by simp [Value.oneCell']) ?_; intro w4 B5 HBn K_w4; have c50 := B5.cell (i := 0) rfl; have c51 := B5.cell (i := 1) rfl; clear HB; have HB := HBn; clear HBn))
        go_roundw
        case rel => exact ⟨4, rfl, ⟨by decide⟩, ⟨kinds_next HJ.out (show kindsX.getD 3 0 ≠ x from fun e => HX.out e.symm)⟩, HB⟩
        case measure => decide
    · clear hi
      have ix : ∀ w, (Instr.index 89 (.agg #[.int .u8 123, .int .i64 1, .int .u8 125, .int .i64 1, .int .u8 91, .int .i64 1, .int .u8 93, .int .i64 1, .int .u8 58, .int .i64 1, .int .u8 44, .int .i64 1, .int .u8 32, .int .i64 2, .int .u8 9, .int .i64 2, .int .u8 10, .int .i64 2, .int .u8 13, .int .i64 2]) (.int .i64 4)).run Tryd.prog w = .ok (.agg #[.int .u8 58, .int .i64 1]) w := fun _ => by kernel_rfl
      by_cases hx : x = 58
      · have h1 : ((58 : Int) == (x : Int)) = true := by rw [hx]; rfl
        have HX := Aside0.mk hx
        clear hx
        go_wp2_with (first
          | ((with_reducible refine gate_dst (N := 5) rfl ?_); refine ev_alloc HB rfl (#[.int .u8 0, .int .i64 0]) 88 ?hr ?_; (case hr => first | (go_simp; done) | (go_simp; rfl)); intro g5 w3 G_g5 GE_g5 B_g5 HBn K_g5; clear HB; have HB := HBn; clear HBn)
          | ((with_reducible refine gate_ (Op.store 88 (.tmp 5) (.tmp 20)) rfl ?_); refine ev_store HB B_g5 GE_g5 rfl 88 _ _ rfl rfl rfl (by kernel_rfl) rfl (by simp [Value.oneCell']) ?_; intro w4 B5 HBn K_w4; have c50 := B5.cell (i := 0) rfl; have c51 := B5.cell (i := 1) rfl; clear HB; have HB := HBn; clear HBn))
        go_ret
        exact ⟨by rw [HX.out]; rfl, HB.out⟩
      · have h1 : ((58 : Int) == (x : Int)) = false := beq_eq_false_iff_ne.mpr (by omega)
        have HX := Aside0.mk hx
        clear hx
        go_wp2_with (first
          | ((with_reducible refine gate_dst (N := 5) rfl ?_); refine ev_alloc HB rfl (#[.int .u8 0, .int .i64 0]) 88 ?hr ?_; (case hr => first | (go_simp; done) | (go_simp; rfl)); intro g5 w3 G_g5 GE_g5 B_g5 HBn K_g5; clear HB; have HB := HBn; clear HBn)
          | ((with_reducible refine gate_ (Op.store 88 (.tmp 5) (.tmp 20)) rfl ?_); refine ev_store HB B_g5 GE_g5 rfl 88 _ _ rfl rfl rfl (by kernel_rfl) rfl (by simp [Value.oneCell']) ?_; intro w4 B5 HBn K_w4; have c50 := B5.cell (i := 0) rfl; have c51 := B5.cell (i := 1) rfl; clear HB; have HB := HBn; clear HBn))
        go_roundw
        case rel => exact ⟨5, rfl, ⟨by decide⟩, ⟨kinds_next HJ.out (show kindsX.getD 4 0 ≠ x from fun e => HX.out e.symm)⟩, HB⟩
        case measure => decide
    · clear hi
      have ix : ∀ w, (Instr.index 89 (.agg #[.int .u8 123, .int .i64 1, .int .u8 125, .int .i64 1, .int .u8 91, .int .i64 1, .int .u8 93, .int .i64 1, .int .u8 58, .int .i64 1, .int .u8 44, .int .i64 1, .int .u8 32, .int .i64 2, .int .u8 9, .int .i64 2, .int .u8 10, .int .i64 2, .int .u8 13, .int .i64 2]) (.int .i64 5)).run Tryd.prog w = .ok (.agg #[.int .u8 44, .int .i64 1]) w := fun _ => by kernel_rfl
      by_cases hx : x = 44
      · have h1 : ((44 : Int) == (x : Int)) = true := by rw [hx]; rfl
        have HX := Aside0.mk hx
        clear hx
        go_wp2_with (first
          | ((with_reducible refine gate_dst (N := 5) rfl ?_); refine ev_alloc HB rfl (#[.int .u8 0, .int .i64 0]) 88 ?hr ?_; (case hr => first | (go_simp; done) | (go_simp; rfl)); intro g5 w3 G_g5 GE_g5 B_g5 HBn K_g5; clear HB; have HB := HBn; clear HBn)
          | ((with_reducible refine gate_ (Op.store 88 (.tmp 5) (.tmp 20)) rfl ?_); refine ev_store HB B_g5 GE_g5 rfl 88 _ _ rfl rfl rfl (by kernel_rfl) rfl (by simp [Value.oneCell']) ?_; intro w4 B5 HBn K_w4; have c50 := B5.cell (i := 0) rfl; have c51 := B5.cell (i := 1) rfl; clear HB; have HB := HBn; clear HBn))
        go_ret
        exact ⟨by rw [HX.out]; rfl, HB.out⟩
      · have h1 : ((44 : Int) == (x : Int)) = false := beq_eq_false_iff_ne.mpr (by omega)
        have HX := Aside0.mk hx
        clear hx
        go_wp2_with (first
          | ((with_reducible refine gate_dst (N := 5) rfl ?_); refine ev_alloc HB rfl (#[.int .u8 0, .int .i64 0]) 88 ?hr ?_; (case hr => first | (go_simp; done) | (go_simp; rfl)); intro g5 w3 G_g5 GE_g5 B_g5 HBn K_g5; clear HB; have HB := HBn; clear HBn)
          | ((with_reducible refine gate_ (Op.store 88 (.tmp 5) (.tmp 20)) rfl ?_); refine ev_store HB B_g5 GE_g5 rfl 88 _ _ rfl rfl rfl (by kernel_rfl) rfl (by simp [Value.oneCell']) ?_; intro w4 B5 HBn K_w4; have c50 := B5.cell (i := 0) rfl; have c51 := B5.cell (i := 1) rfl; clear HB; have HB := HBn; clear HBn))
        go_roundw
        case rel => exact ⟨6, rfl, ⟨by decide⟩, ⟨kinds_next HJ.out (show kindsX.getD 5 0 ≠ x from fun e => HX.out e.symm)⟩, HB⟩
        case measure => decide
    · clear hi
      have ix : ∀ w, (Instr.index 89 (.agg #[.int .u8 123, .int .i64 1, .int .u8 125, .int .i64 1, .int .u8 91, .int .i64 1, .int .u8 93, .int .i64 1, .int .u8 58, .int .i64 1, .int .u8 44, .int .i64 1, .int .u8 32, .int .i64 2, .int .u8 9, .int .i64 2, .int .u8 10, .int .i64 2, .int .u8 13, .int .i64 2]) (.int .i64 6)).run Tryd.prog w = .ok (.agg #[.int .u8 32, .int .i64 2]) w := fun _ => by kernel_rfl
      by_cases hx : x = 32
      · have h1 : ((32 : Int) == (x : Int)) = true := by rw [hx]; rfl
        have HX := Aside0.mk hx
        clear hx
        go_wp2_with (first
          | ((with_reducible refine gate_dst (N := 5) rfl ?_); refine ev_alloc HB rfl (#[.int .u8 0, .int .i64 0]) 88 ?hr ?_; (case hr => first | (go_simp; done) | (go_simp; rfl)); intro g5 w3 G_g5 GE_g5 B_g5 HBn K_g5; clear HB; have HB := HBn; clear HBn)
          | ((with_reducible refine gate_ (Op.store 88 (.tmp 5) (.tmp 20)) rfl ?_); refine ev_store HB B_g5 GE_g5 rfl 88 _ _ rfl rfl rfl (by kernel_rfl) rfl (by simp [Value.oneCell']) ?_; intro w4 B5 HBn K_w4; have c50 := B5.cell (i := 0) rfl; have c51 := B5.cell (i := 1) rfl; clear HB; have HB := HBn; clear HBn))
        go_ret
        exact ⟨by rw [HX.out]; rfl, HB.out⟩
      · have h1 : ((32 : Int) == (x : Int)) = false := beq_eq_false_iff_ne.mpr (by omega)
        have HX := Aside0.mk hx
        clear hx
        go_wp2_with (first
          | ((with_reducible refine gate_dst (N := 5) rfl ?_); refine ev_alloc HB rfl (#[.int .u8 0, .int .i64 0]) 88 ?hr ?_; (case hr => first | (go_simp; done) | (go_simp; rfl)); intro g5 w3 G_g5 GE_g5 B_g5 HBn K_g5; clear HB; have HB := HBn; clear HBn)
          | ((with_reducible refine gate_ (Op.store 88 (.tmp 5) (.tmp 20)) rfl ?_); refine ev_store HB B_g5 GE_g5 rfl 88 _ _ rfl rfl rfl (by kernel_rfl) rfl (by simp [Value.oneCell']) ?_; intro w4 B5 HBn K_w4; have c50 := B5.cell (i := 0) rfl; have c51 := B5.cell (i := 1) rfl; clear HB; have HB := HBn; clear HBn))
        go_roundw
        case rel => exact ⟨7, rfl, ⟨by decide⟩, ⟨kinds_next HJ.out (show kindsX.getD 6 0 ≠ x from fun e => HX.out e.symm)⟩, HB⟩
        case measure => decide
    · clear hi
      have ix : ∀ w, (Instr.index 89 (.agg #[.int .u8 123, .int .i64 1, .int .u8 125, .int .i64 1, .int .u8 91, .int .i64 1, .int .u8 93, .int .i64 1, .int .u8 58, .int .i64 1, .int .u8 44, .int .i64 1, .int .u8 32, .int .i64 2, .int .u8 9, .int .i64 2, .int .u8 10, .int .i64 2, .int .u8 13, .int .i64 2]) (.int .i64 7)).run Tryd.prog w = .ok (.agg #[.int .u8 9, .int .i64 2]) w := fun _ => by kernel_rfl
      by_cases hx : x = 9
      · have h1 : ((9 : Int) == (x : Int)) = true := by rw [hx]; rfl
        have HX := Aside0.mk hx
        clear hx
        go_wp2_with (first
          | ((with_reducible refine gate_dst (N := 5) rfl ?_); refine ev_alloc HB rfl (#[.int .u8 0, .int .i64 0]) 88 ?hr ?_; (case hr => first | (go_simp; done) | (go_simp; rfl)); intro g5 w3 G_g5 GE_g5 B_g5 HBn K_g5; clear HB; have HB := HBn; clear HBn)
          | ((with_reducible refine gate_ (Op.store 88 (.tmp 5) (.tmp 20)) rfl ?_); refine ev_store HB B_g5 GE_g5 rfl 88 _ _ rfl rfl rfl (by kernel_rfl) rfl (by simp [Value.oneCell']) ?_; intro w4 B5 HBn K_w4; have c50 := B5.cell (i := 0) rfl; have c51 := B5.cell (i := 1) rfl; clear HB; have HB := HBn; clear HBn))
        go_ret
        exact ⟨by rw [HX.out]; rfl, HB.out⟩
      · have h1 : ((9 : Int) == (x : Int)) = false := beq_eq_false_iff_ne.mpr (by omega)
        have HX := Aside0.mk hx
        clear hx
        go_wp2_with (first
          | ((with_reducible refine gate_dst (N := 5) rfl ?_); refine ev_alloc HB rfl (#[.int .u8 0, .int .i64 0]) 88 ?hr ?_; (case hr => first | (go_simp; done) | (go_simp; rfl)); intro g5 w3 G_g5 GE_g5 B_g5 HBn K_g5; clear HB; have HB := HBn; clear HBn)
          | ((with_reducible refine gate_ (Op.store 88 (.tmp 5) (.tmp 20)) rfl ?_); refine ev_store HB B_g5 GE_g5 rfl 88 _ _ rfl rfl rfl (by kernel_rfl) rfl (by simp [Value.oneCell']) ?_; intro w4 B5 HBn K_w4; have c50 := B5.cell (i := 0) rfl; have c51 := B5.cell (i := 1) rfl; clear HB; have HB := HBn; clear HBn))
        go_roundw
        case rel => exact ⟨8, rfl, ⟨by decide⟩, ⟨kinds_next HJ.out (show kindsX.getD 7 0 ≠ x from fun e => HX.out e.symm)⟩, HB⟩
        case measure => decide
    · clear hi
      have ix : ∀ w, (Instr.index 89 (.agg #[.int .u8 123, .int .i64 1, .int .u8 125, .int .i64 1, .int .u8 91, .int .i64 1, .int .u8 93, .int .i64 1, .int .u8 58, .int .i64 1, .int .u8 44, .int .i64 1, .int .u8 32, .int .i64 2, .int .u8 9, .int .i64 2, .int .u8 10, .int .i64 2, .int .u8 13, .int .i64 2]) (.int .i64 8)).run Tryd.prog w = .ok (.agg #[.int .u8 10, .int .i64 2]) w := fun _ => by kernel_rfl
      by_cases hx : x = 10
      · have h1 : ((10 : Int) == (x : Int)) = true := by rw [hx]; rfl
        have HX := Aside0.mk hx
        clear hx
        go_wp2_with (first
          | ((with_reducible refine gate_dst (N := 5) rfl ?_); refine ev_alloc HB rfl (#[.int .u8 0, .int .i64 0]) 88 ?hr ?_; (case hr => first | (go_simp; done) | (go_simp; rfl)); intro g5 w3 G_g5 GE_g5 B_g5 HBn K_g5; clear HB; have HB := HBn; clear HBn)
          | ((with_reducible refine gate_ (Op.store 88 (.tmp 5) (.tmp 20)) rfl ?_); refine ev_store HB B_g5 GE_g5 rfl 88 _ _ rfl rfl rfl (by kernel_rfl) rfl (by simp [Value.oneCell']) ?_; intro w4 B5 HBn K_w4; have c50 := B5.cell (i := 0) rfl; have c51 := B5.cell (i := 1) rfl; clear HB; have HB := HBn; clear HBn))
        go_ret
        exact ⟨by rw [HX.out]; rfl, HB.out⟩
      · have h1 : ((10 : Int) == (x : Int)) = false := beq_eq_false_iff_ne.mpr (by omega)
        have HX := Aside0.mk hx
        clear hx
        go_wp2_with (first
          | ((with_reducible refine gate_dst (N := 5) rfl ?_); refine ev_alloc HB rfl (#[.int .u8 0, .int .i64 0]) 88 ?hr ?_; (case hr => first | (go_simp; done) | (go_simp; rfl)); intro g5 w3 G_g5 GE_g5 B_g5 HBn K_g5; clear HB; have HB := HBn; clear HBn)
          | ((with_reducible refine gate_ (Op.store 88 (.tmp 5) (.tmp 20)) rfl ?_); refine ev_store HB B_g5 GE_g5 rfl 88 _ _ rfl rfl rfl (by kernel_rfl) rfl (by simp [Value.oneCell']) ?_; intro w4 B5 HBn K_w4; have c50 := B5.cell (i := 0) rfl; have c51 := B5.cell (i := 1) rfl; clear HB; have HB := HBn; clear HBn))
        go_roundw
        case rel => exact ⟨9, rfl, ⟨by decide⟩, ⟨kinds_next HJ.out (show kindsX.getD 8 0 ≠ x from fun e => HX.out e.symm)⟩, HB⟩
        case measure => decide
    · clear hi
      have ix : ∀ w, (Instr.index 89 (.agg #[.int .u8 123, .int .i64 1, .int .u8 125, .int .i64 1, .int .u8 91, .int .i64 1, .int .u8 93, .int .i64 1, .int .u8 58, .int .i64 1, .int .u8 44, .int .i64 1, .int .u8 32, .int .i64 2, .int .u8 9, .int .i64 2, .int .u8 10, .int .i64 2, .int .u8 13, .int .i64 2]) (.int .i64 9)).run Tryd.prog w = .ok (.agg #[.int .u8 13, .int .i64 2]) w := fun _ => by kernel_rfl
      by_cases hx : x = 13
      · have h1 : ((13 : Int) == (x : Int)) = true := by rw [hx]; rfl
        have HX := Aside0.mk hx
        clear hx
        go_wp2_with (first
          | ((with_reducible refine gate_dst (N := 5) rfl ?_); refine ev_alloc HB rfl (#[.int .u8 0, .int .i64 0]) 88 ?hr ?_; (case hr => first | (go_simp; done) | (go_simp; rfl)); intro g5 w3 G_g5 GE_g5 B_g5 HBn K_g5; clear HB; have HB := HBn; clear HBn)
          | ((with_reducible refine gate_ (Op.store 88 (.tmp 5) (.tmp 20)) rfl ?_); refine ev_store HB B_g5 GE_g5 rfl 88 _ _ rfl rfl rfl (by kernel_rfl) rfl (by simp [Value.oneCell']) ?_; intro w4 B5 HBn K_w4; have c50 := B5.cell (i := 0) rfl; have c51 := B5.cell (i := 1) rfl; clear HB; have HB := HBn; clear HBn))
        go_ret
        exact ⟨by rw [HX.out]; rfl, HB.out⟩
      · have h1 : ((13 : Int) == (x : Int)) = false := beq_eq_false_iff_ne.mpr (by omega)
        have HX := Aside0.mk hx
        clear hx
        go_wp2_with (first
          | ((with_reducible refine gate_dst (N := 5) rfl ?_); refine ev_alloc HB rfl (#[.int .u8 0, .int .i64 0]) 88 ?hr ?_; (case hr => first | (go_simp; done) | (go_simp; rfl)); intro g5 w3 G_g5 GE_g5 B_g5 HBn K_g5; clear HB; have HB := HBn; clear HBn)
          | ((with_reducible refine gate_ (Op.store 88 (.tmp 5) (.tmp 20)) rfl ?_); refine ev_store HB B_g5 GE_g5 rfl 88 _ _ rfl rfl rfl (by kernel_rfl) rfl (by simp [Value.oneCell']) ?_; intro w4 B5 HBn K_w4; have c50 := B5.cell (i := 0) rfl; have c51 := B5.cell (i := 1) rfl; clear HB; have HB := HBn; clear HBn))
        go_roundw
        case rel => exact ⟨10, rfl, ⟨by decide⟩, ⟨kinds_next HJ.out (show kindsX.getD 9 0 ≠ x from fun e => HX.out e.symm)⟩, HB⟩
        case measure => decide
    · go_wp2
      go_ret
      exact ⟨by rw [kindN_none HJ.out]; rfl, HB.out⟩
end


/-! ### block_Join: function 38 -/
open Go.Proofs.YtagcilcdgckbeaaDoorQ Go.Proofs.YtagcilcdgckbeaaDoorM in
set_option maxHeartbeats 1000000 in
set_option maxRecDepth 100000 in
theorem block_Join.calls (p q : Nat → Bool) (w : World) :
    Calls Tryd.prog 38 #[.agg (clsA p), .agg (clsA q)] w fun e w' => e = .returned (.agg (clsA (joinC p q))) ∧ Below w.heap.size w w' := by
  have HB := BelowH.refl w
  go_enter Tryd.func38, Tryd.ntmps38
  go_upto_region 1 with (first
    | ((with_reducible refine gate_dst (N := 2) rfl ?_); refine ev_alloc HB rfl (clsA (p)) 58 ?hr ?_; (case hr => first | (go_simp; done) | (go_simp; rfl)); intro g2 w1 G_g2 GE_g2 B_g2 HBn K_g2; clear HB; have HB := HBn; clear HBn)
    | ((with_reducible refine gate_dst (N := 3) rfl ?_); refine ev_alloc HB rfl (clsA (q)) 58 ?hr ?_; (case hr => first | (go_simp; done) | (go_simp; rfl)); intro g3 w2 G_g3 GE_g3 B_g3 HBn K_g3; clear HB; have HB := HBn; clear HBn)
    | ((with_reducible refine gate_dst (N := 4) rfl ?_); refine ev_alloc HB rfl (clsA fun _ => false) 58 ?hr ?_; (case hr => rw [← clsA_zero]; go_simp; rfl); intro g4 w3 G_g4 GE_g4 B_g4 HBn K_g4; clear HB; have HB := HBn; clear HBn))
  have D2 := ((B_g2.below K_g3.out).below K_g4.out)
  have D3 := (B_g3.below K_g4.out)
  have D4 := B_g4
  have N3 := Aside0.mk (show g2 < g3 by have := B_g2.lt; have := G_g3.out; have := B_g3.lt; have := G_g4.out; omega)
  have N4 := Aside0.mk (show g2 < g4 by have := B_g2.lt; have := G_g3.out; have := B_g3.lt; have := G_g4.out; omega)
  rw [mix_zero (joinC p q) p] at D2
  go_wp2
  go_loopw [6] (fun v6 wr => ∃ k : Nat, k ≤ 4 ∧ v6 = .int .i64 k ∧ Blk wr g2 (clsA (mixA (joinC p q) p k)) 58 ∧ Blk wr g3 (clsA q) 58 ∧ Blk wr g4 (clsA fun _ => false) 58 ∧ BelowH w wr) (fun v6 _ => 4 - (intOf v6).toNat)
  case atStart => exact ⟨0, by omega, rfl, D2, D3, D4, HB⟩
  case round =>
    clear D2 D3 D4 B_g2 B_g3 B_g4 HB
    obtain ⟨k, hk, rfl, B2, B3, B4, HB⟩ := hrel
    by_cases hlt : k < 4
    · have h1 : (k : Int) < 4 := by omega
      have KX := Aside0.mk hlt
      have c1 := B2.cell (clsA_get (mixA (joinC p q) p k) hlt)
      rw [mix_at] at c1
      have c2 := B3.cell (clsA_get q hlt)
      clear hlt hk
      go_upto_region 4 with (fail)
      go_still_tail 11, (by kernel_rfl)
      change wpList _ _ _ _ _ wr.drew
      have EB2 := B2.drew
      have EB3 := B3.drew
      have EB4 := B4.drew
      have HE := HB.drew
      clear B2 B3 B4 HB c1 c2
      go_wp2_with (first
        | ((with_reducible refine gate_ (Op.store 41 (.tmp 19) (.tmp 17)) rfl ?_); refine ev_store1 (i := k) HE EB2 GE_g2 rfl 41 _ _ rfl rfl (.int .u64 (bits .or .u64 (iv (clsW p k)) (iv (clsW q k)))) rfl (by rw [clsA_size]; exact KX.out) (by kernel_rfl) rfl ?_; intro w8 B8 HB8 K8))
      rw [mix_step (joinC p q) p KX.out (join_word p q k)] at B8
      go_roundw
      case rel => exact ⟨k + 1, by have := KX.out; omega, by go_num, B8, EB3.other K8 (Nat.ne_of_gt N3.out), EB4.other K8 (Nat.ne_of_gt N4.out), HB8⟩
      case measure =>
        simp [intOf]
        have := KX.out
        omega
    · obtain rfl : k = 4 := by omega
      rw [mix_end] at B2
      go_wp2_with (first
        | ((with_reducible refine gate_dst (N := 21) rfl ?_); (try (refine gate_guard (by rfl) ?_; dsimp only)); refine ev_loadS B2 rfl 58 _ rfl rfl Tryd.underlying58 rfl (sizeC' _) ?_)
        | ((with_reducible refine gate_ (Op.store 58 (.tmp 4) (.tmp 21)) rfl ?_); refine ev_store HB B4 GE_g4 rfl 58 _ _ rfl rfl rfl (sizeC' _) (by rw [clsA_size, clsA_size]) (clsA_one _) ?_; intro w9 B9 HBn K_w9; clear HB; have HB := HBn; clear HBn))
      refine bodyPost_ret (results_cell_row rfl _ _ g4 58 _ (0, 0) _ rfl B9.out Tryd.underlying58 rfl (sizeC' _)) rfl ?_
      exact ⟨rfl, HB.out⟩


/-! ### block_Of: function 39 -/
open Go.Proofs.YtagcilcdgckbeaaDoorQ Go.Proofs.YtagcilcdgckbeaaDoorM in
set_option maxHeartbeats 400000 in
set_option maxRecDepth 100000 in
theorem block_Of.calls (s : ByteArray) (w : World) (hs : s.size ≤ 281474976702464) :
    Calls Tryd.prog 39 #[.string s] w fun e w' => e = .returned (.agg (clsA (inT s s.size))) ∧ Below w.heap.size w w' := by
  have HB := BelowH.refl w
  have HS := Aside0.mk hs
  clear hs
  go_enter Tryd.func39, Tryd.ntmps39
  go_wp2_with (first
    | ((with_reducible refine gate_dst (N := 2) rfl ?_); refine ev_alloc HB rfl (clsA fun _ => false) 58 ?hr ?_; (case hr => rw [← clsA_zero]; go_simp; rfl); intro g0 w1 G_g0 GE_g0 B_g0 HBn K_g0; clear HB; have HB := HBn; clear HBn)
    | ((with_reducible refine gate_dst (N := 3) rfl ?_); refine ev_alloc HB rfl (clsA fun _ => false) 58 ?hr ?_; (case hr => rw [← clsA_zero]; go_simp; rfl); intro g1 w2 G_g1 GE_g1 B_g1 HBn K_g1; clear HB; have HB := HBn; clear HBn))
  have N01 := Aside0.mk (show g0 < g1 by have := B_g0.lt; have := G_g1.out; omega)
  go_loopw [7] (fun v7 wr => ∃ i : Nat, i ≤ s.size ∧ v7 = .int .i64 i ∧ Blk wr g0 (clsA fun _ => false) 58 ∧ Blk wr g1 (clsA (inT s i)) 58 ∧ BelowH w wr) (fun v7 _ => s.size - (intOf v7).toNat)
  case atStart => exact ⟨0, by omega, rfl, B_g0.below K_g1.out, B_g1, HB⟩
  case round =>
    clear B_g0 B_g1 HB
    obtain ⟨i, hi, rfl, B0, B1, HB⟩ := hrel
    by_cases hlt : i < s.size
    · have KI := Aside0.mk hlt
      have hlt' : decide ((i : Int) < (s.size : Int)) = true := decide_eq_true (by omega)
      go_upto_region 5 with (fail)
      obtain ⟨k, hk⟩ : ∃ k : Nat, k = (s[i]'hlt).toNat / 64 := ⟨_, rfl⟩
      obtain ⟨m, hm⟩ : ∃ m : Nat, m = (s[i]'hlt).toNat % 64 := ⟨_, rfl⟩
      have hx : (s[i]'hlt).toNat < 256 := UInt8.toNat_lt _
      have hk1 : (((s[i]'hlt).toNat : Nat) : Int) / 64 = (k : Int) := by omega
      have hk4 : (k : Int) < 4 := by omega
      have hm1 : bits .and .u8 (((s[i]'hlt).toNat : Nat) : Int) 63 = (m : Int) := by rw [bits_and_u8_63 _ hx, hm]
      have hm4 : (m : Int) < 64 := by omega
      have hc := B1.cell (clsA_get _ (show k < 4 by omega))
      have HK := Aside0.mk hk
      have HM := Aside0.mk hm
      clear hk hm hx
      go_still_tail 14, (by kernel_rfl)
      change wpList _ _ _ _ _ wr.drew
      have B1' := B1.drew
      have B0' := B0.drew
      have HB' := HB.drew
      have HV := Aside0.mk (cls_or (p := inT s i) (q := inT s (i + 1)) (k := k) (m := m) (by omega) (inT_step hlt HK.out HM.out))
      clear HB B0 B1 hc hk1 hm1
      go_wp2_with (first
        | ((with_reducible refine gate_ (Op.store 41 (.tmp 24) (.tmp 22)) rfl ?_); refine ev_store1 (i := k) HB' B1' GE_g1 rfl 41 _ _ rfl rfl (.int .u64 (bits .or .u64 (iv (clsW (inT s i) k)) (IntKind.u64.wrap (2 ^ m)))) rfl (by rw [clsA_size]; omega) (by kernel_rfl) rfl ?_; intro w5 B5 HB5 K5))
      go_roundw
      case rel =>
        refine ⟨i + 1, by omega, by rw [w64_up KI.out HS.out], B0'.other K5 (Nat.ne_of_lt N01.out), ?_, HB5⟩
        rw [HV.out, clsA_set (q := inT s (i + 1)) (by omega) rfl (fun x _ hx => (inT_else hlt HK.out hx).symm)] at B5
        exact B5
      case measure =>
        rw [w64_up KI.out HS.out]
        simp [intOf]
        have := KI.out
        omega
    · obtain rfl : i = s.size := by omega
      go_wp2_with (first
        | ((with_reducible refine gate_dst (N := 26) rfl ?_); (try (refine gate_guard (by rfl) ?_; dsimp only)); refine ev_loadS B1 rfl 58 _ rfl rfl Tryd.underlying58 rfl (sizeC' _) ?_)
        | ((with_reducible refine gate_ (Op.store 58 (.tmp 2) (.tmp 26)) rfl ?_); refine ev_store HB B0 GE_g0 rfl 58 _ _ rfl rfl rfl (sizeC' _) (by rw [clsA_size, clsA_size]) (clsA_one _) ?_; intro w6 B6 HBn K_w6; clear HB; have HB := HBn; clear HBn))
      refine bodyPost_ret (results_cell_row rfl _ _ g0 58 _ (0, 0) _ rfl B6.out Tryd.underlying58 rfl (sizeC' _)) rfl ?_
      exact ⟨rfl, HB.out⟩


/-! ### marks_classes: function 25 -/
section
open Go.Proofs.YtagcilcdgckbeaaDoorQ Go.Proofs.YtagcilcdgckbeaaDoorM
set_option maxHeartbeats 2000000 in
set_option maxRecDepth 100000 in
theorem marks_classes.tells (w : World) :
    Calls Tryd.prog 25 #[] w fun e w' => e = .returned (.tuple #[.agg (clsA sgx), .agg (clsA blx)]) ∧ Below w.heap.size w w' := by
  have HB := BelowH.refl w
  go_enter Tryd.func25, Tryd.ntmps25
  go_wp2_with (first
    | ((with_reducible refine gate_dst (N := 0) rfl ?_); refine ev_alloc HB rfl (clsA fun _ => false) 58 ?hr ?_; (case hr => rw [← clsA_zero]; go_simp; rfl); intro g0 w1 G_g0 GE_g0 B_g0 HBn K_g0; clear HB; have HB := HBn; clear HBn)
    | ((with_reducible refine gate_dst (N := 1) rfl ?_); refine ev_alloc HB rfl (clsA fun _ => false) 58 ?hr ?_; (case hr => rw [← clsA_zero]; go_simp; rfl); intro g1 w2 G_g1 GE_g1 B_g1 HBn K_g1; clear HB; have HB := HBn; clear HBn))
  have N01 := Aside0.mk (show g0 < g1 by have := B_g0.lt; have := G_g1.out; omega)
  have B0 := (B_g0.below K_g1.out).eqA (low_zero sgx)
  have B1 := B_g1.eqA (low_zero blx)
  clear B_g0 B_g1 K_g0 K_g1 G_g0 G_g1
  go_loopw [3] (fun v3 wr => ∃ x : Nat, v3 = .int .i64 (x : Int) ∧ Aside0 (x ≤ 256) ∧ Blk wr g0 (clsA (lowC sgx x)) 58 ∧ Blk wr g1 (clsA (lowC blx x)) 58 ∧ BelowH w wr) (fun v3 _ => 256 - (intOf v3).toNat)
  case atStart => exact ⟨0, rfl, ⟨Nat.zero_le _⟩, B0, B1, HB⟩
  case round =>
    clear B0 B1 HB
    obtain ⟨x, rfl, HX, B0, B1, HB⟩ := hrel
    by_cases hlt : x < 256
    · have HLT := Aside0.mk hlt
      have h1 : (x : Int) < 256 := by omega
      have h2 : (0 : Int) ≤ (x : Int) := by omega
      have h3 : IntKind.u8.wrap (x : Int) = (x : Int) := u8_wrap hlt
      have hb8 := u8_of hlt
      have KN : Aside0 (∀ w, Calls Tryd.prog 37 #[.int .u8 (x : Int)] w fun e w' => e = .returned (.int .i64 (kindN x)) ∧ Below w.heap.size w w') := ⟨fun w => marks_kindOf.tells x HLT.out w⟩
      obtain ⟨str, hstr⟩ : ∃ str : ByteArray, str = ⟨#[UInt8.ofNat x]⟩ := ⟨_, rfl⟩
      obtain ⟨tx, htx⟩ : ∃ tx : Nat → Bool, tx = fun y => decide (y = x) := ⟨_, rfl⟩
      have OF : Aside0 (∀ w, Calls Tryd.prog 39 #[.string str] w fun e w' => e = .returned (.agg (clsA tx)) ∧ Below w.heap.size w w') := ⟨fun w => by
        rw [hstr, htx]
        have h := block_Of.calls (⟨#[UInt8.ofNat x]⟩ : ByteArray) w (show 1 ≤ 281474976702464 by decide)
        rw [show clsA (inT (⟨#[UInt8.ofNat x]⟩ : ByteArray) (⟨#[UInt8.ofNat x]⟩ : ByteArray).size) = clsA (fun y => decide (y = x)) from clsA_congr fun y _ => one_byte x HLT.out y] at h
        exact h⟩
      have HT := Aside0.mk htx
      have HSTR := Aside0.mk hstr
      have HB8 := Aside0.mk hb8
      clear hlt htx hstr hb8
      obtain ⟨kn, hkn⟩ : ∃ kn, kn = kindN x := ⟨_, rfl⟩
      rw [← hkn] at KN
      have HKN := Aside0.mk hkn
      clear hkn
      by_cases hs : sgx x = true
      · have hk1 : (kn == 1) = true := by rw [HKN.out, kindN_sign hs]; rfl
        have RX := Aside0.mk hs
        have OX := Aside0.mk (blx_of_sgx hs)
        clear hs
        go_upto_region 6 with (first
          | (go_at_call 37; (with_reducible refine (KN.out _).mono ?_); rintro e w4 ⟨rfl, hb4⟩; have B04 := B0.below hb4; have B14 := B1.below hb4; have HB4 := HB.step hb4; clear hb4 B0 B1 HB))
        clear hk1
        have hbd : Aside0 (Below w4.heap.size w4 w4.drew) := ⟨below_drew (Below.refl _ _)⟩
        have B05 := B04.below hbd.out
        have B15 := B14.below hbd.out
        have HB5 := HB4.step hbd.out
        clear B04 B14 HB4 hbd
        refine wp_region_noPanic ?_
        refine wp_region_last_drew (S := fun W' => Blk W' g0 (clsA (lowC sgx x)) 58) (ds := [7]) (by kernel_rfl) B05 (fun hS => ?_)
        refine wpAnyLast_take (i := 0) (oi := Oper.mk _ _ _ _ _ _) rfl (by kernel_rfl) (by kernel_rfl) (by kernel_rfl) (by kernel_rfl) (by kernel_rfl) (fun _ _ _ h => h) (rg_load (by rfl) (fun _ hS => hS) 58 _ rfl rfl Tryd.underlying58 rfl (sizeC' _)) hS ?_
        try simp only [Act.put, List.setIfInBounds_toArray, List.set_cons_zero, List.set_cons_succ]
        refine' wpAnyLast_take (i := 1) (oi := Oper.mk _ _ _ _ _ _) rfl (by kernel_rfl) (by kernel_rfl) (by kernel_rfl) (by kernel_rfl) (by kernel_rfl) (fun _ _ _ h => h) (Or.inl ⟨by rfl, ?hy1⟩) hS ?rest1
        case hy1 => (intro w hSw; (try dsimp only at hSw); first | (go_simp; done) | (go_simp; with_reducible rfl))
        try simp only [Act.put, List.setIfInBounds_toArray, List.set_cons_zero, List.set_cons_succ]
        refine' wpAnyLast_take (i := 2) (oi := Oper.mk _ _ _ _ _ _) rfl (by kernel_rfl) (by kernel_rfl) (by kernel_rfl) (by kernel_rfl) (by kernel_rfl) (fun _ _ _ h => h) (Or.inl ⟨by rfl, ?hy2⟩) hS ?rest2
        case hy2 => (intro w hSw; (try dsimp only at hSw); first | (go_simp; done) | (go_simp; with_reducible rfl))
        try simp only [Act.put, List.setIfInBounds_toArray, List.set_cons_zero, List.set_cons_succ]
        refine wpAnyLast_ready (rs := [3]) (by kernel_rfl) (by simp) ?_
        refine AllReadyL.cons (o := Oper.mk _ _ _ _ _ _) rfl (by decide) (fun K hK => ?_) ?_
        · refine rg_lit HB5 (by rfl) (.int .u8 (x : Int)) 5 (by first | (go_simp; done) | (go_simp; rfl)) ?_
          intro gN w6 sN HB6 hb
          have B06 := B05.below hb.out
          have B16 := B15.below hb.out
          have sN6 := sN.eqA (show (#[Value.int .u8 (x : Int)] : Array Value) = #[.int .u8 (((UInt8.ofNat x).toNat : Nat) : Int)] by rw [HB8.out])
          refine hK.out _ _ B06 (fun hS => ?_)
          clear hK K sN hb B05 B15 HB5
          try simp only [Act.put, List.setIfInBounds_toArray, List.set_cons_zero, List.set_cons_succ]
          refine wpAnyLast_ready (rs := [4]) (by kernel_rfl) (by simp) ?_
          refine AllReadyL.cons (o := Oper.mk _ _ _ _ _ _) rfl (by decide) (fun K hK => ?_) ?_
          · refine rg_str1 (by rfl) sN6 49 9 5 _ rfl rfl Tryd.underlying49 Tryd.underlying5 Tryd.underlying9 ?_
            rw [← HSTR.out]
            refine hK.out _ _ hS (fun hS => ?_)
            clear hK K sN6
            try simp only [Act.put, List.setIfInBounds_toArray, List.set_cons_zero, List.set_cons_succ]
            refine wpAnyLast_ready (rs := [5]) (by kernel_rfl) (by simp) ?_
            refine AllReadyL.cons (o := Oper.mk _ _ _ _ _ _) rfl (by decide) (fun K hK => ?_) ?_
            · refine rg_call (by rfl) _ _ (.agg (clsA tx)) (by first | (go_simp; done) | (go_simp; rfl)) (OF.out _) ?_
              intro W' hb
              have B07 := B06.below hb.out
              have B17 := B16.below hb.out
              have HB7 := HB6.step hb.out
              clear B06 B16 HB6
              refine hK.out _ _ B07 (fun hS => ?_)
              clear hK K
              try simp only [Act.put, List.setIfInBounds_toArray, List.set_cons_zero, List.set_cons_succ]
              refine wpAnyLast_ready (rs := [6]) (by kernel_rfl) (by simp) ?_
              refine AllReadyL.cons (o := Oper.mk _ _ _ _ _ _) rfl (by decide) (fun K hK => ?_) ?_
              · refine rg_call (by rfl) _ _ (.agg (clsA (joinC (lowC sgx x) tx))) (by first | (go_simp; done) | (go_simp; rfl)) (block_Join.calls (lowC sgx x) tx _) ?_
                intro W' hb
                have B08 := B07.below hb.out
                have B18 := B17.below hb.out
                have HB8' := HB7.step hb.out
                clear B07 B17 HB7
                refine hK.out _ _ B08 (fun hS => ?_)
                clear hK K
                try simp only [Act.put, List.setIfInBounds_toArray, List.set_cons_zero, List.set_cons_succ]
                refine wpAnyLast_ready (rs := [7]) (by kernel_rfl) (by simp) ?_
                refine AllReadyL.cons_last (o := Oper.mk _ _ _ _ _ _) rfl (by decide) (fun K hK => ?_) ?_
                · refine rg_store HB8' (by rfl) B08 GE_g0 58 _ _ rfl rfl rfl (sizeC' _) (by rw [clsA_size, clsA_size]) (clsA_one _) ?_
                  intro w9 B9 HB9 K9
                  have BO := B18.other K9 (Nat.ne_of_gt N01.out)
                  refine hK.out _ _ ?_
                  clear hK K
                  try simp only [Act.put, List.setIfInBounds_toArray, List.set_cons_zero, List.set_cons_succ]
                  refine wpAnyLast_done (by kernel_rfl) ?_ _
                  refine NoPanic.normal ?_
                  go_wp2
                  go_roundw
                  case rel => exact ⟨x + 1, by go_num, ⟨by have := HLT.out; omega⟩, B9.eqA (by rw [HT.out]; exact low_put sgx RX.out), BO.eqA (low_skip blx OX.out), HB9⟩
                  case measure => (simp [intOf]; have := HLT.out; omega)
                exact AllReadyL.nil
              exact AllReadyL.nil
            exact AllReadyL.nil
          exact AllReadyL.nil
        exact AllReadyL.nil
      · have hs0 : sgx x = false := by simpa using hs
        have hk1 : (kn == 1) = false := by rw [HKN.out]; exact kindN_not_sign hs0
        have OX := Aside0.mk hs0
        clear hs hs0
        by_cases hb : blx x = true
        · have hk2 : (kn == 2) = true := by rw [HKN.out, kindN_blank OX.out hb]; rfl
          have RX := Aside0.mk hb
          clear hb
          go_upto_region 8 with (first
          | (go_at_call 37; (with_reducible refine (KN.out _).mono ?_); rintro e w4 ⟨rfl, hb4⟩; have B04 := B0.below hb4; have B14 := B1.below hb4; have HB4 := HB.step hb4; clear hb4 B0 B1 HB))
          clear hk1 hk2
          have hbd : Aside0 (Below w4.heap.size w4 w4.drew) := ⟨below_drew (Below.refl _ _)⟩
          have B05 := B04.below hbd.out
          have B15 := B14.below hbd.out
          have HB5 := HB4.step hbd.out
          clear B04 B14 HB4 hbd
          refine wp_region_noPanic ?_
          refine wp_region_last_drew (S := fun W' => Blk W' g1 (clsA (lowC blx x)) 58) (ds := [7]) (by kernel_rfl) B15 (fun hS => ?_)
          refine wpAnyLast_take (i := 0) (oi := Oper.mk _ _ _ _ _ _) rfl (by kernel_rfl) (by kernel_rfl) (by kernel_rfl) (by kernel_rfl) (by kernel_rfl) (fun _ _ _ h => h) (rg_load (by rfl) (fun _ hS => hS) 58 _ rfl rfl Tryd.underlying58 rfl (sizeC' _)) hS ?_
          try simp only [Act.put, List.setIfInBounds_toArray, List.set_cons_zero, List.set_cons_succ]
          refine' wpAnyLast_take (i := 1) (oi := Oper.mk _ _ _ _ _ _) rfl (by kernel_rfl) (by kernel_rfl) (by kernel_rfl) (by kernel_rfl) (by kernel_rfl) (fun _ _ _ h => h) (Or.inl ⟨by rfl, ?hy3⟩) hS ?rest3
          case hy3 => (intro w hSw; (try dsimp only at hSw); first | (go_simp; done) | (go_simp; with_reducible rfl))
          try simp only [Act.put, List.setIfInBounds_toArray, List.set_cons_zero, List.set_cons_succ]
          refine' wpAnyLast_take (i := 2) (oi := Oper.mk _ _ _ _ _ _) rfl (by kernel_rfl) (by kernel_rfl) (by kernel_rfl) (by kernel_rfl) (by kernel_rfl) (fun _ _ _ h => h) (Or.inl ⟨by rfl, ?hy4⟩) hS ?rest4
          case hy4 => (intro w hSw; (try dsimp only at hSw); first | (go_simp; done) | (go_simp; with_reducible rfl))
          try simp only [Act.put, List.setIfInBounds_toArray, List.set_cons_zero, List.set_cons_succ]
          refine wpAnyLast_ready (rs := [3]) (by kernel_rfl) (by simp) ?_
          refine AllReadyL.cons (o := Oper.mk _ _ _ _ _ _) rfl (by decide) (fun K hK => ?_) ?_
          · refine rg_lit HB5 (by rfl) (.int .u8 (x : Int)) 5 (by first | (go_simp; done) | (go_simp; rfl)) ?_
            intro gN w6 sN HB6 hb
            have B06 := B05.below hb.out
            have B16 := B15.below hb.out
            have sN6 := sN.eqA (show (#[Value.int .u8 (x : Int)] : Array Value) = #[.int .u8 (((UInt8.ofNat x).toNat : Nat) : Int)] by rw [HB8.out])
            refine hK.out _ _ B16 (fun hS => ?_)
            clear hK K sN hb B05 B15 HB5
            try simp only [Act.put, List.setIfInBounds_toArray, List.set_cons_zero, List.set_cons_succ]
            refine wpAnyLast_ready (rs := [4]) (by kernel_rfl) (by simp) ?_
            refine AllReadyL.cons (o := Oper.mk _ _ _ _ _ _) rfl (by decide) (fun K hK => ?_) ?_
            · refine rg_str1 (by rfl) sN6 49 9 5 _ rfl rfl Tryd.underlying49 Tryd.underlying5 Tryd.underlying9 ?_
              rw [← HSTR.out]
              refine hK.out _ _ hS (fun hS => ?_)
              clear hK K sN6
              try simp only [Act.put, List.setIfInBounds_toArray, List.set_cons_zero, List.set_cons_succ]
              refine wpAnyLast_ready (rs := [5]) (by kernel_rfl) (by simp) ?_
              refine AllReadyL.cons (o := Oper.mk _ _ _ _ _ _) rfl (by decide) (fun K hK => ?_) ?_
              · refine rg_call (by rfl) _ _ (.agg (clsA tx)) (by first | (go_simp; done) | (go_simp; rfl)) (OF.out _) ?_
                intro W' hb
                have B07 := B06.below hb.out
                have B17 := B16.below hb.out
                have HB7 := HB6.step hb.out
                clear B06 B16 HB6
                refine hK.out _ _ B17 (fun hS => ?_)
                clear hK K
                try simp only [Act.put, List.setIfInBounds_toArray, List.set_cons_zero, List.set_cons_succ]
                refine wpAnyLast_ready (rs := [6]) (by kernel_rfl) (by simp) ?_
                refine AllReadyL.cons (o := Oper.mk _ _ _ _ _ _) rfl (by decide) (fun K hK => ?_) ?_
                · refine rg_call (by rfl) _ _ (.agg (clsA (joinC (lowC blx x) tx))) (by first | (go_simp; done) | (go_simp; rfl)) (block_Join.calls (lowC blx x) tx _) ?_
                  intro W' hb
                  have B08 := B07.below hb.out
                  have B18 := B17.below hb.out
                  have HB8' := HB7.step hb.out
                  clear B07 B17 HB7
                  refine hK.out _ _ B18 (fun hS => ?_)
                  clear hK K
                  try simp only [Act.put, List.setIfInBounds_toArray, List.set_cons_zero, List.set_cons_succ]
                  refine wpAnyLast_ready (rs := [7]) (by kernel_rfl) (by simp) ?_
                  refine AllReadyL.cons_last (o := Oper.mk _ _ _ _ _ _) rfl (by decide) (fun K hK => ?_) ?_
                  · refine rg_store HB8' (by rfl) B18 GE_g1 58 _ _ rfl rfl rfl (sizeC' _) (by rw [clsA_size, clsA_size]) (clsA_one _) ?_
                    intro w9 B9 HB9 K9
                    have BO := B08.other K9 (Nat.ne_of_lt N01.out)
                    refine hK.out _ _ ?_
                    clear hK K
                    try simp only [Act.put, List.setIfInBounds_toArray, List.set_cons_zero, List.set_cons_succ]
                    refine wpAnyLast_done (by kernel_rfl) ?_ _
                    refine NoPanic.normal ?_
                    go_wp2
                    go_roundw
                    case rel => exact ⟨x + 1, by go_num, ⟨by have := HLT.out; omega⟩, BO.eqA (low_skip sgx OX.out), B9.eqA (by rw [HT.out]; exact low_put blx RX.out), HB9⟩
                    case measure => (simp [intOf]; have := HLT.out; omega)
                  exact AllReadyL.nil
                exact AllReadyL.nil
              exact AllReadyL.nil
            exact AllReadyL.nil
          exact AllReadyL.nil
        · have hb0 : blx x = false := by simpa using hb
          have hk2 : (kn == 2) = false := by rw [HKN.out]; exact kindN_not_blank OX.out hb0
          have PX := Aside0.mk hb0
          clear hb hb0
          go_wp2_with (first
          | (go_at_call 37; (with_reducible refine (KN.out _).mono ?_); rintro e w4 ⟨rfl, hb4⟩; have B04 := B0.below hb4; have B14 := B1.below hb4; have HB4 := HB.step hb4; clear hb4 B0 B1 HB))
          go_roundw
          case rel => exact ⟨x + 1, by go_num, ⟨by have := HLT.out; omega⟩, B04.eqA (low_skip sgx OX.out), B14.eqA (low_skip blx PX.out), HB4⟩
          case measure => (simp [intOf]; have := HLT.out; omega)
    · obtain rfl : x = 256 := by have := HX.out; omega
      clear hlt
      have C0 := B0.eqA (low_end sgx)
      have C1 := B1.eqA (low_end blx)
      have hbd : Aside0 (Below wr.heap.size wr wr.drew) := ⟨below_drew (Below.refl _ _)⟩
      have D0 := C0.below hbd.out
      have D1 := C1.below hbd.out
      have HB5 := HB.step hbd.out
      clear B0 B1 HB hbd
      go_upto_region 10 with (fail)
      refine wp_region_noPanic ?_
      refine wp_region_last_drew (S := fun W' => Blk W' g0 (clsA sgx) 58 ∧ Blk W' g1 (clsA blx) 58) (ds := []) (by kernel_rfl) ⟨D0, D1⟩ (fun hS => ?_)
      refine wpAnyLast_take (i := 0) (oi := Oper.mk _ _ _ _ _ _) rfl (by kernel_rfl) (by kernel_rfl) (by kernel_rfl) (by kernel_rfl) (by kernel_rfl) (fun _ _ _ h => h) (rg_load (by rfl) (fun _ hS => hS.1) 58 _ rfl rfl Tryd.underlying58 rfl (sizeC' _)) hS ?_
      try simp only [Act.put, List.setIfInBounds_toArray, List.set_cons_zero, List.set_cons_succ]
      refine wpAnyLast_take (i := 1) (oi := Oper.mk _ _ _ _ _ _) rfl (by kernel_rfl) (by kernel_rfl) (by kernel_rfl) (by kernel_rfl) (by kernel_rfl) (fun _ _ _ h => h) (rg_load (by rfl) (fun _ hS => hS.2) 58 _ rfl rfl Tryd.underlying58 rfl (sizeC' _)) hS ?_
      try simp only [Act.put, List.setIfInBounds_toArray, List.set_cons_zero, List.set_cons_succ]
      refine wpAnyLast_ready (rs := [2]) (by kernel_rfl) (by simp) ?_
      refine AllReadyL.cons (o := Oper.mk _ _ _ _ _ _) rfl (by decide) (fun K hK => ?_) ?_
      · refine rg_store HB5 (by rfl) D0 GE_g0 58 _ _ rfl rfl rfl (sizeC' _) (by simp only [clsA_size]) (clsA_one _) ?_
        intro w6 E0 HB6 K2
        have E1 := D1.other K2 (Nat.ne_of_gt N01.out)
        refine hK.out _ _ ⟨E0, E1⟩ (fun hS => ?_)
        clear hK K
        try simp only [Act.put, List.setIfInBounds_toArray, List.set_cons_zero, List.set_cons_succ]
        refine wpAnyLast_ready (rs := [3]) (by kernel_rfl) (by simp) ?_
        refine AllReadyL.cons (o := Oper.mk _ _ _ _ _ _) rfl (by decide) (fun K hK => ?_) ?_
        · refine rg_store HB6 (by rfl) E1 GE_g1 58 _ _ rfl rfl rfl (sizeC' _) (by simp only [clsA_size]) (clsA_one _) ?_
          intro w7 F1 HB7 K3
          have F0 := E0.other K3 (Nat.ne_of_lt N01.out)
          refine hK.out _ _ ⟨F0, F1⟩ (fun hS => ?_)
          clear hK K
          try simp only [Act.put, List.setIfInBounds_toArray, List.set_cons_zero, List.set_cons_succ]
          refine wpAnyLast_done (by kernel_rfl) ?_ _
          refine NoPanic.normal ?_
          go_wp2
          exact bodyPost_ret (results_cells2 rfl _ _ g0 g1 58 _ _ _ rfl rfl F0 F1 Tryd.underlying58 rfl (sizeC' _) (sizeC' _)) rfl ⟨rfl, HB7.out⟩
        exact AllReadyL.nil
      exact AllReadyL.nil
end


/-! ### block_Mask: function 26 -/
open Go.Proofs.YtagcilcdgckbeaaDoorQ Go.Proofs.YtagcilcdgckbeaaDoorM in
set_option maxHeartbeats 400000 in
set_option maxRecDepth 100000 in
theorem block_Mask.calls (f : Nat → Int) (hf : ∀ i, 0 ≤ f i ∧ f i < 256) (p : Nat → Bool) (w : World) :
    Calls Tryd.prog 26 #[.agg (blkA f), .agg (clsA p)] w fun e w' => e = .returned (.int .u64 (iv (word fun j => p (f j).toNat))) ∧ Below w.heap.size w w' := by
  have HB := BelowH.refl w
  have HF := Aside0.mk fun i => hf i
  clear hf
  go_enter Tryd.func26, Tryd.ntmps26
  go_upto_region 1 with (first
    | ((with_reducible refine gate_dst (N := 2) rfl ?_); refine ev_alloc HB rfl (blkA f) 54 ?hr ?_; (case hr => first | (go_simp; done) | (go_simp; rfl)); intro g0 w1 G_g0 GE_g0 B_g0 HBn K_g0; clear HB; have HB := HBn; clear HBn)
    | ((with_reducible refine gate_dst (N := 3) rfl ?_); refine ev_alloc HB rfl (clsA (p)) 58 ?hr ?_; (case hr => first | (go_simp; done) | (go_simp; rfl)); intro g1 w2 G_g1 GE_g1 B_g1 HBn K_g1; clear HB; have HB := HBn; clear HBn))
  obtain ⟨bz, hbz⟩ : ∃ bz, bz = ((List.range 4).all fun j => iv (clsW p j) == 0) := ⟨_, rfl⟩
  have EQ : ∀ (W : World), (Op.equalIn 10000 56 (.agg (clsA p)) (.agg #[.int .u64 0, .int .u64 0, .int .u64 0, .int .u64 0])).run Tryd.prog W = .ok bz W := by
    intro W
    rw [hbz]
    exact run_eqArr (P := Tryd.prog) Tryd.underlying56 (by kernel_rfl) (by kernel_rfl) Tryd.underlying41 (fun j => iv (clsW p j)) (fun _ => 0) (fun j hj => clsA_get _ hj) (fun j hj => by
      have : ∀ j : Fin 4, (#[.int .u64 0, .int .u64 0, .int .u64 0, .int .u64 0] : Array Value)[j.val]? = some (.int .u64 0) := by
        intro j
        match j with
        | 0 => rfl
        | 1 => rfl
        | 2 => rfl
        | 3 => rfl
      exact this ⟨j, hj⟩) 9998 W
  cases bz with
  | true =>
    have HN := Aside0.mk (cls_none hbz.symm)
    clear hbz
    go_wp2_with (first
      | ((with_reducible refine gate_dst (N := 9) rfl ?_); refine ev_loadS B_g1 rfl 56 _ rfl rfl Tryd.underlying56 rfl (size4' _) ?_))
    go_ret
    exact ⟨by rw [word_none fun i _ => HN.out _ (by have := HF.out i; omega)]; rfl, HB.out⟩
  | false =>
    clear hbz
    go_upto_region 3 with (first
      | ((with_reducible refine gate_dst (N := 9) rfl ?_); refine ev_loadS B_g1 rfl 56 _ rfl rfl Tryd.underlying56 rfl (size4' _) ?_))
    clear EQ
    go_wp2_with (first
      | ((with_reducible refine gate_dst (N := 12) rfl ?_); refine ev_loadS (B_g0.below K_g1.out) rfl 54 _ rfl rfl Tryd.underlying54 rfl (size64' _) ?_))
    go_loopw [5, 13] (fun v5 v13 wr => ∃ i : Nat, i ≤ 64 ∧ v13 = .int .i64 i ∧ v5 = .int .u64 (iv (word fun j => decide (j < i) && p (f j).toNat)) ∧ Blk wr g1 (clsA p) 58 ∧ BelowH w wr) (fun _ v13 _ => 64 - (intOf v13).toNat)
    case atStart => exact ⟨0, by omega, rfl, by rw [word_none]; simp, B_g1, HB⟩
    case round =>
      clear B_g0 B_g1 HB
      obtain ⟨i, hi, rfl, rfl, B1, HB⟩ := hrel
      by_cases hlt : i < 64
      · obtain ⟨x, hx⟩ : ∃ x : Nat, f i = (x : Int) := ⟨(f i).toNat, by have := HF.out i; omega⟩
        have hx6 : x < 256 := by have := HF.out i; omega
        obtain ⟨k, hk⟩ : ∃ k : Nat, k = x / 64 := ⟨_, rfl⟩
        obtain ⟨m, hm⟩ : ∃ m : Nat, m = x % 64 := ⟨_, rfl⟩
        have hk1 : (x : Int) / 64 = (k : Int) := by omega
        have hk4 : (k : Int) < 4 := by omega
        have hm1 : bits .and .u8 (x : Int) 63 = (m : Int) := by rw [bits_and_u8_63 _ hx6, hm]
        have hm4 : (m : Int) < 64 := by omega
        have hc := B1.cell (clsA_get p (show k < 4 by omega))
        have hfi := blkA_get f hlt
        rw [hx] at hfi
        have IX : ∀ W : World, (Instr.index 54 (.agg (blkA f)) (.int .i64 (i : Int))).run Tryd.prog W = .ok (.int .u8 (x : Int)) W := fun W => run_index_arr (P := Tryd.prog) Tryd.underlying54 (by kernel_rfl) (by kernel_rfl) (by kernel_rfl) hlt hfi .i64 W
        have ST := Aside0.mk (mask_step_at p f hx hk hm hlt)
        have KI := Aside0.mk hlt
        have h1 : (i : Int) < 64 := by omega
        clear hx hx6 hk hm hlt hfi hi
        go_wp2
        go_roundw
        case rel => exact ⟨i + 1, by have := KI.out; omega, by go_num, by rw [ST.out], B1, HB⟩
        case measure =>
          simp [intOf]
          have := KI.out
          omega
      · obtain rfl : i = 64 := by omega
        go_wp2
        go_ret
        exact ⟨by rw [word_done]; rfl, HB.out⟩


end Go.Proofs.YtagcilcdgckbeaaDoor.PK
