/- Parts of a claim (TD), packed by a program (pack.py) out of the texts that it names. -/
import Derived.Test.YtgddljealeklkaaDoorTD1
-- PLx2
section
namespace Go.Proofs.YtgddljealeklkaaDoor.PL
open Go.RowKit Go.Proofs.YtgddljealeklkaaDoorW.PrintWords Go.Proofs.YtgddljealeklkaaDoorW.PrintLast Go.Proofs.YtgddljealeklkaaDoorW.PrintMore
attribute [local go_sem] max2_int min2_int max_two min_two max_three min_three max_four min_four   -- for this text's walks alone
set_option linter.unusedVariables false
set_option linter.unusedSimpArgs false

section
open Go.Proofs.YtgddljealeklkaaDoorQ Go.Proofs.YtgddljealeklkaaDoorM
set_option maxHeartbeats 2000000 in
set_option maxRecDepth 100000 in
theorem marks_kindOf.tells (x : Nat) (hx : x < 256) (w : World) :
    Calls Tryd.prog 107 #[.int .u8 (x : Int)] w fun e w' => e = .returned (.int .i64 (kindN x)) ∧ Below w.heap.size w w' := by
  have HB := BelowH.refl w
  have H256 := Aside0.mk hx
  clear hx
  go_enter Tryd.func107, Tryd.ntmps107
  go_upto_region 2 with (first
    | ((with_reducible refine gate_dst (N := 3) rfl ?_); refine ev_alloc HB rfl (#[.int .u8 0, .int .i64 0, .int .u8 0, .int .i64 0, .int .u8 0, .int .i64 0, .int .u8 0, .int .i64 0, .int .u8 0, .int .i64 0, .int .u8 0, .int .i64 0, .int .u8 0, .int .i64 0, .int .u8 0, .int .i64 0, .int .u8 0, .int .i64 0, .int .u8 0, .int .i64 0]) 140 ?hr ?_; (case hr => first | (go_simp; done) | (go_simp; rfl)); intro g3 w1 G_g3 GE_g3 B_g3 HBn K_g3; clear HB; have HB := HBn; clear HBn)
    | ((with_reducible refine gate_ (Op.store 140 (.tmp 3) (.tmp 16)) rfl ?_); refine ev_store HB B_g3 GE_g3 rfl 140 _ _ rfl rfl rfl (by kernel_rfl) rfl (by simp [Value.oneCell']) ?_; intro w2 B3 HBn K_w2; clear HB; have HB := HBn; clear HBn))
  go_wp2_with (first
    | ((with_reducible refine gate_dst (N := 17) rfl ?_); refine ev_loadS B3 rfl 140 _ rfl rfl Tryd.underlying140 rfl (by kernel_rfl) ?_))
  clear B3 B_g3 K_w2 K_g3 G_g3 GE_g3
  go_loopw [18] (fun v18 wr => ∃ i : Nat, v18 = .int .i64 (i : Int) ∧ Aside0 (i ≤ 10) ∧ Aside0 (∀ j, j < i → kindsX.getD j 0 ≠ x) ∧ BelowH w wr) (fun v18 _ => 10 - (intOf v18).toNat)
  case atStart => exact ⟨0, rfl, ⟨by decide⟩, ⟨fun j hj => absurd hj (Nat.not_lt_zero j)⟩, HB⟩
  case round =>
    clear HB
    obtain ⟨i, rfl, HI, HJ, HB⟩ := hrel
    have hi := HI.out
    rcases (by omega : i = 0 ∨ i = 1 ∨ i = 2 ∨ i = 3 ∨ i = 4 ∨ i = 5 ∨ i = 6 ∨ i = 7 ∨ i = 8 ∨ i = 9 ∨ i = 10) with rfl | rfl | rfl | rfl | rfl | rfl | rfl | rfl | rfl | rfl | rfl
    · clear hi
      have ix : ∀ w, (Instr.index 140 (.agg #[.int .u8 123, .int .i64 1, .int .u8 125, .int .i64 1, .int .u8 91, .int .i64 1, .int .u8 93, .int .i64 1, .int .u8 58, .int .i64 1, .int .u8 44, .int .i64 1, .int .u8 32, .int .i64 2, .int .u8 9, .int .i64 2, .int .u8 10, .int .i64 2, .int .u8 13, .int .i64 2]) (.int .i64 0)).run Tryd.prog w = .ok (.agg #[.int .u8 123, .int .i64 1]) w := fun _ => by kernel_rfl
      by_cases hx : x = 123
      · have h1 : ((123 : Int) == (x : Int)) = true := by rw [hx]; rfl
        have HX := Aside0.mk hx
        clear hx
        go_wp2_with (first
          | ((with_reducible refine gate_dst (N := 5) rfl ?_); refine ev_alloc HB rfl (#[.int .u8 0, .int .i64 0]) 139 ?hr ?_; (case hr => first | (go_simp; done) | (go_simp; rfl)); intro g5 w3 G_g5 GE_g5 B_g5 HBn K_g5; clear HB; have HB := HBn; clear HBn)
          | ((with_reducible refine gate_ (Op.store 139 (.tmp 5) (.tmp 20)) rfl ?_); refine ev_store HB B_g5 GE_g5 rfl 139 _ _ rfl rfl rfl (by kernel_rfl) rfl (by simp [Value.oneCell']) ?_; intro w4 B5 HBn K_w4; have c50 := B5.cell (i := 0) rfl; have c51 := B5.cell (i := 1) rfl; clear HB; have HB := HBn; clear HBn))
        go_ret
        exact ⟨by rw [HX.out]; rfl, HB.out⟩
      · have h1 : ((123 : Int) == (x : Int)) = false := beq_eq_false_iff_ne.mpr (by omega)
        have HX := Aside0.mk hx
        clear hx
        go_wp2_with (first
          | ((with_reducible refine gate_dst (N := 5) rfl ?_); refine ev_alloc HB rfl (#[.int .u8 0, .int .i64 0]) 139 ?hr ?_; (case hr => first | (go_simp; done) | (go_simp; rfl)); intro g5 w3 G_g5 GE_g5 B_g5 HBn K_g5; clear HB; have HB := HBn; clear HBn)
          | ((with_reducible refine gate_ (Op.store 139 (.tmp 5) (.tmp 20)) rfl ?_); refine ev_store HB B_g5 GE_g5 rfl 139 _ _ rfl rfl rfl (by kernel_rfl) rfl (by simp [Value.oneCell']) ?_; intro w4 B5 HBn K_w4; have c50 := B5.cell (i := 0) rfl; have c51 := B5.cell (i := 1) rfl; clear HB; have HB := HBn; clear HBn))
        go_roundw
        case rel => exact ⟨1, rfl, ⟨by decide⟩, ⟨kinds_next HJ.out (show kindsX.getD 0 0 ≠ x from fun e => HX.out e.symm)⟩, HB⟩
        case measure => decide
    · clear hi
      have ix : ∀ w, (Instr.index 140 (.agg #[.int .u8 123, .int .i64 1, .int .u8 125, .int .i64 1, .int .u8 91, .int .i64 1, .int .u8 93, .int .i64 1, .int .u8 58, .int .i64 1, .int .u8 44, .int .i64 1, .int .u8 32, .int .i64 2, .int .u8 9, .int .i64 2, .int .u8 10, .int .i64 2, .int .u8 13, .int .i64 2]) (.int .i64 1)).run Tryd.prog w = .ok (.agg #[.int .u8 125, .int .i64 1]) w := fun _ => by kernel_rfl
      by_cases hx : x = 125
      · have h1 : ((125 : Int) == (x : Int)) = true := by rw [hx]; rfl
        have HX := Aside0.mk hx
        clear hx
        go_wp2_with (first
          | ((with_reducible refine gate_dst (N := 5) rfl ?_); refine ev_alloc HB rfl (#[.int .u8 0, .int .i64 0]) 139 ?hr ?_; (case hr => first | (go_simp; done) | (go_simp; rfl)); intro g5 w3 G_g5 GE_g5 B_g5 HBn K_g5; clear HB; have HB := HBn; clear HBn)
          | ((with_reducible refine gate_ (Op.store 139 (.tmp 5) (.tmp 20)) rfl ?_); refine ev_store HB B_g5 GE_g5 rfl 139 _ _ rfl rfl rfl (by kernel_rfl) rfl (by simp [Value.oneCell']) ?_; intro w4 B5 HBn K_w4; have c50 := B5.cell (i := 0) rfl; have c51 := B5.cell (i := 1) rfl; clear HB; have HB := HBn; clear HBn))
        go_ret
        exact ⟨by rw [HX.out]; rfl, HB.out⟩
      · have h1 : ((125 : Int) == (x : Int)) = false := beq_eq_false_iff_ne.mpr (by omega)
        have HX := Aside0.mk hx
        clear hx
        go_wp2_with (first
          | ((with_reducible refine gate_dst (N := 5) rfl ?_); refine ev_alloc HB rfl (#[.int .u8 0, .int .i64 0]) 139 ?hr ?_; (case hr => first | (go_simp; done) | (go_simp; rfl)); intro g5 w3 G_g5 GE_g5 B_g5 HBn K_g5; clear HB; have HB := HBn; clear HBn)
          | ((with_reducible refine gate_ (Op.store 139 (.tmp 5) (.tmp 20)) rfl ?_); refine ev_store HB B_g5 GE_g5 rfl 139 _ _ rfl rfl rfl (by kernel_rfl) rfl (by simp [Value.oneCell']) ?_; intro w4 B5 HBn K_w4; have c50 := B5.cell (i := 0) rfl; have c51 := B5.cell (i := 1) rfl; clear HB; have HB := HBn; clear HBn))
        go_roundw
        case rel => exact ⟨2, rfl, ⟨by decide⟩, ⟨kinds_next HJ.out (show kindsX.getD 1 0 ≠ x from fun e => HX.out e.symm)⟩, HB⟩
        case measure => decide
    · clear hi
      have ix : ∀ w, (Instr.index 140 (.agg #[.int .u8 123, .int .i64 1, .int .u8 125, .int .i64 1, .int .u8 91, .int .i64 1, .int .u8 93, .int .i64 1, .int .u8 58, .int .i64 1, .int .u8 44, .int .i64 1, .int .u8 32, .int .i64 2, .int .u8 9, .int .i64 2, .int .u8 10, .int .i64 2, .int .u8 13, .int .i64 2]) (.int .i64 2)).run Tryd.prog w = .ok (.agg #[.int .u8 91, .int .i64 1]) w := fun _ => by kernel_rfl
      by_cases hx : x = 91
      · have h1 : ((91 : Int) == (x : Int)) = true := by rw [hx]; rfl
        have HX := Aside0.mk hx
        clear hx
        go_wp2_with (first
          | ((with_reducible refine gate_dst (N := 5) rfl ?_); refine ev_alloc HB rfl (#[.int .u8 0, .int .i64 0]) 139 ?hr ?_; (case hr => first | (go_simp; done) | (go_simp; rfl)); intro g5 w3 G_g5 GE_g5 B_g5 HBn K_g5; clear HB; have HB := HBn; clear HBn)
          | ((with_reducible refine gate_ (Op.store 139 (.tmp 5) (.tmp 20)) rfl ?_); refine ev_store HB B_g5 GE_g5 rfl 139 _ _ rfl rfl rfl (by kernel_rfl) rfl (by simp [Value.oneCell']) ?_; intro w4 B5 HBn K_w4; have c50 := B5.cell (i := 0) rfl; have c51 := B5.cell (i := 1) rfl; clear HB; have HB := HBn; clear HBn))
        go_ret
        exact ⟨by rw [HX.out]; rfl, HB.out⟩
      · have h1 : ((91 : Int) == (x : Int)) = false := beq_eq_false_iff_ne.mpr (by omega)
        have HX := Aside0.mk hx
        clear hx
        go_wp2_with (first
          | ((with_reducible refine gate_dst (N := 5) rfl ?_); refine ev_alloc HB rfl (#[.int .u8 0, .int .i64 0]) 139 ?hr ?_; (case hr => first | (go_simp; done) | (go_simp; rfl)); intro g5 w3 G_g5 GE_g5 B_g5 HBn K_g5; clear HB; have HB := HBn; clear HBn)
          | ((with_reducible refine gate_ (Op.store 139 (.tmp 5) (.tmp 20)) rfl ?_); refine ev_store HB B_g5 GE_g5 rfl 139 _ _ rfl rfl rfl (by kernel_rfl) rfl (by simp [Value.oneCell']) ?_; intro w4 B5 HBn K_w4; have c50 := B5.cell (i := 0) rfl; have c51 := B5.cell (i := 1) rfl; clear HB; have HB := HBn; clear HBn))
        go_roundw
        case rel => exact ⟨3, rfl, ⟨by decide⟩, ⟨kinds_next HJ.out (show kindsX.getD 2 0 ≠ x from fun e => HX.out e.symm)⟩, HB⟩
        case measure => decide
    · clear hi
      have ix : ∀ w, (Instr.index 140 (.agg #[.int .u8 123, .int .i64 1, .int .u8 125, .int .i64 1, .int .u8 91, .int .i64 1, .int .u8 93, .int .i64 1, .int .u8 58, .int .i64 1, .int .u8 44, .int .i64 1, .int .u8 32, .int .i64 2, .int .u8 9, .int .i64 2, .int .u8 10, .int .i64 2, .int .u8 13, .int .i64 2]) (.int .i64 3)).run Tryd.prog w = .ok (.agg #[.int .u8 93, .int .i64 1]) w := fun _ => by kernel_rfl
      by_cases hx : x = 93
      · have h1 : ((93 : Int) == (x : Int)) = true := by rw [hx]; rfl
        have HX := Aside0.mk hx
        clear hx
        go_wp2_with (first
          | ((with_reducible refine gate_dst (N := 5) rfl ?_); refine ev_alloc HB rfl (#[.int .u8 0, .int .i64 0]) 139 ?hr ?_; (case hr => first | (go_simp; done) | (go_simp; rfl)); intro g5 w3 G_g5 GE_g5 B_g5 HBn K_g5; clear HB; have HB := HBn; clear HBn)
          | ((with_reducible refine gate_ (Op.store 139 (.tmp 5) (.tmp 20)) rfl ?_); refine ev_store HB B_g5 GE_g5 rfl 139 _ _ rfl rfl rfl (by kernel_rfl) rfl (by simp [Value.oneCell']) ?_; intro w4 B5 HBn K_w4; have c50 := B5.cell (i := 0) rfl; have c51 := B5.cell (i := 1) rfl; clear HB; have HB := HBn; clear HBn))
        go_ret
        exact ⟨by rw [HX.out]; rfl, HB.out⟩
      · have h1 : ((93 : Int) == (x : Int)) = false := beq_eq_false_iff_ne.mpr (by omega)
        have HX := Aside0.mk hx
        clear hx
        go_wp2_with (first
          | ((with_reducible refine gate_dst (N := 5) rfl ?_); refine ev_alloc HB rfl (#[.int .u8 0, .int .i64 0]) 139 ?hr ?_; (case hr => first | (go_simp; done) | (go_simp; rfl)); intro g5 w3 G_g5 GE_g5 B_g5 HBn K_g5; clear HB; have HB := HBn; clear HBn)
          | ((with_reducible refine gate_ (Op.store 139 (.tmp 5) (.tmp 20)) rfl ?_); refine ev_store HB B_g5 GE_g5 rfl 139 _ _ rfl rfl rfl (by kernel_rfl) rfl (by simp [Value.oneCell']) ?_; intro w4 B5 HBn K_w4; have c50 := B5.cell (i := 0) rfl; have c51 := B5.cell (i := 1) rfl; clear HB; have HB := HBn; clear HBn))
        go_roundw
        case rel => exact ⟨4, rfl, ⟨by decide⟩, ⟨kinds_next HJ.out (show kindsX.getD 3 0 ≠ x from fun e => HX.out e.symm)⟩, HB⟩
        case measure => decide
    · clear hi
      have ix : ∀ w, (Instr.index 140 (.agg #[.int .u8 123, .int .i64 1, .int .u8 125, .int .i64 1, .int .u8 91, .int .i64 1, .int .u8 93, .int .i64 1, .int .u8 58, .int .i64 1, .int .u8 44, .int .i64 1, .int .u8 32, .int .i64 2, .int .u8 9, .int .i64 2, .int .u8 10, .int .i64 2, .int .u8 13, .int .i64 2]) (.int .i64 4)).run Tryd.prog w = .ok (.agg #[.int .u8 58, .int .i64 1]) w := fun _ => by kernel_rfl
      by_cases hx : x = 58
      · have h1 : ((58 : Int) == (x : Int)) = true := by rw [hx]; rfl
        have HX := Aside0.mk hx
        clear hx
        go_wp2_with (first
          | ((with_reducible refine gate_dst (N := 5) rfl ?_); refine ev_alloc HB rfl (#[.int .u8 0, .int .i64 0]) 139 ?hr ?_; (case hr => first | (go_simp; done) | (go_simp; rfl)); intro g5 w3 G_g5 GE_g5 B_g5 HBn K_g5; clear HB; have HB := HBn; clear HBn)
          | ((with_reducible refine gate_ (Op.store 139 (.tmp 5) (.tmp 20)) rfl ?_); refine ev_store HB B_g5 GE_g5 rfl 139 _ _ rfl rfl rfl (by kernel_rfl) rfl (by simp [Value.oneCell']) ?_; intro w4 B5 HBn K_w4; have c50 := B5.cell (i := 0) rfl; have c51 := B5.cell (i := 1) rfl; clear HB; have HB := HBn; clear HBn))
        go_ret
        exact ⟨by rw [HX.out]; rfl, HB.out⟩
      · have h1 : ((58 : Int) == (x : Int)) = false := beq_eq_false_iff_ne.mpr (by omega)
        have HX := Aside0.mk hx
        clear hx
        go_wp2_with (first
          | ((with_reducible refine gate_dst (N := 5) rfl ?_); refine ev_alloc HB rfl (#[.int .u8 0, .int .i64 0]) 139 ?hr ?_; (case hr => first | (go_simp; done) | (go_simp; rfl)); intro g5 w3 G_g5 GE_g5 B_g5 HBn K_g5; clear HB; have HB := HBn; clear HBn)
          | ((with_reducible refine gate_ (Op.store 139 (.tmp 5) (.tmp 20)) rfl ?_); refine ev_store HB B_g5 GE_g5 rfl 139 _ _ rfl rfl rfl (by kernel_rfl) rfl (by simp [Value.oneCell']) ?_; intro w4 B5 HBn K_w4; have c50 := B5.cell (i := 0) rfl; have c51 := B5.cell (i := 1) rfl; clear HB; have HB := HBn; clear HBn))
        go_roundw
        case rel => exact ⟨5, rfl, ⟨by decide⟩, ⟨kinds_next HJ.out (show kindsX.getD 4 0 ≠ x from fun e => HX.out e.symm)⟩, HB⟩
        case measure => decide
    · clear hi
      have ix : ∀ w, (Instr.index 140 (.agg #[.int .u8 123, .int .i64 1, .int .u8 125, .int .i64 1, .int .u8 91, .int .i64 1, .int .u8 93, .int .i64 1, .int .u8 58, .int .i64 1, .int .u8 44, .int .i64 1, .int .u8 32, .int .i64 2, .int .u8 9, .int .i64 2, .int .u8 10, .int .i64 2, .int .u8 13, .int .i64 2]) (.int .i64 5)).run Tryd.prog w = .ok (.agg #[.int .u8 44, .int .i64 1]) w := fun _ => by kernel_rfl
      by_cases hx : x = 44
      · have h1 : ((44 : Int) == (x : Int)) = true := by rw [hx]; rfl
        have HX := Aside0.mk hx
        clear hx
        go_wp2_with (first
          | ((with_reducible refine gate_dst (N := 5) rfl ?_); refine ev_alloc HB rfl (#[.int .u8 0, .int .i64 0]) 139 ?hr ?_; (case hr => first | (go_simp; done) | (go_simp; rfl)); intro g5 w3 G_g5 GE_g5 B_g5 HBn K_g5; clear HB; have HB := HBn; clear HBn)
          | ((with_reducible refine gate_ (Op.store 139 (.tmp 5) (.tmp 20)) rfl ?_); refine ev_store HB B_g5 GE_g5 rfl 139 _ _ rfl rfl rfl (by kernel_rfl) rfl (by simp [Value.oneCell']) ?_; intro w4 B5 HBn K_w4; have c50 := B5.cell (i := 0) rfl; have c51 := B5.cell (i := 1) rfl; clear HB; have HB := HBn; clear HBn))
        go_ret
        exact ⟨by rw [HX.out]; rfl, HB.out⟩
      · have h1 : ((44 : Int) == (x : Int)) = false := beq_eq_false_iff_ne.mpr (by omega)
        have HX := Aside0.mk hx
        clear hx
        go_wp2_with (first
          | ((with_reducible refine gate_dst (N := 5) rfl ?_); refine ev_alloc HB rfl (#[.int .u8 0, .int .i64 0]) 139 ?hr ?_; (case hr => first | (go_simp; done) | (go_simp; rfl)); intro g5 w3 G_g5 GE_g5 B_g5 HBn K_g5; clear HB; have HB := HBn; clear HBn)
          | ((with_reducible refine gate_ (Op.store 139 (.tmp 5) (.tmp 20)) rfl ?_); refine ev_store HB B_g5 GE_g5 rfl 139 _ _ rfl rfl rfl (by kernel_rfl) rfl (by simp [Value.oneCell']) ?_; intro w4 B5 HBn K_w4; have c50 := B5.cell (i := 0) rfl; have c51 := B5.cell (i := 1) rfl; clear HB; have HB := HBn; clear HBn))
        go_roundw
        case rel => exact ⟨6, rfl, ⟨by decide⟩, ⟨kinds_next HJ.out (show kindsX.getD 5 0 ≠ x from fun e => HX.out e.symm)⟩, HB⟩
        case measure => decide
    · clear hi
      have ix : ∀ w, (Instr.index 140 (.agg #[.int .u8 123, .int .i64 1, .int .u8 125, .int .i64 1, .int .u8 91, .int .i64 1, .int .u8 93, .int .i64 1, .int .u8 58, .int .i64 1, .int .u8 44, .int .i64 1, .int .u8 32, .int .i64 2, .int .u8 9, .int .i64 2, .int .u8 10, .int .i64 2, .int .u8 13, .int .i64 2]) (.int .i64 6)).run Tryd.prog w = .ok (.agg #[.int .u8 32, .int .i64 2]) w := fun _ => by kernel_rfl
      by_cases hx : x = 32
      · have h1 : ((32 : Int) == (x : Int)) = true := by rw [hx]; rfl
        have HX := Aside0.mk hx
        clear hx
        go_wp2_with (first
          | ((with_reducible refine gate_dst (N := 5) rfl ?_); refine ev_alloc HB rfl (#[.int .u8 0, .int .i64 0]) 139 ?hr ?_; (case hr => first | (go_simp; done) | (go_simp; rfl)); intro g5 w3 G_g5 GE_g5 B_g5 HBn K_g5; clear HB; have HB := HBn; clear HBn)
          | ((with_reducible refine gate_ (Op.store 139 (.tmp 5) (.tmp 20)) rfl ?_); refine ev_store HB B_g5 GE_g5 rfl 139 _ _ rfl rfl rfl (by kernel_rfl) rfl (by simp [Value.oneCell']) ?_; intro w4 B5 HBn K_w4; have c50 := B5.cell (i := 0) rfl; have c51 := B5.cell (i := 1) rfl; clear HB; have HB := HBn; clear HBn))
        go_ret
        exact ⟨by rw [HX.out]; rfl, HB.out⟩
      · have h1 : ((32 : Int) == (x : Int)) = false := beq_eq_false_iff_ne.mpr (by omega)
        have HX := Aside0.mk hx
        clear hx
        go_wp2_with (first
          | ((with_reducible refine gate_dst (N := 5) rfl ?_); refine ev_alloc HB rfl (#[.int .u8 0, .int .i64 0]) 139 ?hr ?_; (case hr => first | (go_simp; done) | (go_simp; rfl)); intro g5 w3 G_g5 GE_g5 B_g5 HBn K_g5; clear HB; have HB := HBn; clear HBn)
          | ((with_reducible refine gate_ (Op.store 139 (.tmp 5) (.tmp 20)) rfl ?_); refine ev_store HB B_g5 GE_g5 rfl 139 _ _ rfl rfl rfl (by kernel_rfl) rfl (by simp [Value.oneCell']) ?_; intro w4 B5 HBn K_w4; have c50 := B5.cell (i := 0) rfl; have c51 := B5.cell (i := 1) rfl; clear HB; have HB := HBn; clear HBn))
        go_roundw
        case rel => exact ⟨7, rfl, ⟨by decide⟩, ⟨kinds_next HJ.out (show kindsX.getD 6 0 ≠ x from fun e => HX.out e.symm)⟩, HB⟩
        case measure => decide
    · clear hi
      have ix : ∀ w, (Instr.index 140 (.agg #[.int .u8 123, .int .i64 1, .int .u8 125, .int .i64 1, .int .u8 91, .int .i64 1, .int .u8 93, .int .i64 1, .int .u8 58, .int .i64 1, .int .u8 44, .int .i64 1, .int .u8 32, .int .i64 2, .int .u8 9, .int .i64 2, .int .u8 10, .int .i64 2, .int .u8 13, .int .i64 2]) (.int .i64 7)).run Tryd.prog w = .ok (.agg #[.int .u8 9, .int .i64 2]) w := fun _ => by kernel_rfl
      by_cases hx : x = 9
      · have h1 : ((9 : Int) == (x : Int)) = true := by rw [hx]; rfl
        have HX := Aside0.mk hx
        clear hx
        go_wp2_with (first
          | ((with_reducible refine gate_dst (N := 5) rfl ?_); refine ev_alloc HB rfl (#[.int .u8 0, .int .i64 0]) 139 ?hr ?_; (case hr => first | (go_simp; done) | (go_simp; rfl)); intro g5 w3 G_g5 GE_g5 B_g5 HBn K_g5; clear HB; have HB := HBn; clear HBn)
          | ((with_reducible refine gate_ (Op.store 139 (.tmp 5) (.tmp 20)) rfl ?_); refine ev_store HB B_g5 GE_g5 rfl 139 _ _ rfl rfl rfl (by kernel_rfl) rfl (by simp [Value.oneCell']) ?_; intro w4 B5 HBn K_w4; have c50 := B5.cell (i := 0) rfl; have c51 := B5.cell (i := 1) rfl; clear HB; have HB := HBn; clear HBn))
        go_ret
        exact ⟨by rw [HX.out]; rfl, HB.out⟩
      · have h1 : ((9 : Int) == (x : Int)) = false := beq_eq_false_iff_ne.mpr (by omega)
        have HX := Aside0.mk hx
        clear hx
        go_wp2_with (first
          | ((with_reducible refine gate_dst (N := 5) rfl ?_); refine ev_alloc HB rfl (#[.int .u8 0, .int .i64 0]) 139 ?hr ?_; (case hr => first | (go_simp; done) | (go_simp; rfl)); intro g5 w3 G_g5 GE_g5 B_g5 HBn K_g5; clear HB; have HB := HBn; clear HBn)
          | ((with_reducible refine gate_ (Op.store 139 (.tmp 5) (.tmp 20)) rfl ?_); refine ev_store HB B_g5 GE_g5 rfl 139 _ _ rfl rfl rfl (by kernel_rfl) rfl (by simp [Value.oneCell']) ?_; intro w4 B5 HBn K_w4; have c50 := B5.cell (i := 0) rfl; have c51 := B5.cell (i := 1) rfl; clear HB; have HB := HBn; clear HBn))
        go_roundw
        case rel => exact ⟨8, rfl, ⟨by decide⟩, ⟨kinds_next HJ.out (show kindsX.getD 7 0 ≠ x from fun e => HX.out e.symm)⟩, HB⟩
        case measure => decide
    · clear hi
      have ix : ∀ w, (Instr.index 140 (.agg #[.int .u8 123, .int .i64 1, .int .u8 125, .int .i64 1, .int .u8 91, .int .i64 1, .int .u8 93, .int .i64 1, .int .u8 58, .int .i64 1, .int .u8 44, .int .i64 1, .int .u8 32, .int .i64 2, .int .u8 9, .int .i64 2, .int .u8 10, .int .i64 2, .int .u8 13, .int .i64 2]) (.int .i64 8)).run Tryd.prog w = .ok (.agg #[.int .u8 10, .int .i64 2]) w := fun _ => by kernel_rfl
      by_cases hx : x = 10
      · have h1 : ((10 : Int) == (x : Int)) = true := by rw [hx]; rfl
        have HX := Aside0.mk hx
        clear hx
        go_wp2_with (first
          | ((with_reducible refine gate_dst (N := 5) rfl ?_); refine ev_alloc HB rfl (#[.int .u8 0, .int .i64 0]) 139 ?hr ?_; (case hr => first | (go_simp; done) | (go_simp; rfl)); intro g5 w3 G_g5 GE_g5 B_g5 HBn K_g5; clear HB; have HB := HBn; clear HBn)
          | ((with_reducible refine gate_ (Op.store 139 (.tmp 5) (.tmp 20)) rfl ?_); refine ev_store HB B_g5 GE_g5 rfl 139 _ _ rfl rfl rfl (by kernel_rfl) rfl (by simp [Value.oneCell']) ?_; intro w4 B5 HBn K_w4; have c50 := B5.cell (i := 0) rfl; have c51 := B5.cell (i := 1) rfl; clear HB; have HB := HBn; clear HBn))
        go_ret
        exact ⟨by rw [HX.out]; rfl, HB.out⟩
      · have h1 : ((10 : Int) == (x : Int)) = false := beq_eq_false_iff_ne.mpr (by omega)
        have HX := Aside0.mk hx
        clear hx
        go_wp2_with (first
          | ((with_reducible refine gate_dst (N := 5) rfl ?_); refine ev_alloc HB rfl (#[.int .u8 0, .int .i64 0]) 139 ?hr ?_; (case hr => first | (go_simp; done) | (go_simp; rfl)); intro g5 w3 G_g5 GE_g5 B_g5 HBn K_g5; clear HB; have HB := HBn; clear HBn)
          | ((with_reducible refine gate_ (Op.store 139 (.tmp 5) (.tmp 20)) rfl ?_); refine ev_store HB B_g5 GE_g5 rfl 139 _ _ rfl rfl rfl (by kernel_rfl) rfl (by simp [Value.oneCell']) ?_; intro w4 B5 HBn K_w4; have c50 := B5.cell (i := 0) rfl; have c51 := B5.cell (i := 1) rfl; clear HB; have HB := HBn; clear HBn))
        go_roundw
        case rel => exact ⟨9, rfl, ⟨by decide⟩, ⟨kinds_next HJ.out (show kindsX.getD 8 0 ≠ x from fun e => HX.out e.symm)⟩, HB⟩
        case measure => decide
    · clear hi
      have ix : ∀ w, (Instr.index 140 (.agg #[.int .u8 123, .int .i64 1, .int .u8 125, .int .i64 1, .int .u8 91, .int .i64 1, .int .u8 93, .int .i64 1, .int .u8 58, .int .i64 1, .int .u8 44, .int .i64 1, .int .u8 32, .int .i64 2, .int .u8 9, .int .i64 2, .int .u8 10, .int .i64 2, .int .u8 13, .int .i64 2]) (.int .i64 9)).run Tryd.prog w = .ok (.agg #[.int .u8 13, .int .i64 2]) w := fun _ => by kernel_rfl
      by_cases hx : x = 13
      · have h1 : ((13 : Int) == (x : Int)) = true := by rw [hx]; rfl
        have HX := Aside0.mk hx
        clear hx
        go_wp2_with (first
          | ((with_reducible refine gate_dst (N := 5) rfl ?_); refine ev_alloc HB rfl (#[.int .u8 0, .int .i64 0]) 139 ?hr ?_; (case hr => first | (go_simp; done) | (go_simp; rfl)); intro g5 w3 G_g5 GE_g5 B_g5 HBn K_g5; clear HB; have HB := HBn; clear HBn)
          | ((with_reducible refine gate_ (Op.store 139 (.tmp 5) (.tmp 20)) rfl ?_); refine ev_store HB B_g5 GE_g5 rfl 139 _ _ rfl rfl rfl (by kernel_rfl) rfl (by simp [Value.oneCell']) ?_; intro w4 B5 HBn K_w4; have c50 := B5.cell (i := 0) rfl; have c51 := B5.cell (i := 1) rfl; clear HB; have HB := HBn; clear HBn))
        go_ret
        exact ⟨by rw [HX.out]; rfl, HB.out⟩
      · have h1 : ((13 : Int) == (x : Int)) = false := beq_eq_false_iff_ne.mpr (by omega)
        have HX := Aside0.mk hx
        clear hx
        go_wp2_with (first
          | ((with_reducible refine gate_dst (N := 5) rfl ?_); refine ev_alloc HB rfl (#[.int .u8 0, .int .i64 0]) 139 ?hr ?_; (case hr => first | (go_simp; done) | (go_simp; rfl)); intro g5 w3 G_g5 GE_g5 B_g5 HBn K_g5; clear HB; have HB := HBn; clear HBn)
          | ((with_reducible refine gate_ (Op.store 139 (.tmp 5) (.tmp 20)) rfl ?_); refine ev_store HB B_g5 GE_g5 rfl 139 _ _ rfl rfl rfl (by kernel_rfl) rfl (by simp [Value.oneCell']) ?_; intro w4 B5 HBn K_w4; have c50 := B5.cell (i := 0) rfl; have c51 := B5.cell (i := 1) rfl; clear HB; have HB := HBn; clear HBn))
        go_roundw
        case rel => exact ⟨10, rfl, ⟨by decide⟩, ⟨kinds_next HJ.out (show kindsX.getD 9 0 ≠ x from fun e => HX.out e.symm)⟩, HB⟩
        case measure => decide
    · go_wp2
      go_ret
      exact ⟨by rw [kindN_none HJ.out]; rfl, HB.out⟩
end


open Go.Proofs.YtgddljealeklkaaDoorQ Go.Proofs.YtgddljealeklkaaDoorM in
set_option maxHeartbeats 1000000 in
set_option maxRecDepth 100000 in
theorem block_Join.calls (p q : Nat → Bool) (w : World) :
    Calls Tryd.prog 108 #[.agg (clsA p), .agg (clsA q)] w fun e w' => e = .returned (.agg (clsA (joinC p q))) ∧ Below w.heap.size w w' := by
  have HB := BelowH.refl w
  go_enter Tryd.func108, Tryd.ntmps108
  go_upto_region 1 with (first
    | ((with_reducible refine gate_dst (N := 2) rfl ?_); refine ev_alloc HB rfl (clsA (p)) 111 ?hr ?_; (case hr => first | (go_simp; done) | (go_simp; rfl)); intro g2 w1 G_g2 GE_g2 B_g2 HBn K_g2; clear HB; have HB := HBn; clear HBn)
    | ((with_reducible refine gate_dst (N := 3) rfl ?_); refine ev_alloc HB rfl (clsA (q)) 111 ?hr ?_; (case hr => first | (go_simp; done) | (go_simp; rfl)); intro g3 w2 G_g3 GE_g3 B_g3 HBn K_g3; clear HB; have HB := HBn; clear HBn)
    | ((with_reducible refine gate_dst (N := 4) rfl ?_); refine ev_alloc HB rfl (clsA fun _ => false) 111 ?hr ?_; (case hr => rw [← clsA_zero]; go_simp; rfl); intro g4 w3 G_g4 GE_g4 B_g4 HBn K_g4; clear HB; have HB := HBn; clear HBn))
  have D2 := ((B_g2.below K_g3.out).below K_g4.out)
  have D3 := (B_g3.below K_g4.out)
  have D4 := B_g4
  have N3 := Aside0.mk (show g2 < g3 by have := B_g2.lt; have := G_g3.out; have := B_g3.lt; have := G_g4.out; omega)
  have N4 := Aside0.mk (show g2 < g4 by have := B_g2.lt; have := G_g3.out; have := B_g3.lt; have := G_g4.out; omega)
  rw [mix_zero (joinC p q) p] at D2
  go_wp2
  go_loopw [6] (fun v6 wr => ∃ k : Nat, k ≤ 4 ∧ v6 = .int .i64 k ∧ Blk wr g2 (clsA (mixA (joinC p q) p k)) 111 ∧ Blk wr g3 (clsA q) 111 ∧ Blk wr g4 (clsA fun _ => false) 111 ∧ BelowH w wr) (fun v6 _ => 4 - (intOf v6).toNat)
  case atStart => exact ⟨0, by omega, rfl, D2, D3, D4, HB⟩
  case round =>
    clear D2 D3 D4 B_g2 B_g3 B_g4 HB
    obtain ⟨k, hk, rfl, B2, B3, B4, HB⟩ := hrel
    by_cases hlt : k < 4
    · have h1 : (k : Int) < 4 := by omega
      have KX := Aside0.mk hlt
      have c1 := B2.cell (clsA_get (mixA (joinC p q) p k) hlt)
      rw [mix_at] at c1
      have c2 := B3.cell (clsA_get q hlt)
      clear hlt hk
      go_upto_region 4 with (fail)
      go_still_tail 11, (by kernel_rfl)
      change wpList _ _ _ _ _ wr.drew
      have EB2 := B2.drew
      have EB3 := B3.drew
      have EB4 := B4.drew
      have HE := HB.drew
      clear B2 B3 B4 HB c1 c2
      go_wp2_with (first
        | ((with_reducible refine gate_ (Op.store 75 (.tmp 19) (.tmp 17)) rfl ?_); refine ev_store1 (i := k) HE EB2 GE_g2 rfl 75 _ _ rfl rfl (.int .u64 (bits .or .u64 (iv (clsW p k)) (iv (clsW q k)))) rfl (by rw [clsA_size]; exact KX.out) (by kernel_rfl) rfl ?_; intro w8 B8 HB8 K8))
      rw [mix_step (joinC p q) p KX.out (join_word p q k)] at B8
      go_roundw
      case rel => exact ⟨k + 1, by have := KX.out; omega, by go_num, B8, EB3.other K8 (Nat.ne_of_gt N3.out), EB4.other K8 (Nat.ne_of_gt N4.out), HB8⟩
      case measure =>
        simp [intOf]
        have := KX.out
        omega
    · obtain rfl : k = 4 := by omega
      rw [mix_end] at B2
      go_wp2_with (first
        | ((with_reducible refine gate_dst (N := 21) rfl ?_); (try (refine gate_guard (by rfl) ?_; dsimp only)); refine ev_loadS B2 rfl 111 _ rfl rfl Tryd.underlying111 rfl (sizeC' _) ?_)
        | ((with_reducible refine gate_ (Op.store 111 (.tmp 4) (.tmp 21)) rfl ?_); refine ev_store HB B4 GE_g4 rfl 111 _ _ rfl rfl rfl (sizeC' _) (by rw [clsA_size, clsA_size]) (clsA_one _) ?_; intro w9 B9 HBn K_w9; clear HB; have HB := HBn; clear HBn))
      refine bodyPost_ret (results_cell_row rfl _ _ g4 111 _ (0, 0) _ rfl B9.out Tryd.underlying111 rfl (sizeC' _)) rfl ?_
      exact ⟨rfl, HB.out⟩


open Go.Proofs.YtgddljealeklkaaDoorQ Go.Proofs.YtgddljealeklkaaDoorM in
set_option maxHeartbeats 400000 in
set_option maxRecDepth 100000 in
theorem block_Of.calls (s : ByteArray) (w : World) (hs : s.size ≤ 281474976702464) :
    Calls Tryd.prog 109 #[.string s] w fun e w' => e = .returned (.agg (clsA (inT s s.size))) ∧ Below w.heap.size w w' := by
  have HB := BelowH.refl w
  have HS := Aside0.mk hs
  clear hs
  go_enter Tryd.func109, Tryd.ntmps109
  go_wp2_with (first
    | ((with_reducible refine gate_dst (N := 2) rfl ?_); refine ev_alloc HB rfl (clsA fun _ => false) 111 ?hr ?_; (case hr => rw [← clsA_zero]; go_simp; rfl); intro g0 w1 G_g0 GE_g0 B_g0 HBn K_g0; clear HB; have HB := HBn; clear HBn)
    | ((with_reducible refine gate_dst (N := 3) rfl ?_); refine ev_alloc HB rfl (clsA fun _ => false) 111 ?hr ?_; (case hr => rw [← clsA_zero]; go_simp; rfl); intro g1 w2 G_g1 GE_g1 B_g1 HBn K_g1; clear HB; have HB := HBn; clear HBn))
  have N01 := Aside0.mk (show g0 < g1 by have := B_g0.lt; have := G_g1.out; omega)
  go_loopw [7] (fun v7 wr => ∃ i : Nat, i ≤ s.size ∧ v7 = .int .i64 i ∧ Blk wr g0 (clsA fun _ => false) 111 ∧ Blk wr g1 (clsA (inT s i)) 111 ∧ BelowH w wr) (fun v7 _ => s.size - (intOf v7).toNat)
  case atStart => exact ⟨0, by omega, rfl, B_g0.below K_g1.out, B_g1, HB⟩
  case round =>
    clear B_g0 B_g1 HB
    obtain ⟨i, hi, rfl, B0, B1, HB⟩ := hrel
    by_cases hlt : i < s.size
    · have KI := Aside0.mk hlt
      have hlt' : decide ((i : Int) < (s.size : Int)) = true := decide_eq_true (by omega)
      go_upto_region 5 with (fail)
      obtain ⟨k, hk⟩ : ∃ k : Nat, k = (s[i]'hlt).toNat / 64 := ⟨_, rfl⟩
      obtain ⟨m, hm⟩ : ∃ m : Nat, m = (s[i]'hlt).toNat % 64 := ⟨_, rfl⟩
      have hx : (s[i]'hlt).toNat < 256 := UInt8.toNat_lt _
      have hk1 : (((s[i]'hlt).toNat : Nat) : Int) / 64 = (k : Int) := by omega
      have hk4 : (k : Int) < 4 := by omega
      have hm1 : bits .and .u8 (((s[i]'hlt).toNat : Nat) : Int) 63 = (m : Int) := by rw [bits_and_u8_63 _ hx, hm]
      have hm4 : (m : Int) < 64 := by omega
      have hc := B1.cell (clsA_get _ (show k < 4 by omega))
      have HK := Aside0.mk hk
      have HM := Aside0.mk hm
      clear hk hm hx
      go_still_tail 14, (by kernel_rfl)
      change wpList _ _ _ _ _ wr.drew
      have B1' := B1.drew
      have B0' := B0.drew
      have HB' := HB.drew
      have HV := Aside0.mk (cls_or (p := inT s i) (q := inT s (i + 1)) (k := k) (m := m) (by omega) (inT_step hlt HK.out HM.out))
      clear HB B0 B1 hc hk1 hm1
      go_wp2_with (first
        | ((with_reducible refine gate_ (Op.store 75 (.tmp 24) (.tmp 22)) rfl ?_); refine ev_store1 (i := k) HB' B1' GE_g1 rfl 75 _ _ rfl rfl (.int .u64 (bits .or .u64 (iv (clsW (inT s i) k)) (IntKind.u64.wrap (2 ^ m)))) rfl (by rw [clsA_size]; omega) (by kernel_rfl) rfl ?_; intro w5 B5 HB5 K5))
      go_roundw
      case rel =>
        refine ⟨i + 1, by omega, by rw [w64_up KI.out HS.out], B0'.other K5 (Nat.ne_of_lt N01.out), ?_, HB5⟩
        rw [HV.out, clsA_set (q := inT s (i + 1)) (by omega) rfl (fun x _ hx => (inT_else hlt HK.out hx).symm)] at B5
        exact B5
      case measure =>
        rw [w64_up KI.out HS.out]
        simp [intOf]
        have := KI.out
        omega
    · obtain rfl : i = s.size := by omega
      go_wp2_with (first
        | ((with_reducible refine gate_dst (N := 26) rfl ?_); (try (refine gate_guard (by rfl) ?_; dsimp only)); refine ev_loadS B1 rfl 111 _ rfl rfl Tryd.underlying111 rfl (sizeC' _) ?_)
        | ((with_reducible refine gate_ (Op.store 111 (.tmp 2) (.tmp 26)) rfl ?_); refine ev_store HB B0 GE_g0 rfl 111 _ _ rfl rfl rfl (sizeC' _) (by rw [clsA_size, clsA_size]) (clsA_one _) ?_; intro w6 B6 HBn K_w6; clear HB; have HB := HBn; clear HBn))
      refine bodyPost_ret (results_cell_row rfl _ _ g0 111 _ (0, 0) _ rfl B6.out Tryd.underlying111 rfl (sizeC' _)) rfl ?_
      exact ⟨rfl, HB.out⟩


section
open Go.Proofs.YtgddljealeklkaaDoorQ Go.Proofs.YtgddljealeklkaaDoorM
set_option maxHeartbeats 2000000 in
set_option maxRecDepth 100000 in
theorem marks_classes.tells (w : World) :
    Calls Tryd.prog 84 #[] w fun e w' => e = .returned (.tuple #[.agg (clsA sgx), .agg (clsA blx)]) ∧ Below w.heap.size w w' := by
  have HB := BelowH.refl w
  go_enter Tryd.func84, Tryd.ntmps84
  go_wp2_with (first
    | ((with_reducible refine gate_dst (N := 0) rfl ?_); refine ev_alloc HB rfl (clsA fun _ => false) 111 ?hr ?_; (case hr => rw [← clsA_zero]; go_simp; rfl); intro g0 w1 G_g0 GE_g0 B_g0 HBn K_g0; clear HB; have HB := HBn; clear HBn)
    | ((with_reducible refine gate_dst (N := 1) rfl ?_); refine ev_alloc HB rfl (clsA fun _ => false) 111 ?hr ?_; (case hr => rw [← clsA_zero]; go_simp; rfl); intro g1 w2 G_g1 GE_g1 B_g1 HBn K_g1; clear HB; have HB := HBn; clear HBn))
  have N01 := Aside0.mk (show g0 < g1 by have := B_g0.lt; have := G_g1.out; omega)
  have B0 := (B_g0.below K_g1.out).eqA (low_zero sgx)
  have B1 := B_g1.eqA (low_zero blx)
  clear B_g0 B_g1 K_g0 K_g1 G_g0 G_g1
  go_loopw [3] (fun v3 wr => ∃ x : Nat, v3 = .int .i64 (x : Int) ∧ Aside0 (x ≤ 256) ∧ Blk wr g0 (clsA (lowC sgx x)) 111 ∧ Blk wr g1 (clsA (lowC blx x)) 111 ∧ BelowH w wr) (fun v3 _ => 256 - (intOf v3).toNat)
  case atStart => exact ⟨0, rfl, ⟨Nat.zero_le _⟩, B0, B1, HB⟩
  case round =>
    clear B0 B1 HB
    obtain ⟨x, rfl, HX, B0, B1, HB⟩ := hrel
    by_cases hlt : x < 256
    · have HLT := Aside0.mk hlt
      have h1 : (x : Int) < 256 := by omega
      have h2 : (0 : Int) ≤ (x : Int) := by omega
      have h3 : IntKind.u8.wrap (x : Int) = (x : Int) := u8_wrap hlt
      have hb8 := u8_of hlt
      have KN : Aside0 (∀ w, Calls Tryd.prog 107 #[.int .u8 (x : Int)] w fun e w' => e = .returned (.int .i64 (kindN x)) ∧ Below w.heap.size w w') := ⟨fun w => marks_kindOf.tells x HLT.out w⟩
      obtain ⟨str, hstr⟩ : ∃ str : ByteArray, str = ⟨#[UInt8.ofNat x]⟩ := ⟨_, rfl⟩
      obtain ⟨tx, htx⟩ : ∃ tx : Nat → Bool, tx = fun y => decide (y = x) := ⟨_, rfl⟩
      have OF : Aside0 (∀ w, Calls Tryd.prog 109 #[.string str] w fun e w' => e = .returned (.agg (clsA tx)) ∧ Below w.heap.size w w') := ⟨fun w => by
        rw [hstr, htx]
        have h := block_Of.calls (⟨#[UInt8.ofNat x]⟩ : ByteArray) w (show 1 ≤ 281474976702464 by decide)
        rw [show clsA (inT (⟨#[UInt8.ofNat x]⟩ : ByteArray) (⟨#[UInt8.ofNat x]⟩ : ByteArray).size) = clsA (fun y => decide (y = x)) from clsA_congr fun y _ => one_byte x HLT.out y] at h
        exact h⟩
      have HT := Aside0.mk htx
      have HSTR := Aside0.mk hstr
      have HB8 := Aside0.mk hb8
      clear hlt htx hstr hb8
      obtain ⟨kn, hkn⟩ : ∃ kn, kn = kindN x := ⟨_, rfl⟩
      rw [← hkn] at KN
      have HKN := Aside0.mk hkn
      clear hkn
      by_cases hs : sgx x = true
      · have hk1 : (kn == 1) = true := by rw [HKN.out, kindN_sign hs]; rfl
        have RX := Aside0.mk hs
        have OX := Aside0.mk (blx_of_sgx hs)
        clear hs
        go_upto_region 6 with (first
          | (go_at_call 107; (with_reducible refine (KN.out _).mono ?_); rintro e w4 ⟨rfl, hb4⟩; have B04 := B0.below hb4; have B14 := B1.below hb4; have HB4 := HB.step hb4; clear hb4 B0 B1 HB))
        clear hk1
        have hbd : Aside0 (Below w4.heap.size w4 w4.drew) := ⟨below_drew (Below.refl _ _)⟩
        have B05 := B04.below hbd.out
        have B15 := B14.below hbd.out
        have HB5 := HB4.step hbd.out
        clear B04 B14 HB4 hbd
        refine wp_region_noPanic ?_
        refine wp_region_last_drew (S := fun W' => Blk W' g0 (clsA (lowC sgx x)) 111) (ds := [7]) (by kernel_rfl) B05 (fun hS => ?_)
        refine wpAnyLast_take (i := 0) (oi := Oper.mk _ _ _ _ _ _) rfl (by kernel_rfl) (by kernel_rfl) (by kernel_rfl) (by kernel_rfl) (by kernel_rfl) (fun _ _ _ h => h) (rg_load (by rfl) (fun _ hS => hS) 111 _ rfl rfl Tryd.underlying111 rfl (sizeC' _)) hS ?_
        try simp only [Act.put, List.setIfInBounds_toArray, List.set_cons_zero, List.set_cons_succ]
        refine' wpAnyLast_take (i := 1) (oi := Oper.mk _ _ _ _ _ _) rfl (by kernel_rfl) (by kernel_rfl) (by kernel_rfl) (by kernel_rfl) (by kernel_rfl) (fun _ _ _ h => h) (Or.inl ⟨by rfl, ?hy1⟩) hS ?rest1
        case hy1 => (intro w hSw; (try dsimp only at hSw); first | (go_simp; done) | (go_simp; with_reducible rfl))
        try simp only [Act.put, List.setIfInBounds_toArray, List.set_cons_zero, List.set_cons_succ]
        refine' wpAnyLast_take (i := 2) (oi := Oper.mk _ _ _ _ _ _) rfl (by kernel_rfl) (by kernel_rfl) (by kernel_rfl) (by kernel_rfl) (by kernel_rfl) (fun _ _ _ h => h) (Or.inl ⟨by rfl, ?hy2⟩) hS ?rest2
        case hy2 => (intro w hSw; (try dsimp only at hSw); first | (go_simp; done) | (go_simp; with_reducible rfl))
        try simp only [Act.put, List.setIfInBounds_toArray, List.set_cons_zero, List.set_cons_succ]
        refine wpAnyLast_ready (rs := [3]) (by kernel_rfl) (by simp) ?_
        refine AllReadyL.cons (o := Oper.mk _ _ _ _ _ _) rfl (by decide) (fun K hK => ?_) ?_
        · refine rg_lit HB5 (by rfl) (.int .u8 (x : Int)) 5 (by first | (go_simp; done) | (go_simp; rfl)) ?_
          intro gN w6 sN HB6 hb
          have B06 := B05.below hb.out
          have B16 := B15.below hb.out
          have sN6 := sN.eqA (show (#[Value.int .u8 (x : Int)] : Array Value) = #[.int .u8 (((UInt8.ofNat x).toNat : Nat) : Int)] by rw [HB8.out])
          refine hK.out _ _ B06 (fun hS => ?_)
          clear hK K sN hb B05 B15 HB5
          try simp only [Act.put, List.setIfInBounds_toArray, List.set_cons_zero, List.set_cons_succ]
          refine wpAnyLast_ready (rs := [4]) (by kernel_rfl) (by simp) ?_
          refine AllReadyL.cons (o := Oper.mk _ _ _ _ _ _) rfl (by decide) (fun K hK => ?_) ?_
          · refine rg_str1 (by rfl) sN6 37 9 5 _ rfl rfl Tryd.underlying37 Tryd.underlying5 Tryd.underlying9 ?_
            rw [← HSTR.out]
            refine hK.out _ _ hS (fun hS => ?_)
            clear hK K sN6
            try simp only [Act.put, List.setIfInBounds_toArray, List.set_cons_zero, List.set_cons_succ]
            refine wpAnyLast_ready (rs := [5]) (by kernel_rfl) (by simp) ?_
            refine AllReadyL.cons (o := Oper.mk _ _ _ _ _ _) rfl (by decide) (fun K hK => ?_) ?_
            · refine rg_call (by rfl) _ _ (.agg (clsA tx)) (by first | (go_simp; done) | (go_simp; rfl)) (OF.out _) ?_
              intro W' hb
              have B07 := B06.below hb.out
              have B17 := B16.below hb.out
              have HB7 := HB6.step hb.out
              clear B06 B16 HB6
              refine hK.out _ _ B07 (fun hS => ?_)
              clear hK K
              try simp only [Act.put, List.setIfInBounds_toArray, List.set_cons_zero, List.set_cons_succ]
              refine wpAnyLast_ready (rs := [6]) (by kernel_rfl) (by simp) ?_
              refine AllReadyL.cons (o := Oper.mk _ _ _ _ _ _) rfl (by decide) (fun K hK => ?_) ?_
              · refine rg_call (by rfl) _ _ (.agg (clsA (joinC (lowC sgx x) tx))) (by first | (go_simp; done) | (go_simp; rfl)) (block_Join.calls (lowC sgx x) tx _) ?_
                intro W' hb
                have B08 := B07.below hb.out
                have B18 := B17.below hb.out
                have HB8' := HB7.step hb.out
                clear B07 B17 HB7
                refine hK.out _ _ B08 (fun hS => ?_)
                clear hK K
                try simp only [Act.put, List.setIfInBounds_toArray, List.set_cons_zero, List.set_cons_succ]
                refine wpAnyLast_ready (rs := [7]) (by kernel_rfl) (by simp) ?_
                refine AllReadyL.cons_last (o := Oper.mk _ _ _ _ _ _) rfl (by decide) (fun K hK => ?_) ?_
                · refine rg_store HB8' (by rfl) B08 GE_g0 111 _ _ rfl rfl rfl (sizeC' _) (by rw [clsA_size, clsA_size]) (clsA_one _) ?_
                  intro w9 B9 HB9 K9
                  have BO := B18.other K9 (Nat.ne_of_gt N01.out)
                  refine hK.out _ _ ?_
                  clear hK K
                  try simp only [Act.put, List.setIfInBounds_toArray, List.set_cons_zero, List.set_cons_succ]
                  refine wpAnyLast_done (by kernel_rfl) ?_ _
                  refine NoPanic.normal ?_
                  go_wp2
                  go_roundw
                  case rel => exact ⟨x + 1, by go_num, ⟨by have := HLT.out; omega⟩, B9.eqA (by rw [HT.out]; exact low_put sgx RX.out), BO.eqA (low_skip blx OX.out), HB9⟩
                  case measure => (simp [intOf]; have := HLT.out; omega)
                exact AllReadyL.nil
              exact AllReadyL.nil
            exact AllReadyL.nil
          exact AllReadyL.nil
        exact AllReadyL.nil
      · have hs0 : sgx x = false := by simpa using hs
        have hk1 : (kn == 1) = false := by rw [HKN.out]; exact kindN_not_sign hs0
        have OX := Aside0.mk hs0
        clear hs hs0
        by_cases hb : blx x = true
        · have hk2 : (kn == 2) = true := by rw [HKN.out, kindN_blank OX.out hb]; rfl
          have RX := Aside0.mk hb
          clear hb
          go_upto_region 8 with (first
          | (go_at_call 107; (with_reducible refine (KN.out _).mono ?_); rintro e w4 ⟨rfl, hb4⟩; have B04 := B0.below hb4; have B14 := B1.below hb4; have HB4 := HB.step hb4; clear hb4 B0 B1 HB))
          clear hk1 hk2
          have hbd : Aside0 (Below w4.heap.size w4 w4.drew) := ⟨below_drew (Below.refl _ _)⟩
          have B05 := B04.below hbd.out
          have B15 := B14.below hbd.out
          have HB5 := HB4.step hbd.out
          clear B04 B14 HB4 hbd
          refine wp_region_noPanic ?_
          refine wp_region_last_drew (S := fun W' => Blk W' g1 (clsA (lowC blx x)) 111) (ds := [7]) (by kernel_rfl) B15 (fun hS => ?_)
          refine wpAnyLast_take (i := 0) (oi := Oper.mk _ _ _ _ _ _) rfl (by kernel_rfl) (by kernel_rfl) (by kernel_rfl) (by kernel_rfl) (by kernel_rfl) (fun _ _ _ h => h) (rg_load (by rfl) (fun _ hS => hS) 111 _ rfl rfl Tryd.underlying111 rfl (sizeC' _)) hS ?_
          try simp only [Act.put, List.setIfInBounds_toArray, List.set_cons_zero, List.set_cons_succ]
          refine' wpAnyLast_take (i := 1) (oi := Oper.mk _ _ _ _ _ _) rfl (by kernel_rfl) (by kernel_rfl) (by kernel_rfl) (by kernel_rfl) (by kernel_rfl) (fun _ _ _ h => h) (Or.inl ⟨by rfl, ?hy3⟩) hS ?rest3
          case hy3 => (intro w hSw; (try dsimp only at hSw); first | (go_simp; done) | (go_simp; with_reducible rfl))
          try simp only [Act.put, List.setIfInBounds_toArray, List.set_cons_zero, List.set_cons_succ]
          refine' wpAnyLast_take (i := 2) (oi := Oper.mk _ _ _ _ _ _) rfl (by kernel_rfl) (by kernel_rfl) (by kernel_rfl) (by kernel_rfl) (by kernel_rfl) (fun _ _ _ h => h) (Or.inl ⟨by rfl, ?hy4⟩) hS ?rest4
          case hy4 => (intro w hSw; (try dsimp only at hSw); first | (go_simp; done) | (go_simp; with_reducible rfl))
          try simp only [Act.put, List.setIfInBounds_toArray, List.set_cons_zero, List.set_cons_succ]
          refine wpAnyLast_ready (rs := [3]) (by kernel_rfl) (by simp) ?_
          refine AllReadyL.cons (o := Oper.mk _ _ _ _ _ _) rfl (by decide) (fun K hK => ?_) ?_
          · refine rg_lit HB5 (by rfl) (.int .u8 (x : Int)) 5 (by first | (go_simp; done) | (go_simp; rfl)) ?_
            intro gN w6 sN HB6 hb
            have B06 := B05.below hb.out
            have B16 := B15.below hb.out
            have sN6 := sN.eqA (show (#[Value.int .u8 (x : Int)] : Array Value) = #[.int .u8 (((UInt8.ofNat x).toNat : Nat) : Int)] by rw [HB8.out])
            refine hK.out _ _ B16 (fun hS => ?_)
            clear hK K sN hb B05 B15 HB5
            try simp only [Act.put, List.setIfInBounds_toArray, List.set_cons_zero, List.set_cons_succ]
            refine wpAnyLast_ready (rs := [4]) (by kernel_rfl) (by simp) ?_
            refine AllReadyL.cons (o := Oper.mk _ _ _ _ _ _) rfl (by decide) (fun K hK => ?_) ?_
            · refine rg_str1 (by rfl) sN6 37 9 5 _ rfl rfl Tryd.underlying37 Tryd.underlying5 Tryd.underlying9 ?_
              rw [← HSTR.out]
              refine hK.out _ _ hS (fun hS => ?_)
              clear hK K sN6
              try simp only [Act.put, List.setIfInBounds_toArray, List.set_cons_zero, List.set_cons_succ]
              refine wpAnyLast_ready (rs := [5]) (by kernel_rfl) (by simp) ?_
              refine AllReadyL.cons (o := Oper.mk _ _ _ _ _ _) rfl (by decide) (fun K hK => ?_) ?_
              · refine rg_call (by rfl) _ _ (.agg (clsA tx)) (by first | (go_simp; done) | (go_simp; rfl)) (OF.out _) ?_
                intro W' hb
                have B07 := B06.below hb.out
                have B17 := B16.below hb.out
                have HB7 := HB6.step hb.out
                clear B06 B16 HB6
                refine hK.out _ _ B17 (fun hS => ?_)
                clear hK K
                try simp only [Act.put, List.setIfInBounds_toArray, List.set_cons_zero, List.set_cons_succ]
                refine wpAnyLast_ready (rs := [6]) (by kernel_rfl) (by simp) ?_
                refine AllReadyL.cons (o := Oper.mk _ _ _ _ _ _) rfl (by decide) (fun K hK => ?_) ?_
                · refine rg_call (by rfl) _ _ (.agg (clsA (joinC (lowC blx x) tx))) (by first | (go_simp; done) | (go_simp; rfl)) (block_Join.calls (lowC blx x) tx _) ?_
                  intro W' hb
                  have B08 := B07.below hb.out
                  have B18 := B17.below hb.out
                  have HB8' := HB7.step hb.out
                  clear B07 B17 HB7
                  refine hK.out _ _ B18 (fun hS => ?_)
                  clear hK K
                  try simp only [Act.put, List.setIfInBounds_toArray, List.set_cons_zero, List.set_cons_succ]
                  refine wpAnyLast_ready (rs := [7]) (by kernel_rfl) (by simp) ?_
                  refine AllReadyL.cons_last (o := Oper.mk _ _ _ _ _ _) rfl (by decide) (fun K hK => ?_) ?_
                  · refine rg_store HB8' (by rfl) B18 GE_g1 111 _ _ rfl rfl rfl (sizeC' _) (by rw [clsA_size, clsA_size]) (clsA_one _) ?_
                    intro w9 B9 HB9 K9
                    have BO := B08.other K9 (Nat.ne_of_lt N01.out)
                    refine hK.out _ _ ?_
                    clear hK K
                    try simp only [Act.put, List.setIfInBounds_toArray, List.set_cons_zero, List.set_cons_succ]
                    refine wpAnyLast_done (by kernel_rfl) ?_ _
                    refine NoPanic.normal ?_
                    go_wp2
                    go_roundw
                    case rel => exact ⟨x + 1, by go_num, ⟨by have := HLT.out; omega⟩, BO.eqA (low_skip sgx OX.out), B9.eqA (by rw [HT.out]; exact low_put blx RX.out), HB9⟩
                    case measure => (simp [intOf]; have := HLT.out; omega)
                  exact AllReadyL.nil
                exact AllReadyL.nil
              exact AllReadyL.nil
            exact AllReadyL.nil
          exact AllReadyL.nil
        · have hb0 : blx x = false := by simpa using hb
          have hk2 : (kn == 2) = false := by rw [HKN.out]; exact kindN_not_blank OX.out hb0
          have PX := Aside0.mk hb0
          clear hb hb0
          go_wp2_with (first
          | (go_at_call 107; (with_reducible refine (KN.out _).mono ?_); rintro e w4 ⟨rfl, hb4⟩; have B04 := B0.below hb4; have B14 := B1.below hb4; have HB4 := HB.step hb4; clear hb4 B0 B1 HB))
          go_roundw
          case rel => exact ⟨x + 1, by go_num, ⟨by have := HLT.out; omega⟩, B04.eqA (low_skip sgx OX.out), B14.eqA (low_skip blx PX.out), HB4⟩
          case measure => (simp [intOf]; have := HLT.out; omega)
    · obtain rfl : x = 256 := by have := HX.out; omega
      clear hlt
      have C0 := B0.eqA (low_end sgx)
      have C1 := B1.eqA (low_end blx)
      have hbd : Aside0 (Below wr.heap.size wr wr.drew) := ⟨below_drew (Below.refl _ _)⟩
      have D0 := C0.below hbd.out
      have D1 := C1.below hbd.out
      have HB5 := HB.step hbd.out
      clear B0 B1 HB hbd
      go_upto_region 10 with (fail)
      refine wp_region_noPanic ?_
      refine wp_region_last_drew (S := fun W' => Blk W' g0 (clsA sgx) 111 ∧ Blk W' g1 (clsA blx) 111) (ds := []) (by kernel_rfl) ⟨D0, D1⟩ (fun hS => ?_)
      refine wpAnyLast_take (i := 0) (oi := Oper.mk _ _ _ _ _ _) rfl (by kernel_rfl) (by kernel_rfl) (by kernel_rfl) (by kernel_rfl) (by kernel_rfl) (fun _ _ _ h => h) (rg_load (by rfl) (fun _ hS => hS.1) 111 _ rfl rfl Tryd.underlying111 rfl (sizeC' _)) hS ?_
      try simp only [Act.put, List.setIfInBounds_toArray, List.set_cons_zero, List.set_cons_succ]
      refine wpAnyLast_take (i := 1) (oi := Oper.mk _ _ _ _ _ _) rfl (by kernel_rfl) (by kernel_rfl) (by kernel_rfl) (by kernel_rfl) (by kernel_rfl) (fun _ _ _ h => h) (rg_load (by rfl) (fun _ hS => hS.2) 111 _ rfl rfl Tryd.underlying111 rfl (sizeC' _)) hS ?_
      try simp only [Act.put, List.setIfInBounds_toArray, List.set_cons_zero, List.set_cons_succ]
      refine wpAnyLast_ready (rs := [2]) (by kernel_rfl) (by simp) ?_
      refine AllReadyL.cons (o := Oper.mk _ _ _ _ _ _) rfl (by decide) (fun K hK => ?_) ?_
      · refine rg_store HB5 (by rfl) D0 GE_g0 111 _ _ rfl rfl rfl (sizeC' _) (by simp only [clsA_size]) (clsA_one _) ?_
        intro w6 E0 HB6 K2
        have E1 := D1.other K2 (Nat.ne_of_gt N01.out)
        refine hK.out _ _ ⟨E0, E1⟩ (fun hS => ?_)
        clear hK K
        try simp only [Act.put, List.setIfInBounds_toArray, List.set_cons_zero, List.set_cons_succ]
        refine wpAnyLast_ready (rs := [3]) (by kernel_rfl) (by simp) ?_
        refine AllReadyL.cons (o := Oper.mk _ _ _ _ _ _) rfl (by decide) (fun K hK => ?_) ?_
        · refine rg_store HB6 (by rfl) E1 GE_g1 111 _ _ rfl rfl rfl (sizeC' _) (by simp only [clsA_size]) (clsA_one _) ?_
          intro w7 F1 HB7 K3
          have F0 := E0.other K3 (Nat.ne_of_lt N01.out)
          refine hK.out _ _ ⟨F0, F1⟩ (fun hS => ?_)
          clear hK K
          try simp only [Act.put, List.setIfInBounds_toArray, List.set_cons_zero, List.set_cons_succ]
          refine wpAnyLast_done (by kernel_rfl) ?_ _
          refine NoPanic.normal ?_
          go_wp2
          exact bodyPost_ret (results_cells2 rfl _ _ g0 g1 111 _ _ _ rfl rfl F0 F1 Tryd.underlying111 rfl (sizeC' _) (sizeC' _)) rfl ⟨rfl, HB7.out⟩
        exact AllReadyL.nil
      exact AllReadyL.nil
end


open Go.Proofs.YtgddljealeklkaaDoorQ Go.Proofs.YtgddljealeklkaaDoorM in
set_option maxHeartbeats 400000 in
set_option maxRecDepth 100000 in
theorem block_Mask.calls (f : Nat → Int) (hf : ∀ i, 0 ≤ f i ∧ f i < 256) (p : Nat → Bool) (w : World) :
    Calls Tryd.prog 85 #[.agg (blkA f), .agg (clsA p)] w fun e w' => e = .returned (.int .u64 (iv (word fun j => p (f j).toNat))) ∧ Below w.heap.size w w' := by
  have HB := BelowH.refl w
  have HF := Aside0.mk fun i => hf i
  clear hf
  go_enter Tryd.func85, Tryd.ntmps85
  go_upto_region 1 with (first
    | ((with_reducible refine gate_dst (N := 2) rfl ?_); refine ev_alloc HB rfl (blkA f) 85 ?hr ?_; (case hr => first | (go_simp; done) | (go_simp; rfl)); intro g0 w1 G_g0 GE_g0 B_g0 HBn K_g0; clear HB; have HB := HBn; clear HBn)
    | ((with_reducible refine gate_dst (N := 3) rfl ?_); refine ev_alloc HB rfl (clsA (p)) 111 ?hr ?_; (case hr => first | (go_simp; done) | (go_simp; rfl)); intro g1 w2 G_g1 GE_g1 B_g1 HBn K_g1; clear HB; have HB := HBn; clear HBn))
  obtain ⟨bz, hbz⟩ : ∃ bz, bz = ((List.range 4).all fun j => iv (clsW p j) == 0) := ⟨_, rfl⟩
  have EQ : ∀ (W : World), (Op.equalIn 10000 109 (.agg (clsA p)) (.agg #[.int .u64 0, .int .u64 0, .int .u64 0, .int .u64 0])).run Tryd.prog W = .ok bz W := by
    intro W
    rw [hbz]
    exact run_eqArr (P := Tryd.prog) Tryd.underlying109 (by kernel_rfl) (by kernel_rfl) Tryd.underlying75 (fun j => iv (clsW p j)) (fun _ => 0) (fun j hj => clsA_get _ hj) (fun j hj => by
      have : ∀ j : Fin 4, (#[.int .u64 0, .int .u64 0, .int .u64 0, .int .u64 0] : Array Value)[j.val]? = some (.int .u64 0) := by
        intro j
        match j with
        | 0 => rfl
        | 1 => rfl
        | 2 => rfl
        | 3 => rfl
      exact this ⟨j, hj⟩) 9998 W
  cases bz with
  | true =>
    have HN := Aside0.mk (cls_none hbz.symm)
    clear hbz
    go_wp2_with (first
      | ((with_reducible refine gate_dst (N := 9) rfl ?_); refine ev_loadS B_g1 rfl 109 _ rfl rfl Tryd.underlying109 rfl (size4' _) ?_))
    go_ret
    exact ⟨by rw [word_none fun i _ => HN.out _ (by have := HF.out i; omega)]; rfl, HB.out⟩
  | false =>
    clear hbz
    go_upto_region 3 with (first
      | ((with_reducible refine gate_dst (N := 9) rfl ?_); refine ev_loadS B_g1 rfl 109 _ rfl rfl Tryd.underlying109 rfl (size4' _) ?_))
    clear EQ
    go_wp2_with (first
      | ((with_reducible refine gate_dst (N := 12) rfl ?_); refine ev_loadS (B_g0.below K_g1.out) rfl 85 _ rfl rfl Tryd.underlying85 rfl (size64' _) ?_))
    go_loopw [5, 13] (fun v5 v13 wr => ∃ i : Nat, i ≤ 64 ∧ v13 = .int .i64 i ∧ v5 = .int .u64 (iv (word fun j => decide (j < i) && p (f j).toNat)) ∧ Blk wr g1 (clsA p) 111 ∧ BelowH w wr) (fun _ v13 _ => 64 - (intOf v13).toNat)
    case atStart => exact ⟨0, by omega, rfl, by rw [word_none]; simp, B_g1, HB⟩
    case round =>
      clear B_g0 B_g1 HB
      obtain ⟨i, hi, rfl, rfl, B1, HB⟩ := hrel
      by_cases hlt : i < 64
      · obtain ⟨x, hx⟩ : ∃ x : Nat, f i = (x : Int) := ⟨(f i).toNat, by have := HF.out i; omega⟩
        have hx6 : x < 256 := by have := HF.out i; omega
        obtain ⟨k, hk⟩ : ∃ k : Nat, k = x / 64 := ⟨_, rfl⟩
        obtain ⟨m, hm⟩ : ∃ m : Nat, m = x % 64 := ⟨_, rfl⟩
        have hk1 : (x : Int) / 64 = (k : Int) := by omega
        have hk4 : (k : Int) < 4 := by omega
        have hm1 : bits .and .u8 (x : Int) 63 = (m : Int) := by rw [bits_and_u8_63 _ hx6, hm]
        have hm4 : (m : Int) < 64 := by omega
        have hc := B1.cell (clsA_get p (show k < 4 by omega))
        have hfi := blkA_get f hlt
        rw [hx] at hfi
        have IX : ∀ W : World, (Instr.index 85 (.agg (blkA f)) (.int .i64 (i : Int))).run Tryd.prog W = .ok (.int .u8 (x : Int)) W := fun W => run_index_arr (P := Tryd.prog) Tryd.underlying85 (by kernel_rfl) (by kernel_rfl) (by kernel_rfl) hlt hfi .i64 W
        have ST := Aside0.mk (mask_step_at p f hx hk hm hlt)
        have KI := Aside0.mk hlt
        have h1 : (i : Int) < 64 := by omega
        clear hx hx6 hk hm hlt hfi hi
        go_wp2
        go_roundw
        case rel => exact ⟨i + 1, by have := KI.out; omega, by go_num, by rw [ST.out], B1, HB⟩
        case measure =>
          simp [intOf]
          have := KI.out
          omega
      · obtain rfl : i = 64 := by omega
        go_wp2
        go_ret
        exact ⟨by rw [word_done]; rfl, HB.out⟩


end Go.Proofs.YtgddljealeklkaaDoor.PL
end
-- PLx3
section
namespace Go.Proofs.YtgddljealeklkaaDoor.PL
open Go.RowKit Go.Proofs.YtgddljealeklkaaDoorW.PrintWords Go.Proofs.YtgddljealeklkaaDoorW.PrintLast Go.Proofs.YtgddljealeklkaaDoorW.PrintMore
attribute [local go_sem] max2_int min2_int max_two min_two max_three min_three max_four min_four   -- for this text's walks alone
set_option linter.unusedVariables false
set_option linter.unusedSimpArgs false

section
open Go.Proofs.YtgddljealeklkaaDoorQ Go.Proofs.YtgddljealeklkaaDoorM Go.Shelf
attribute [local go_sem] Oper.semAt_some
/-- Between two blocks. -/
structure LookI (s : ByteArray) (nw : Nat) (w : World) (L : List (Nat × Array Value × Nat)) (m g7 : Nat) (v1 v2 : Value) {n : Nat} (pre : List (Fin n)) (W : World) : Prop where mk ::
  bs : Blks L W
  r1 : W.ownsRow w.heap.size 75 1 v1 nw ((wordsOf s.size (mkq s)).map (Value.int .u64))
  r2 : W.ownsRow w.heap.size 75 1 v2 nw ((wordsOf s.size (insS s)).map (Value.int .u64))
  out : ∃ v, Blk W g7 #[v] 73 ∧ W.ownsRow w.heap.size 77 4 v pre.length (flatR s pre)
  hb : BelowH w W
  sz : m ≤ W.heap.size
section
variable {s : ByteArray} {nw : Nat} {w W W' : World} {L : List (Nat × Array Value × Nat)} {m g7 : Nat} {v1 v2 : Value} {n : Nat} {pre : List (Fin n)}
theorem LookI.kept (h : LookI s nw w L m g7 v1 v2 pre W) {B : Nat} (hB : w.heap.size ≤ B) {row : Option Nat} (hg : W.grownBy W' row) (hr : ∀ r, row = some r → B ≤ r ∧ ∃ o : Obj, W.heap[r]? = some o ∧ o.isCells = false) : LookI s nw w L m g7 v1 v2 pre W' := by
  have hr' : ∀ r, row = some r → ∃ o : Obj, W.heap[r]? = some o ∧ o.isCells = false := fun r e => (hr r e).2
  obtain ⟨v, b, ho⟩ := h.out
  exact ⟨h.bs.kept hg hr', row_kept h.r1 hg hr', row_kept h.r2 hg hr', ⟨v, b.kept hg hr', row_kept ho hg hr'⟩, h.hb.kept hg hB (fun r e => (hr r e).1), Nat.le_trans h.sz hg.size⟩
theorem LookI.below (h : LookI s nw w L m g7 v1 v2 pre W) (hb : Below W.heap.size W W') : LookI s nw w L m g7 v1 v2 pre W' := by
  obtain ⟨v, b, ho⟩ := h.out
  exact ⟨h.bs.below hb, row_below h.r1 hb, row_below h.r2 hb, ⟨v, b.below hb, row_below ho hb⟩, h.hb.step hb, Nat.le_trans h.sz hb.size⟩
/-- A store into another block. -/
theorem LookI.other (h : LookI s nw w L m g7 v1 v2 pre W) {g : Nat} {cs : Array Value} {t : Nat} (B : Blk W g cs t) (h1 : t ≠ 75) (h2 : t ≠ 77) (h3 : ∀ b ∈ L, b.1 ≠ g) (h4 : g7 ≠ g) (hb : BelowH w W') (K : Aside0 (W.heap.size ≤ W'.heap.size ∧ ∀ k, k ≠ g → W'.heap[k]? = W.heap[k]?)) : LookI s nw w L m g7 v1 v2 pre W' := by
  obtain ⟨v, b, ho⟩ := h.out
  exact ⟨h.bs.other K h3, row_other h.r1 B h1 K, row_other h.r2 B h1 K, ⟨v, b.other K h4, row_other ho B h2 K⟩, hb, Nat.le_trans h.sz K.out.1⟩
end
/-- The words of a text, block by block. -/
def rowS (s : ByteArray) (k : Nat) : S77 := ⟨iv (wordAt s.size (sgq s) k), iv (wordAt s.size (blq s) k), iv (wordAt s.size (opq s) k), iv (wordAt s.size (wdq s) k)⟩
def lookL (s : ByteArray) : List S77 := (List.range (nwords s.size)).map (rowS s)
def marks_look.f (a0 : ByteArray) : Option (List S77) := if a0.size ≤ 281474976702464 then some (lookL a0) else none
theorem lookL_reps {s : ByteArray} {R : S77 → List Value → Prop} (h : ∀ k, R (rowS s k) (rowN s k)) : ∀ n, Reps R 4 ((List.range n).map (rowS s)) ((List.range n).flatMap (rowN s))
  | 0 => Reps.none _ _
  | n + 1 => by
    rw [List.range_succ, List.map_append, List.flatMap_append]
    simpa using (lookL_reps h n).snoc (h n) rfl
set_option maxHeartbeats 4000000 in
set_option maxRecDepth 100000 in
theorem marks_look.walk (s : ByteArray) (w : World) (hs : s.size ≤ 281474976702464) :
    Calls Tryd.prog 50 #[.string s] w fun e w' => ∃ v : Value, e = .returned v ∧ w'.ownsRow w.heap.size 77 4 v (nwords s.size) ((List.range (nwords s.size)).flatMap (rowN s)) ∧ Below w.heap.size w w' := by
  obtain ⟨F, hF⟩ : ∃ F, F = Fence.wide := ⟨_, rfl⟩
  have HF := Aside0.mk hF
  refine (callsIn_wide (n := 9)).1 ?_
  rw [← hF]
  clear hF
  have hro := wide_round HF
  have HB := BelowH.refl w
  have f1 := wide_fn HF 55
  have f2 := wide_fn HF 92
  have f3 := wide_fn HF 85
  have f4 := wide_fn HF 18
  have f5 := wide_fn HF 19
  have f6 := wide_fn HF 84
  have HS := Aside0.mk hs
  obtain ⟨nw, hnw⟩ : ∃ nw, nw = nwords s.size := ⟨_, rfl⟩
  have HNW := Aside0.mk hnw
  have hnw1 : (nw : Int) ≤ 4398046511104 := by rw [hnw]; unfold nwords; omega
  clear hs hnw
  refine callsIn_of_wp_marks Tryd.func50 rfl (wide_fn HF _) ?_ hro
  simp only [Tryd.ntmps50, List.size_toArray, List.length_cons, List.length_nil, Nat.reduceAdd, Nat.reduceSub, Array.replicate_succ, Array.replicate_zero, List.push_toArray, List.append_toArray, List.nil_append, List.cons_append]
  gi_upto_region 1 with (first
    | ((with_reducible refine gate_dstIn (N := 1) rfl ?_); refine ev_allocIn HB rfl rfl (#[.string s]) 9 ?hr ?_; (case hr => first | (go_simp; done) | (go_simp; rfl)); intro g1 w1 G_g1 GE_g1 B_g1 HBn K_g1 KO_w1; clear HB; have HB := HBn; clear HBn))
  gi_cut [3, 4] from 16 (fun v3 v4 wx => ∃ (g3 g4 c1 c2 : Nat) (A1 A2 : Option Addr), v3 = .pointer (some ⟨g3, 0, none⟩) ∧ v4 = .pointer (some ⟨g4, 0, none⟩) ∧ Aside0 (w.heap.size ≤ g3) ∧ Aside0 (w.heap.size ≤ g4) ∧ Aside0 (g1 < g3 ∧ g1 < g4 ∧ g3 ≠ g4) ∧
    Blk wx g1 #[.string s] 9 ∧ Blk wx g3 #[.int .i64 s.size, .slice A1 nw c1] 34 ∧ Blk wx g4 #[.int .i64 s.size, .slice A2 nw c2] 34 ∧
    Aside0 (wx.ownsRow w.heap.size 75 1 (.slice A1 nw c1) nw ((wordsOf s.size (mkq s)).map (Value.int .u64))) ∧ Aside0 (wx.ownsRow w.heap.size 75 1 (.slice A2 nw c2) nw ((wordsOf s.size (insS s)).map (Value.int .u64))) ∧ BelowH w wx)
  case first =>
    have E := B_g1.below (below_drew (Below.refl _ _))
    have HB5 := HB.step (below_drew (Below.refl _ _))
    clear HB
    have HB := HB5
    clear HB5
    have L1 := Aside0.mk (And.intro B_g1.lt K_g1.out.size)
    clear B_g1 K_g1 G_g1 KO_w1
    have HZ := Aside0.mk (show w1.heap.size ≤ w1.drew.heap.size from Nat.le_refl _)
    refine wpIn_region_last_wide HF (S := fun W' => Blk W' g1 #[.string s] 9) (ds := [6, 7]) (by kernel_rfl) E (fun hS => ?_)
    refine wpAnyLast_take (i := 0) (oi := Oper.mk _ _ _ _ _ _) rfl (by kernel_rfl) (by kernel_rfl) (by kernel_rfl) (by kernel_rfl) (by kernel_rfl) (fun _ _ _ h => h) (rg_load1 (by rfl) (fun _ hS => hS.cell (i := 0) rfl) 9 _ rfl rfl (fun _ => by simp [isAgg, run_underlying Tryd.underlying9])) hS ?_
    try simp only [Act.put, List.setIfInBounds_toArray, List.set_cons_zero, List.set_cons_succ]
    refine wpAnyLast_take (i := 2) (oi := Oper.mk _ _ _ _ _ _) rfl (by kernel_rfl) (by kernel_rfl) (by kernel_rfl) (by kernel_rfl) (by kernel_rfl) (fun _ _ _ h => h) (rg_load1 (by rfl) (fun _ hS => hS.cell (i := 0) rfl) 9 _ rfl rfl (fun _ => by simp [isAgg, run_underlying Tryd.underlying9])) hS ?_
    try simp only [Act.put, List.setIfInBounds_toArray, List.set_cons_zero, List.set_cons_succ]
    refine wpAnyLast_ready (rs := [1, 4, 5]) (by kernel_rfl) (by simp) ?_
    refine AllReadyL.cons (o := Oper.mk _ _ _ _ _ _) rfl (by decide) (fun K hK => ?_) ?_
    · refine call_ 18 #[.string s] (by rfl) rfl (by first | (go_simp; done) | (go_simp; rfl)) ((quotes_Marks.walk s _ HS.out).mono ?_)
      rintro e W' ⟨v, rfl, hrow, hb'⟩
      obtain ⟨A1, c1, rfl⟩ := own_slice hrow
      rw [← HNW.out] at hrow ⊢
      have hb := Aside0.mk hb'
      have RM := Aside0.mk (row_mono hrow HB.le)
      have V1 := Aside0.mk (row_one hrow)
      clear hrow hb'
      replace E := E.below hb.out
      replace HB := HB.step hb.out
      replace HZ := Aside0.mk (Nat.le_trans HZ.out hb.out.size)
      refine ⟨_, rfl, ?_⟩
      refine hK.out _ _ E (fun hS => ?_)
      clear hK K hb
      try simp only [Act.put, List.setIfInBounds_toArray, List.set_cons_zero, List.set_cons_succ]
      refine wpAnyLast_ready (rs := [3, 4, 5]) (by kernel_rfl) (by simp) ?_
      refine AllReadyL.cons (o := Oper.mk _ _ _ _ _ _) rfl (by decide) (fun K hK => ?_) ?_
      · refine call_ 19 #[.string s] (by rfl) rfl (by first | (go_simp; done) | (go_simp; rfl)) ((quotes_Inside.walk s _ HS.out).mono ?_)
        rintro e W' ⟨v, rfl, hrow, hb'⟩
        obtain ⟨A2, c2, rfl⟩ := own_slice hrow
        rw [← HNW.out] at hrow ⊢
        have hb := Aside0.mk hb'
        have RI := Aside0.mk (row_mono hrow HB.le)
        have V2 := Aside0.mk (row_one hrow)
        clear hrow hb'
        replace E := E.below hb.out
        replace HB := HB.step hb.out
        replace HZ := Aside0.mk (Nat.le_trans HZ.out hb.out.size)
        replace RM := Aside0.mk (row_below RM.out hb.out)
        refine ⟨_, rfl, ?_⟩
        refine hK.out _ _ E (fun hS => ?_)
        clear hK K hb
        try simp only [Act.put, List.setIfInBounds_toArray, List.set_cons_zero, List.set_cons_succ]
        refine wpAnyLast_ready (rs := [4, 5]) (by kernel_rfl) (by simp) ?_
        refine AllReadyL.cons (o := Oper.mk _ _ _ _ _ _) rfl (by decide) (fun K hK => ?_) ?_
        · refine rg_alloc HB (by rfl) (#[.int .i64 0, .slice none 0 0]) 34 (by first | (go_simp; done) | (go_simp; rfl)) ?_
          intro g3 W' G3 GE_g3 B3 HBn hb
          have N1g3 := Aside0.mk (show g1 < g3 by have := L1.out.1; have := HZ.out; have := G3.out; omega)
          clear HBn
          replace E := E.below hb.out
          replace HB := HB.step hb.out
          replace HZ := Aside0.mk (Nat.le_trans HZ.out hb.out.size)
          replace RM := Aside0.mk (row_below RM.out hb.out)
          replace RI := Aside0.mk (row_below RI.out hb.out)
          refine hK.out _ _ E (fun hS => ?_)
          clear hK K hb G3
          try simp only [Act.put, List.setIfInBounds_toArray, List.set_cons_zero, List.set_cons_succ]
          refine wpAnyLast_ready (rs := [5]) (by kernel_rfl) (by simp) ?_
          refine AllReadyL.cons (o := Oper.mk _ _ _ _ _ _) rfl (by decide) (fun K hK => ?_) ?_
          · refine rg_alloc HB (by rfl) (#[.int .i64 0, .slice none 0 0]) 34 (by first | (go_simp; done) | (go_simp; rfl)) ?_
            intro g4 W' G4 GE_g4 B4 HBn hb
            have N1g4 := Aside0.mk (show g1 < g4 by have := L1.out.1; have := HZ.out; have := G4.out; omega)
            have N34 := Aside0.mk (show g3 ≠ g4 by have := B3.lt; have := G4.out; omega)
            clear HBn
            replace E := E.below hb.out
            replace HB := HB.step hb.out
            replace HZ := Aside0.mk (Nat.le_trans HZ.out hb.out.size)
            replace RM := Aside0.mk (row_below RM.out hb.out)
            replace RI := Aside0.mk (row_below RI.out hb.out)
            replace B3 := B3.below hb.out
            refine hK.out _ _ E (fun hS => ?_)
            clear hK K hb G4
            try simp only [Act.put, List.setIfInBounds_toArray, List.set_cons_zero, List.set_cons_succ]
            refine wpAnyLast_ready (rs := [6]) (by kernel_rfl) (by simp) ?_
            refine AllReadyL.cons_last (o := Oper.mk _ _ _ _ _ _) rfl (by decide) (fun K hK => ?_) ?_
            · refine rg_store HB (by rfl) B3 GE_g3 34 _ _ rfl rfl rfl (by kernel_rfl) rfl (by simp [Value.oneCell']) ?_
              intro w6 B3n HBn K6
              replace E := E.other K6 (Nat.ne_of_lt N1g3.out)
              replace B4 := B4.other K6 (Ne.symm N34.out)
              replace RM := Aside0.mk (row_other RM.out B3 (by decide) K6)
              replace RI := Aside0.mk (row_other RI.out B3 (by decide) K6)
              replace B3 := B3n
              replace HB := HBn
              clear B3n HBn K6 HZ
              have HZ := Aside0.mk (Nat.le_refl 0)
              refine hK.out _ _ ?_
              clear hK K
              try simp only [Act.put, List.setIfInBounds_toArray, List.set_cons_zero, List.set_cons_succ]
              refine wpAnyLast_ready (rs := [7]) (by kernel_rfl) (by simp) ?_
              refine AllReadyL.cons_last (o := Oper.mk _ _ _ _ _ _) rfl (by decide) (fun K hK => ?_) ?_
              · refine rg_store HB (by rfl) B4 GE_g4 34 _ _ rfl rfl rfl (by kernel_rfl) rfl (by simp [Value.oneCell']) ?_
                intro w7 B4n HBn K7
                replace E := E.other K7 (Nat.ne_of_lt N1g4.out)
                replace B3 := B3.other K7 N34.out
                replace RM := Aside0.mk (row_other RM.out B4 (by decide) K7)
                replace RI := Aside0.mk (row_other RI.out B4 (by decide) K7)
                replace B4 := B4n
                replace HB := HBn
                clear B4n HBn K7 HZ
                have HZ := Aside0.mk (Nat.le_refl 0)
                refine hK.out _ _ ?_
                clear hK K
                try simp only [Act.put, List.setIfInBounds_toArray, List.set_cons_zero, List.set_cons_succ]
                refine wpAnyLast_done (by kernel_rfl) ?_ _
                refine NoPanic.normal ?_
                go_step
                go_step
                gi_meet
                case rel => exact ⟨g3, g4, c1, c2, A1, A2, rfl, rfl, GE_g3, GE_g4, ⟨N1g3.out, N1g4.out, N34.out⟩, E, B3, B4, RM, RI, HB⟩
              exact AllReadyL.nil
            exact AllReadyL.nil
          exact AllReadyL.nil
        refine AllReadyL.cons (o := Oper.mk _ _ _ _ _ _) rfl (by decide) (fun K hK => ?_) ?_
        · refine rg_alloc HB (by rfl) (#[.int .i64 0, .slice none 0 0]) 34 (by first | (go_simp; done) | (go_simp; rfl)) ?_
          intro g4 W' G4 GE_g4 B4 HBn hb
          have N1g4 := Aside0.mk (show g1 < g4 by have := L1.out.1; have := HZ.out; have := G4.out; omega)
          clear HBn
          replace E := E.below hb.out
          replace HB := HB.step hb.out
          replace HZ := Aside0.mk (Nat.le_trans HZ.out hb.out.size)
          replace RM := Aside0.mk (row_below RM.out hb.out)
          replace RI := Aside0.mk (row_below RI.out hb.out)
          refine hK.out _ _ E (fun hS => ?_)
          clear hK K hb G4
          try simp only [Act.put, List.setIfInBounds_toArray, List.set_cons_zero, List.set_cons_succ]
          refine wpAnyLast_ready (rs := [4]) (by kernel_rfl) (by simp) ?_
          refine AllReadyL.cons (o := Oper.mk _ _ _ _ _ _) rfl (by decide) (fun K hK => ?_) ?_
          · refine rg_alloc HB (by rfl) (#[.int .i64 0, .slice none 0 0]) 34 (by first | (go_simp; done) | (go_simp; rfl)) ?_
            intro g3 W' G3 GE_g3 B3 HBn hb
            have N1g3 := Aside0.mk (show g1 < g3 by have := L1.out.1; have := HZ.out; have := G3.out; omega)
            have N34 := Aside0.mk (show g3 ≠ g4 by have := B4.lt; have := G3.out; omega)
            clear HBn
            replace E := E.below hb.out
            replace HB := HB.step hb.out
            replace HZ := Aside0.mk (Nat.le_trans HZ.out hb.out.size)
            replace RM := Aside0.mk (row_below RM.out hb.out)
            replace RI := Aside0.mk (row_below RI.out hb.out)
            replace B4 := B4.below hb.out
            refine hK.out _ _ E (fun hS => ?_)
            clear hK K hb G3
            try simp only [Act.put, List.setIfInBounds_toArray, List.set_cons_zero, List.set_cons_succ]
            refine wpAnyLast_ready (rs := [6]) (by kernel_rfl) (by simp) ?_
            refine AllReadyL.cons_last (o := Oper.mk _ _ _ _ _ _) rfl (by decide) (fun K hK => ?_) ?_
            · refine rg_store HB (by rfl) B3 GE_g3 34 _ _ rfl rfl rfl (by kernel_rfl) rfl (by simp [Value.oneCell']) ?_
              intro w6 B3n HBn K6
              replace E := E.other K6 (Nat.ne_of_lt N1g3.out)
              replace B4 := B4.other K6 (Ne.symm N34.out)
              replace RM := Aside0.mk (row_other RM.out B3 (by decide) K6)
              replace RI := Aside0.mk (row_other RI.out B3 (by decide) K6)
              replace B3 := B3n
              replace HB := HBn
              clear B3n HBn K6 HZ
              have HZ := Aside0.mk (Nat.le_refl 0)
              refine hK.out _ _ ?_
              clear hK K
              try simp only [Act.put, List.setIfInBounds_toArray, List.set_cons_zero, List.set_cons_succ]
              refine wpAnyLast_ready (rs := [7]) (by kernel_rfl) (by simp) ?_
              refine AllReadyL.cons_last (o := Oper.mk _ _ _ _ _ _) rfl (by decide) (fun K hK => ?_) ?_
              · refine rg_store HB (by rfl) B4 GE_g4 34 _ _ rfl rfl rfl (by kernel_rfl) rfl (by simp [Value.oneCell']) ?_
                intro w7 B4n HBn K7
                replace E := E.other K7 (Nat.ne_of_lt N1g4.out)
                replace B3 := B3.other K7 N34.out
                replace RM := Aside0.mk (row_other RM.out B4 (by decide) K7)
                replace RI := Aside0.mk (row_other RI.out B4 (by decide) K7)
                replace B4 := B4n
                replace HB := HBn
                clear B4n HBn K7 HZ
                have HZ := Aside0.mk (Nat.le_refl 0)
                refine hK.out _ _ ?_
                clear hK K
                try simp only [Act.put, List.setIfInBounds_toArray, List.set_cons_zero, List.set_cons_succ]
                refine wpAnyLast_done (by kernel_rfl) ?_ _
                refine NoPanic.normal ?_
                go_step
                go_step
                gi_meet
                case rel => exact ⟨g3, g4, c1, c2, A1, A2, rfl, rfl, GE_g3, GE_g4, ⟨N1g3.out, N1g4.out, N34.out⟩, E, B3, B4, RM, RI, HB⟩
              exact AllReadyL.nil
            exact AllReadyL.nil
          exact AllReadyL.nil
        exact AllReadyL.nil
      refine AllReadyL.cons (o := Oper.mk _ _ _ _ _ _) rfl (by decide) (fun K hK => ?_) ?_
      · refine rg_alloc HB (by rfl) (#[.int .i64 0, .slice none 0 0]) 34 (by first | (go_simp; done) | (go_simp; rfl)) ?_
        intro g3 W' G3 GE_g3 B3 HBn hb
        have N1g3 := Aside0.mk (show g1 < g3 by have := L1.out.1; have := HZ.out; have := G3.out; omega)
        clear HBn
        replace E := E.below hb.out
        replace HB := HB.step hb.out
        replace HZ := Aside0.mk (Nat.le_trans HZ.out hb.out.size)
        replace RM := Aside0.mk (row_below RM.out hb.out)
        refine hK.out _ _ E (fun hS => ?_)
        clear hK K hb G3
        try simp only [Act.put, List.setIfInBounds_toArray, List.set_cons_zero, List.set_cons_succ]
        refine wpAnyLast_ready (rs := [3, 5]) (by kernel_rfl) (by simp) ?_
        refine AllReadyL.cons (o := Oper.mk _ _ _ _ _ _) rfl (by decide) (fun K hK => ?_) ?_
        · refine call_ 19 #[.string s] (by rfl) rfl (by first | (go_simp; done) | (go_simp; rfl)) ((quotes_Inside.walk s _ HS.out).mono ?_)
          rintro e W' ⟨v, rfl, hrow, hb'⟩
          obtain ⟨A2, c2, rfl⟩ := own_slice hrow
          rw [← HNW.out] at hrow ⊢
          have hb := Aside0.mk hb'
          have RI := Aside0.mk (row_mono hrow HB.le)
          have V2 := Aside0.mk (row_one hrow)
          clear hrow hb'
          replace E := E.below hb.out
          replace HB := HB.step hb.out
          replace HZ := Aside0.mk (Nat.le_trans HZ.out hb.out.size)
          replace RM := Aside0.mk (row_below RM.out hb.out)
          replace B3 := B3.below hb.out
          refine ⟨_, rfl, ?_⟩
          refine hK.out _ _ E (fun hS => ?_)
          clear hK K hb
          try simp only [Act.put, List.setIfInBounds_toArray, List.set_cons_zero, List.set_cons_succ]
          refine wpAnyLast_ready (rs := [5]) (by kernel_rfl) (by simp) ?_
          refine AllReadyL.cons (o := Oper.mk _ _ _ _ _ _) rfl (by decide) (fun K hK => ?_) ?_
          · refine rg_alloc HB (by rfl) (#[.int .i64 0, .slice none 0 0]) 34 (by first | (go_simp; done) | (go_simp; rfl)) ?_
            intro g4 W' G4 GE_g4 B4 HBn hb
            have N1g4 := Aside0.mk (show g1 < g4 by have := L1.out.1; have := HZ.out; have := G4.out; omega)
            have N34 := Aside0.mk (show g3 ≠ g4 by have := B3.lt; have := G4.out; omega)
            clear HBn
            replace E := E.below hb.out
            replace HB := HB.step hb.out
            replace HZ := Aside0.mk (Nat.le_trans HZ.out hb.out.size)
            replace RM := Aside0.mk (row_below RM.out hb.out)
            replace RI := Aside0.mk (row_below RI.out hb.out)
            replace B3 := B3.below hb.out
            refine hK.out _ _ E (fun hS => ?_)
            clear hK K hb G4
            try simp only [Act.put, List.setIfInBounds_toArray, List.set_cons_zero, List.set_cons_succ]
            refine wpAnyLast_ready (rs := [6]) (by kernel_rfl) (by simp) ?_
            refine AllReadyL.cons_last (o := Oper.mk _ _ _ _ _ _) rfl (by decide) (fun K hK => ?_) ?_
            · refine rg_store HB (by rfl) B3 GE_g3 34 _ _ rfl rfl rfl (by kernel_rfl) rfl (by simp [Value.oneCell']) ?_
              intro w6 B3n HBn K6
              replace E := E.other K6 (Nat.ne_of_lt N1g3.out)
              replace B4 := B4.other K6 (Ne.symm N34.out)
              replace RM := Aside0.mk (row_other RM.out B3 (by decide) K6)
              replace RI := Aside0.mk (row_other RI.out B3 (by decide) K6)
              replace B3 := B3n
              replace HB := HBn
              clear B3n HBn K6 HZ
              have HZ := Aside0.mk (Nat.le_refl 0)
              refine hK.out _ _ ?_
              clear hK K
              try simp only [Act.put, List.setIfInBounds_toArray, List.set_cons_zero, List.set_cons_succ]
              refine wpAnyLast_ready (rs := [7]) (by kernel_rfl) (by simp) ?_
              refine AllReadyL.cons_last (o := Oper.mk _ _ _ _ _ _) rfl (by decide) (fun K hK => ?_) ?_
              · refine rg_store HB (by rfl) B4 GE_g4 34 _ _ rfl rfl rfl (by kernel_rfl) rfl (by simp [Value.oneCell']) ?_
                intro w7 B4n HBn K7
                replace E := E.other K7 (Nat.ne_of_lt N1g4.out)
                replace B3 := B3.other K7 N34.out
                replace RM := Aside0.mk (row_other RM.out B4 (by decide) K7)
                replace RI := Aside0.mk (row_other RI.out B4 (by decide) K7)
                replace B4 := B4n
                replace HB := HBn
                clear B4n HBn K7 HZ
                have HZ := Aside0.mk (Nat.le_refl 0)
                refine hK.out _ _ ?_
                clear hK K
                try simp only [Act.put, List.setIfInBounds_toArray, List.set_cons_zero, List.set_cons_succ]
                refine wpAnyLast_done (by kernel_rfl) ?_ _
                refine NoPanic.normal ?_
                go_step
                go_step
                gi_meet
                case rel => exact ⟨g3, g4, c1, c2, A1, A2, rfl, rfl, GE_g3, GE_g4, ⟨N1g3.out, N1g4.out, N34.out⟩, E, B3, B4, RM, RI, HB⟩
              exact AllReadyL.nil
            exact AllReadyL.nil
          exact AllReadyL.nil
        refine AllReadyL.cons (o := Oper.mk _ _ _ _ _ _) rfl (by decide) (fun K hK => ?_) ?_
        · refine rg_alloc HB (by rfl) (#[.int .i64 0, .slice none 0 0]) 34 (by first | (go_simp; done) | (go_simp; rfl)) ?_
          intro g4 W' G4 GE_g4 B4 HBn hb
          have N1g4 := Aside0.mk (show g1 < g4 by have := L1.out.1; have := HZ.out; have := G4.out; omega)
          have N34 := Aside0.mk (show g3 ≠ g4 by have := B3.lt; have := G4.out; omega)
          clear HBn
          replace E := E.below hb.out
          replace HB := HB.step hb.out
          replace HZ := Aside0.mk (Nat.le_trans HZ.out hb.out.size)
          replace RM := Aside0.mk (row_below RM.out hb.out)
          replace B3 := B3.below hb.out
          refine hK.out _ _ E (fun hS => ?_)
          clear hK K hb G4
          try simp only [Act.put, List.setIfInBounds_toArray, List.set_cons_zero, List.set_cons_succ]
          refine wpAnyLast_ready (rs := [3]) (by kernel_rfl) (by simp) ?_
          refine AllReadyL.cons (o := Oper.mk _ _ _ _ _ _) rfl (by decide) (fun K hK => ?_) ?_
          · refine call_ 19 #[.string s] (by rfl) rfl (by first | (go_simp; done) | (go_simp; rfl)) ((quotes_Inside.walk s _ HS.out).mono ?_)
            rintro e W' ⟨v, rfl, hrow, hb'⟩
            obtain ⟨A2, c2, rfl⟩ := own_slice hrow
            rw [← HNW.out] at hrow ⊢
            have hb := Aside0.mk hb'
            have RI := Aside0.mk (row_mono hrow HB.le)
            have V2 := Aside0.mk (row_one hrow)
            clear hrow hb'
            replace E := E.below hb.out
            replace HB := HB.step hb.out
            replace HZ := Aside0.mk (Nat.le_trans HZ.out hb.out.size)
            replace RM := Aside0.mk (row_below RM.out hb.out)
            replace B3 := B3.below hb.out
            replace B4 := B4.below hb.out
            refine ⟨_, rfl, ?_⟩
            refine hK.out _ _ E (fun hS => ?_)
            clear hK K hb
            try simp only [Act.put, List.setIfInBounds_toArray, List.set_cons_zero, List.set_cons_succ]
            refine wpAnyLast_ready (rs := [6]) (by kernel_rfl) (by simp) ?_
            refine AllReadyL.cons_last (o := Oper.mk _ _ _ _ _ _) rfl (by decide) (fun K hK => ?_) ?_
            · refine rg_store HB (by rfl) B3 GE_g3 34 _ _ rfl rfl rfl (by kernel_rfl) rfl (by simp [Value.oneCell']) ?_
              intro w6 B3n HBn K6
              replace E := E.other K6 (Nat.ne_of_lt N1g3.out)
              replace B4 := B4.other K6 (Ne.symm N34.out)
              replace RM := Aside0.mk (row_other RM.out B3 (by decide) K6)
              replace RI := Aside0.mk (row_other RI.out B3 (by decide) K6)
              replace B3 := B3n
              replace HB := HBn
              clear B3n HBn K6 HZ
              have HZ := Aside0.mk (Nat.le_refl 0)
              refine hK.out _ _ ?_
              clear hK K
              try simp only [Act.put, List.setIfInBounds_toArray, List.set_cons_zero, List.set_cons_succ]
              refine wpAnyLast_ready (rs := [7]) (by kernel_rfl) (by simp) ?_
              refine AllReadyL.cons_last (o := Oper.mk _ _ _ _ _ _) rfl (by decide) (fun K hK => ?_) ?_
              · refine rg_store HB (by rfl) B4 GE_g4 34 _ _ rfl rfl rfl (by kernel_rfl) rfl (by simp [Value.oneCell']) ?_
                intro w7 B4n HBn K7
                replace E := E.other K7 (Nat.ne_of_lt N1g4.out)
                replace B3 := B3.other K7 N34.out
                replace RM := Aside0.mk (row_other RM.out B4 (by decide) K7)
                replace RI := Aside0.mk (row_other RI.out B4 (by decide) K7)
                replace B4 := B4n
                replace HB := HBn
                clear B4n HBn K7 HZ
                have HZ := Aside0.mk (Nat.le_refl 0)
                refine hK.out _ _ ?_
                clear hK K
                try simp only [Act.put, List.setIfInBounds_toArray, List.set_cons_zero, List.set_cons_succ]
                refine wpAnyLast_done (by kernel_rfl) ?_ _
                refine NoPanic.normal ?_
                go_step
                go_step
                gi_meet
                case rel => exact ⟨g3, g4, c1, c2, A1, A2, rfl, rfl, GE_g3, GE_g4, ⟨N1g3.out, N1g4.out, N34.out⟩, E, B3, B4, RM, RI, HB⟩
              exact AllReadyL.nil
            exact AllReadyL.nil
          exact AllReadyL.nil
        exact AllReadyL.nil
      refine AllReadyL.cons (o := Oper.mk _ _ _ _ _ _) rfl (by decide) (fun K hK => ?_) ?_
      · refine rg_alloc HB (by rfl) (#[.int .i64 0, .slice none 0 0]) 34 (by first | (go_simp; done) | (go_simp; rfl)) ?_
        intro g4 W' G4 GE_g4 B4 HBn hb
        have N1g4 := Aside0.mk (show g1 < g4 by have := L1.out.1; have := HZ.out; have := G4.out; omega)
        clear HBn
        replace E := E.below hb.out
        replace HB := HB.step hb.out
        replace HZ := Aside0.mk (Nat.le_trans HZ.out hb.out.size)
        replace RM := Aside0.mk (row_below RM.out hb.out)
        refine hK.out _ _ E (fun hS => ?_)
        clear hK K hb G4
        try simp only [Act.put, List.setIfInBounds_toArray, List.set_cons_zero, List.set_cons_succ]
        refine wpAnyLast_ready (rs := [3, 4]) (by kernel_rfl) (by simp) ?_
        refine AllReadyL.cons (o := Oper.mk _ _ _ _ _ _) rfl (by decide) (fun K hK => ?_) ?_
        · refine call_ 19 #[.string s] (by rfl) rfl (by first | (go_simp; done) | (go_simp; rfl)) ((quotes_Inside.walk s _ HS.out).mono ?_)
          rintro e W' ⟨v, rfl, hrow, hb'⟩
          obtain ⟨A2, c2, rfl⟩ := own_slice hrow
          rw [← HNW.out] at hrow ⊢
          have hb := Aside0.mk hb'
          have RI := Aside0.mk (row_mono hrow HB.le)
          have V2 := Aside0.mk (row_one hrow)
          clear hrow hb'
          replace E := E.below hb.out
          replace HB := HB.step hb.out
          replace HZ := Aside0.mk (Nat.le_trans HZ.out hb.out.size)
          replace RM := Aside0.mk (row_below RM.out hb.out)
          replace B4 := B4.below hb.out
          refine ⟨_, rfl, ?_⟩
          refine hK.out _ _ E (fun hS => ?_)
          clear hK K hb
          try simp only [Act.put, List.setIfInBounds_toArray, List.set_cons_zero, List.set_cons_succ]
          refine wpAnyLast_ready (rs := [4]) (by kernel_rfl) (by simp) ?_
          refine AllReadyL.cons (o := Oper.mk _ _ _ _ _ _) rfl (by decide) (fun K hK => ?_) ?_
          · refine rg_alloc HB (by rfl) (#[.int .i64 0, .slice none 0 0]) 34 (by first | (go_simp; done) | (go_simp; rfl)) ?_
            intro g3 W' G3 GE_g3 B3 HBn hb
            have N1g3 := Aside0.mk (show g1 < g3 by have := L1.out.1; have := HZ.out; have := G3.out; omega)
            have N34 := Aside0.mk (show g3 ≠ g4 by have := B4.lt; have := G3.out; omega)
            clear HBn
            replace E := E.below hb.out
            replace HB := HB.step hb.out
            replace HZ := Aside0.mk (Nat.le_trans HZ.out hb.out.size)
            replace RM := Aside0.mk (row_below RM.out hb.out)
            replace RI := Aside0.mk (row_below RI.out hb.out)
            replace B4 := B4.below hb.out
            refine hK.out _ _ E (fun hS => ?_)
            clear hK K hb G3
            try simp only [Act.put, List.setIfInBounds_toArray, List.set_cons_zero, List.set_cons_succ]
            refine wpAnyLast_ready (rs := [6]) (by kernel_rfl) (by simp) ?_
            refine AllReadyL.cons_last (o := Oper.mk _ _ _ _ _ _) rfl (by decide) (fun K hK => ?_) ?_
            · refine rg_store HB (by rfl) B3 GE_g3 34 _ _ rfl rfl rfl (by kernel_rfl) rfl (by simp [Value.oneCell']) ?_
              intro w6 B3n HBn K6
              replace E := E.other K6 (Nat.ne_of_lt N1g3.out)
              replace B4 := B4.other K6 (Ne.symm N34.out)
              replace RM := Aside0.mk (row_other RM.out B3 (by decide) K6)
              replace RI := Aside0.mk (row_other RI.out B3 (by decide) K6)
              replace B3 := B3n
              replace HB := HBn
              clear B3n HBn K6 HZ
              have HZ := Aside0.mk (Nat.le_refl 0)
              refine hK.out _ _ ?_
              clear hK K
              try simp only [Act.put, List.setIfInBounds_toArray, List.set_cons_zero, List.set_cons_succ]
              refine wpAnyLast_ready (rs := [7]) (by kernel_rfl) (by simp) ?_
              refine AllReadyL.cons_last (o := Oper.mk _ _ _ _ _ _) rfl (by decide) (fun K hK => ?_) ?_
              · refine rg_store HB (by rfl) B4 GE_g4 34 _ _ rfl rfl rfl (by kernel_rfl) rfl (by simp [Value.oneCell']) ?_
                intro w7 B4n HBn K7
                replace E := E.other K7 (Nat.ne_of_lt N1g4.out)
                replace B3 := B3.other K7 N34.out
                replace RM := Aside0.mk (row_other RM.out B4 (by decide) K7)
                replace RI := Aside0.mk (row_other RI.out B4 (by decide) K7)
                replace B4 := B4n
                replace HB := HBn
                clear B4n HBn K7 HZ
                have HZ := Aside0.mk (Nat.le_refl 0)
                refine hK.out _ _ ?_
                clear hK K
                try simp only [Act.put, List.setIfInBounds_toArray, List.set_cons_zero, List.set_cons_succ]
                refine wpAnyLast_done (by kernel_rfl) ?_ _
                refine NoPanic.normal ?_
                go_step
                go_step
                gi_meet
                case rel => exact ⟨g3, g4, c1, c2, A1, A2, rfl, rfl, GE_g3, GE_g4, ⟨N1g3.out, N1g4.out, N34.out⟩, E, B3, B4, RM, RI, HB⟩
              exact AllReadyL.nil
            exact AllReadyL.nil
          exact AllReadyL.nil
        refine AllReadyL.cons (o := Oper.mk _ _ _ _ _ _) rfl (by decide) (fun K hK => ?_) ?_
        · refine rg_alloc HB (by rfl) (#[.int .i64 0, .slice none 0 0]) 34 (by first | (go_simp; done) | (go_simp; rfl)) ?_
          intro g3 W' G3 GE_g3 B3 HBn hb
          have N1g3 := Aside0.mk (show g1 < g3 by have := L1.out.1; have := HZ.out; have := G3.out; omega)
          have N34 := Aside0.mk (show g3 ≠ g4 by have := B4.lt; have := G3.out; omega)
          clear HBn
          replace E := E.below hb.out
          replace HB := HB.step hb.out
          replace HZ := Aside0.mk (Nat.le_trans HZ.out hb.out.size)
          replace RM := Aside0.mk (row_below RM.out hb.out)
          replace B4 := B4.below hb.out
          refine hK.out _ _ E (fun hS => ?_)
          clear hK K hb G3
          try simp only [Act.put, List.setIfInBounds_toArray, List.set_cons_zero, List.set_cons_succ]
          refine wpAnyLast_ready (rs := [3]) (by kernel_rfl) (by simp) ?_
          refine AllReadyL.cons (o := Oper.mk _ _ _ _ _ _) rfl (by decide) (fun K hK => ?_) ?_
          · refine call_ 19 #[.string s] (by rfl) rfl (by first | (go_simp; done) | (go_simp; rfl)) ((quotes_Inside.walk s _ HS.out).mono ?_)
            rintro e W' ⟨v, rfl, hrow, hb'⟩
            obtain ⟨A2, c2, rfl⟩ := own_slice hrow
            rw [← HNW.out] at hrow ⊢
            have hb := Aside0.mk hb'
            have RI := Aside0.mk (row_mono hrow HB.le)
            have V2 := Aside0.mk (row_one hrow)
            clear hrow hb'
            replace E := E.below hb.out
            replace HB := HB.step hb.out
            replace HZ := Aside0.mk (Nat.le_trans HZ.out hb.out.size)
            replace RM := Aside0.mk (row_below RM.out hb.out)
            replace B3 := B3.below hb.out
            replace B4 := B4.below hb.out
            refine ⟨_, rfl, ?_⟩
            refine hK.out _ _ E (fun hS => ?_)
            clear hK K hb
            try simp only [Act.put, List.setIfInBounds_toArray, List.set_cons_zero, List.set_cons_succ]
            refine wpAnyLast_ready (rs := [6]) (by kernel_rfl) (by simp) ?_
            refine AllReadyL.cons_last (o := Oper.mk _ _ _ _ _ _) rfl (by decide) (fun K hK => ?_) ?_
            · refine rg_store HB (by rfl) B3 GE_g3 34 _ _ rfl rfl rfl (by kernel_rfl) rfl (by simp [Value.oneCell']) ?_
              intro w6 B3n HBn K6
              replace E := E.other K6 (Nat.ne_of_lt N1g3.out)
              replace B4 := B4.other K6 (Ne.symm N34.out)
              replace RM := Aside0.mk (row_other RM.out B3 (by decide) K6)
              replace RI := Aside0.mk (row_other RI.out B3 (by decide) K6)
              replace B3 := B3n
              replace HB := HBn
              clear B3n HBn K6 HZ
              have HZ := Aside0.mk (Nat.le_refl 0)
              refine hK.out _ _ ?_
              clear hK K
              try simp only [Act.put, List.setIfInBounds_toArray, List.set_cons_zero, List.set_cons_succ]
              refine wpAnyLast_ready (rs := [7]) (by kernel_rfl) (by simp) ?_
              refine AllReadyL.cons_last (o := Oper.mk _ _ _ _ _ _) rfl (by decide) (fun K hK => ?_) ?_
              · refine rg_store HB (by rfl) B4 GE_g4 34 _ _ rfl rfl rfl (by kernel_rfl) rfl (by simp [Value.oneCell']) ?_
                intro w7 B4n HBn K7
                replace E := E.other K7 (Nat.ne_of_lt N1g4.out)
                replace B3 := B3.other K7 N34.out
                replace RM := Aside0.mk (row_other RM.out B4 (by decide) K7)
                replace RI := Aside0.mk (row_other RI.out B4 (by decide) K7)
                replace B4 := B4n
                replace HB := HBn
                clear B4n HBn K7 HZ
                have HZ := Aside0.mk (Nat.le_refl 0)
                refine hK.out _ _ ?_
                clear hK K
                try simp only [Act.put, List.setIfInBounds_toArray, List.set_cons_zero, List.set_cons_succ]
                refine wpAnyLast_done (by kernel_rfl) ?_ _
                refine NoPanic.normal ?_
                go_step
                go_step
                gi_meet
                case rel => exact ⟨g3, g4, c1, c2, A1, A2, rfl, rfl, GE_g3, GE_g4, ⟨N1g3.out, N1g4.out, N34.out⟩, E, B3, B4, RM, RI, HB⟩
              exact AllReadyL.nil
            exact AllReadyL.nil
          exact AllReadyL.nil
        exact AllReadyL.nil
      exact AllReadyL.nil
    refine AllReadyL.cons (o := Oper.mk _ _ _ _ _ _) rfl (by decide) (fun K hK => ?_) ?_
    · refine rg_alloc HB (by rfl) (#[.int .i64 0, .slice none 0 0]) 34 (by first | (go_simp; done) | (go_simp; rfl)) ?_
      intro g3 W' G3 GE_g3 B3 HBn hb
      have N1g3 := Aside0.mk (show g1 < g3 by have := L1.out.1; have := HZ.out; have := G3.out; omega)
      clear HBn
      replace E := E.below hb.out
      replace HB := HB.step hb.out
      replace HZ := Aside0.mk (Nat.le_trans HZ.out hb.out.size)
      refine hK.out _ _ E (fun hS => ?_)
      clear hK K hb G3
      try simp only [Act.put, List.setIfInBounds_toArray, List.set_cons_zero, List.set_cons_succ]
      refine wpAnyLast_ready (rs := [1, 5]) (by kernel_rfl) (by simp) ?_
      refine AllReadyL.cons (o := Oper.mk _ _ _ _ _ _) rfl (by decide) (fun K hK => ?_) ?_
      · refine call_ 18 #[.string s] (by rfl) rfl (by first | (go_simp; done) | (go_simp; rfl)) ((quotes_Marks.walk s _ HS.out).mono ?_)
        rintro e W' ⟨v, rfl, hrow, hb'⟩
        obtain ⟨A1, c1, rfl⟩ := own_slice hrow
        rw [← HNW.out] at hrow ⊢
        have hb := Aside0.mk hb'
        have RM := Aside0.mk (row_mono hrow HB.le)
        have V1 := Aside0.mk (row_one hrow)
        clear hrow hb'
        replace E := E.below hb.out
        replace HB := HB.step hb.out
        replace HZ := Aside0.mk (Nat.le_trans HZ.out hb.out.size)
        replace B3 := B3.below hb.out
        refine ⟨_, rfl, ?_⟩
        refine hK.out _ _ E (fun hS => ?_)
        clear hK K hb
        try simp only [Act.put, List.setIfInBounds_toArray, List.set_cons_zero, List.set_cons_succ]
        refine wpAnyLast_ready (rs := [3, 5]) (by kernel_rfl) (by simp) ?_
        refine AllReadyL.cons (o := Oper.mk _ _ _ _ _ _) rfl (by decide) (fun K hK => ?_) ?_
        · refine call_ 19 #[.string s] (by rfl) rfl (by first | (go_simp; done) | (go_simp; rfl)) ((quotes_Inside.walk s _ HS.out).mono ?_)
          rintro e W' ⟨v, rfl, hrow, hb'⟩
          obtain ⟨A2, c2, rfl⟩ := own_slice hrow
          rw [← HNW.out] at hrow ⊢
          have hb := Aside0.mk hb'
          have RI := Aside0.mk (row_mono hrow HB.le)
          have V2 := Aside0.mk (row_one hrow)
          clear hrow hb'
          replace E := E.below hb.out
          replace HB := HB.step hb.out
          replace HZ := Aside0.mk (Nat.le_trans HZ.out hb.out.size)
          replace RM := Aside0.mk (row_below RM.out hb.out)
          replace B3 := B3.below hb.out
          refine ⟨_, rfl, ?_⟩
          refine hK.out _ _ E (fun hS => ?_)
          clear hK K hb
          try simp only [Act.put, List.setIfInBounds_toArray, List.set_cons_zero, List.set_cons_succ]
          refine wpAnyLast_ready (rs := [5]) (by kernel_rfl) (by simp) ?_
          refine AllReadyL.cons (o := Oper.mk _ _ _ _ _ _) rfl (by decide) (fun K hK => ?_) ?_
          · refine rg_alloc HB (by rfl) (#[.int .i64 0, .slice none 0 0]) 34 (by first | (go_simp; done) | (go_simp; rfl)) ?_
            intro g4 W' G4 GE_g4 B4 HBn hb
            have N1g4 := Aside0.mk (show g1 < g4 by have := L1.out.1; have := HZ.out; have := G4.out; omega)
            have N34 := Aside0.mk (show g3 ≠ g4 by have := B3.lt; have := G4.out; omega)
            clear HBn
            replace E := E.below hb.out
            replace HB := HB.step hb.out
            replace HZ := Aside0.mk (Nat.le_trans HZ.out hb.out.size)
            replace RM := Aside0.mk (row_below RM.out hb.out)
            replace RI := Aside0.mk (row_below RI.out hb.out)
            replace B3 := B3.below hb.out
            refine hK.out _ _ E (fun hS => ?_)
            clear hK K hb G4
            try simp only [Act.put, List.setIfInBounds_toArray, List.set_cons_zero, List.set_cons_succ]
            refine wpAnyLast_ready (rs := [6]) (by kernel_rfl) (by simp) ?_
            refine AllReadyL.cons_last (o := Oper.mk _ _ _ _ _ _) rfl (by decide) (fun K hK => ?_) ?_
            · refine rg_store HB (by rfl) B3 GE_g3 34 _ _ rfl rfl rfl (by kernel_rfl) rfl (by simp [Value.oneCell']) ?_
              intro w6 B3n HBn K6
              replace E := E.other K6 (Nat.ne_of_lt N1g3.out)
              replace B4 := B4.other K6 (Ne.symm N34.out)
              replace RM := Aside0.mk (row_other RM.out B3 (by decide) K6)
              replace RI := Aside0.mk (row_other RI.out B3 (by decide) K6)
              replace B3 := B3n
              replace HB := HBn
              clear B3n HBn K6 HZ
              have HZ := Aside0.mk (Nat.le_refl 0)
              refine hK.out _ _ ?_
              clear hK K
              try simp only [Act.put, List.setIfInBounds_toArray, List.set_cons_zero, List.set_cons_succ]
              refine wpAnyLast_ready (rs := [7]) (by kernel_rfl) (by simp) ?_
              refine AllReadyL.cons_last (o := Oper.mk _ _ _ _ _ _) rfl (by decide) (fun K hK => ?_) ?_
              · refine rg_store HB (by rfl) B4 GE_g4 34 _ _ rfl rfl rfl (by kernel_rfl) rfl (by simp [Value.oneCell']) ?_
                intro w7 B4n HBn K7
                replace E := E.other K7 (Nat.ne_of_lt N1g4.out)
                replace B3 := B3.other K7 N34.out
                replace RM := Aside0.mk (row_other RM.out B4 (by decide) K7)
                replace RI := Aside0.mk (row_other RI.out B4 (by decide) K7)
                replace B4 := B4n
                replace HB := HBn
                clear B4n HBn K7 HZ
                have HZ := Aside0.mk (Nat.le_refl 0)
                refine hK.out _ _ ?_
                clear hK K
                try simp only [Act.put, List.setIfInBounds_toArray, List.set_cons_zero, List.set_cons_succ]
                refine wpAnyLast_done (by kernel_rfl) ?_ _
                refine NoPanic.normal ?_
                go_step
                go_step
                gi_meet
                case rel => exact ⟨g3, g4, c1, c2, A1, A2, rfl, rfl, GE_g3, GE_g4, ⟨N1g3.out, N1g4.out, N34.out⟩, E, B3, B4, RM, RI, HB⟩
              exact AllReadyL.nil
            exact AllReadyL.nil
          exact AllReadyL.nil
        refine AllReadyL.cons (o := Oper.mk _ _ _ _ _ _) rfl (by decide) (fun K hK => ?_) ?_
        · refine rg_alloc HB (by rfl) (#[.int .i64 0, .slice none 0 0]) 34 (by first | (go_simp; done) | (go_simp; rfl)) ?_
          intro g4 W' G4 GE_g4 B4 HBn hb
          have N1g4 := Aside0.mk (show g1 < g4 by have := L1.out.1; have := HZ.out; have := G4.out; omega)
          have N34 := Aside0.mk (show g3 ≠ g4 by have := B3.lt; have := G4.out; omega)
          clear HBn
          replace E := E.below hb.out
          replace HB := HB.step hb.out
          replace HZ := Aside0.mk (Nat.le_trans HZ.out hb.out.size)
          replace RM := Aside0.mk (row_below RM.out hb.out)
          replace B3 := B3.below hb.out
          refine hK.out _ _ E (fun hS => ?_)
          clear hK K hb G4
          try simp only [Act.put, List.setIfInBounds_toArray, List.set_cons_zero, List.set_cons_succ]
          refine wpAnyLast_ready (rs := [3]) (by kernel_rfl) (by simp) ?_
          refine AllReadyL.cons (o := Oper.mk _ _ _ _ _ _) rfl (by decide) (fun K hK => ?_) ?_
          · refine call_ 19 #[.string s] (by rfl) rfl (by first | (go_simp; done) | (go_simp; rfl)) ((quotes_Inside.walk s _ HS.out).mono ?_)
            rintro e W' ⟨v, rfl, hrow, hb'⟩
            obtain ⟨A2, c2, rfl⟩ := own_slice hrow
            rw [← HNW.out] at hrow ⊢
            have hb := Aside0.mk hb'
            have RI := Aside0.mk (row_mono hrow HB.le)
            have V2 := Aside0.mk (row_one hrow)
            clear hrow hb'
            replace E := E.below hb.out
            replace HB := HB.step hb.out
            replace HZ := Aside0.mk (Nat.le_trans HZ.out hb.out.size)
            replace RM := Aside0.mk (row_below RM.out hb.out)
            replace B3 := B3.below hb.out
            replace B4 := B4.below hb.out
            refine ⟨_, rfl, ?_⟩
            refine hK.out _ _ E (fun hS => ?_)
            clear hK K hb
            try simp only [Act.put, List.setIfInBounds_toArray, List.set_cons_zero, List.set_cons_succ]
            refine wpAnyLast_ready (rs := [6]) (by kernel_rfl) (by simp) ?_
            refine AllReadyL.cons_last (o := Oper.mk _ _ _ _ _ _) rfl (by decide) (fun K hK => ?_) ?_
            · refine rg_store HB (by rfl) B3 GE_g3 34 _ _ rfl rfl rfl (by kernel_rfl) rfl (by simp [Value.oneCell']) ?_
              intro w6 B3n HBn K6
              replace E := E.other K6 (Nat.ne_of_lt N1g3.out)
              replace B4 := B4.other K6 (Ne.symm N34.out)
              replace RM := Aside0.mk (row_other RM.out B3 (by decide) K6)
              replace RI := Aside0.mk (row_other RI.out B3 (by decide) K6)
              replace B3 := B3n
              replace HB := HBn
              clear B3n HBn K6 HZ
              have HZ := Aside0.mk (Nat.le_refl 0)
              refine hK.out _ _ ?_
              clear hK K
              try simp only [Act.put, List.setIfInBounds_toArray, List.set_cons_zero, List.set_cons_succ]
              refine wpAnyLast_ready (rs := [7]) (by kernel_rfl) (by simp) ?_
              refine AllReadyL.cons_last (o := Oper.mk _ _ _ _ _ _) rfl (by decide) (fun K hK => ?_) ?_
              · refine rg_store HB (by rfl) B4 GE_g4 34 _ _ rfl rfl rfl (by kernel_rfl) rfl (by simp [Value.oneCell']) ?_
                intro w7 B4n HBn K7
                replace E := E.other K7 (Nat.ne_of_lt N1g4.out)
                replace B3 := B3.other K7 N34.out
                replace RM := Aside0.mk (row_other RM.out B4 (by decide) K7)
                replace RI := Aside0.mk (row_other RI.out B4 (by decide) K7)
                replace B4 := B4n
                replace HB := HBn
                clear B4n HBn K7 HZ
                have HZ := Aside0.mk (Nat.le_refl 0)
                refine hK.out _ _ ?_
                clear hK K
                try simp only [Act.put, List.setIfInBounds_toArray, List.set_cons_zero, List.set_cons_succ]
                refine wpAnyLast_done (by kernel_rfl) ?_ _
                refine NoPanic.normal ?_
                go_step
                go_step
                gi_meet
                case rel => exact ⟨g3, g4, c1, c2, A1, A2, rfl, rfl, GE_g3, GE_g4, ⟨N1g3.out, N1g4.out, N34.out⟩, E, B3, B4, RM, RI, HB⟩
              exact AllReadyL.nil
            exact AllReadyL.nil
          exact AllReadyL.nil
        exact AllReadyL.nil
      refine AllReadyL.cons (o := Oper.mk _ _ _ _ _ _) rfl (by decide) (fun K hK => ?_) ?_
      · refine rg_alloc HB (by rfl) (#[.int .i64 0, .slice none 0 0]) 34 (by first | (go_simp; done) | (go_simp; rfl)) ?_
        intro g4 W' G4 GE_g4 B4 HBn hb
        have N1g4 := Aside0.mk (show g1 < g4 by have := L1.out.1; have := HZ.out; have := G4.out; omega)
        have N34 := Aside0.mk (show g3 ≠ g4 by have := B3.lt; have := G4.out; omega)
        clear HBn
        replace E := E.below hb.out
        replace HB := HB.step hb.out
        replace HZ := Aside0.mk (Nat.le_trans HZ.out hb.out.size)
        replace B3 := B3.below hb.out
        refine hK.out _ _ E (fun hS => ?_)
        clear hK K hb G4
        try simp only [Act.put, List.setIfInBounds_toArray, List.set_cons_zero, List.set_cons_succ]
        refine wpAnyLast_ready (rs := [1]) (by kernel_rfl) (by simp) ?_
        refine AllReadyL.cons (o := Oper.mk _ _ _ _ _ _) rfl (by decide) (fun K hK => ?_) ?_
        · refine call_ 18 #[.string s] (by rfl) rfl (by first | (go_simp; done) | (go_simp; rfl)) ((quotes_Marks.walk s _ HS.out).mono ?_)
          rintro e W' ⟨v, rfl, hrow, hb'⟩
          obtain ⟨A1, c1, rfl⟩ := own_slice hrow
          rw [← HNW.out] at hrow ⊢
          have hb := Aside0.mk hb'
          have RM := Aside0.mk (row_mono hrow HB.le)
          have V1 := Aside0.mk (row_one hrow)
          clear hrow hb'
          replace E := E.below hb.out
          replace HB := HB.step hb.out
          replace HZ := Aside0.mk (Nat.le_trans HZ.out hb.out.size)
          replace B3 := B3.below hb.out
          replace B4 := B4.below hb.out
          refine ⟨_, rfl, ?_⟩
          refine hK.out _ _ E (fun hS => ?_)
          clear hK K hb
          try simp only [Act.put, List.setIfInBounds_toArray, List.set_cons_zero, List.set_cons_succ]
          refine wpAnyLast_ready (rs := [3]) (by kernel_rfl) (by simp) ?_
          refine AllReadyL.cons (o := Oper.mk _ _ _ _ _ _) rfl (by decide) (fun K hK => ?_) ?_
          · refine call_ 19 #[.string s] (by rfl) rfl (by first | (go_simp; done) | (go_simp; rfl)) ((quotes_Inside.walk s _ HS.out).mono ?_)
            rintro e W' ⟨v, rfl, hrow, hb'⟩
            obtain ⟨A2, c2, rfl⟩ := own_slice hrow
            rw [← HNW.out] at hrow ⊢
            have hb := Aside0.mk hb'
            have RI := Aside0.mk (row_mono hrow HB.le)
            have V2 := Aside0.mk (row_one hrow)
            clear hrow hb'
            replace E := E.below hb.out
            replace HB := HB.step hb.out
            replace HZ := Aside0.mk (Nat.le_trans HZ.out hb.out.size)
            replace RM := Aside0.mk (row_below RM.out hb.out)
            replace B3 := B3.below hb.out
            replace B4 := B4.below hb.out
            refine ⟨_, rfl, ?_⟩
            refine hK.out _ _ E (fun hS => ?_)
            clear hK K hb
            try simp only [Act.put, List.setIfInBounds_toArray, List.set_cons_zero, List.set_cons_succ]
            refine wpAnyLast_ready (rs := [6]) (by kernel_rfl) (by simp) ?_
            refine AllReadyL.cons_last (o := Oper.mk _ _ _ _ _ _) rfl (by decide) (fun K hK => ?_) ?_
            · refine rg_store HB (by rfl) B3 GE_g3 34 _ _ rfl rfl rfl (by kernel_rfl) rfl (by simp [Value.oneCell']) ?_
              intro w6 B3n HBn K6
              replace E := E.other K6 (Nat.ne_of_lt N1g3.out)
              replace B4 := B4.other K6 (Ne.symm N34.out)
              replace RM := Aside0.mk (row_other RM.out B3 (by decide) K6)
              replace RI := Aside0.mk (row_other RI.out B3 (by decide) K6)
              replace B3 := B3n
              replace HB := HBn
              clear B3n HBn K6 HZ
              have HZ := Aside0.mk (Nat.le_refl 0)
              refine hK.out _ _ ?_
              clear hK K
              try simp only [Act.put, List.setIfInBounds_toArray, List.set_cons_zero, List.set_cons_succ]
              refine wpAnyLast_ready (rs := [7]) (by kernel_rfl) (by simp) ?_
              refine AllReadyL.cons_last (o := Oper.mk _ _ _ _ _ _) rfl (by decide) (fun K hK => ?_) ?_
              · refine rg_store HB (by rfl) B4 GE_g4 34 _ _ rfl rfl rfl (by kernel_rfl) rfl (by simp [Value.oneCell']) ?_
                intro w7 B4n HBn K7
                replace E := E.other K7 (Nat.ne_of_lt N1g4.out)
                replace B3 := B3.other K7 N34.out
                replace RM := Aside0.mk (row_other RM.out B4 (by decide) K7)
                replace RI := Aside0.mk (row_other RI.out B4 (by decide) K7)
                replace B4 := B4n
                replace HB := HBn
                clear B4n HBn K7 HZ
                have HZ := Aside0.mk (Nat.le_refl 0)
                refine hK.out _ _ ?_
                clear hK K
                try simp only [Act.put, List.setIfInBounds_toArray, List.set_cons_zero, List.set_cons_succ]
                refine wpAnyLast_done (by kernel_rfl) ?_ _
                refine NoPanic.normal ?_
                go_step
                go_step
                gi_meet
                case rel => exact ⟨g3, g4, c1, c2, A1, A2, rfl, rfl, GE_g3, GE_g4, ⟨N1g3.out, N1g4.out, N34.out⟩, E, B3, B4, RM, RI, HB⟩
              exact AllReadyL.nil
            exact AllReadyL.nil
          exact AllReadyL.nil
        exact AllReadyL.nil
      exact AllReadyL.nil
    refine AllReadyL.cons (o := Oper.mk _ _ _ _ _ _) rfl (by decide) (fun K hK => ?_) ?_
    · refine rg_alloc HB (by rfl) (#[.int .i64 0, .slice none 0 0]) 34 (by first | (go_simp; done) | (go_simp; rfl)) ?_
      intro g4 W' G4 GE_g4 B4 HBn hb
      have N1g4 := Aside0.mk (show g1 < g4 by have := L1.out.1; have := HZ.out; have := G4.out; omega)
      clear HBn
      replace E := E.below hb.out
      replace HB := HB.step hb.out
      replace HZ := Aside0.mk (Nat.le_trans HZ.out hb.out.size)
      refine hK.out _ _ E (fun hS => ?_)
      clear hK K hb G4
      try simp only [Act.put, List.setIfInBounds_toArray, List.set_cons_zero, List.set_cons_succ]
      refine wpAnyLast_ready (rs := [1, 4]) (by kernel_rfl) (by simp) ?_
      refine AllReadyL.cons (o := Oper.mk _ _ _ _ _ _) rfl (by decide) (fun K hK => ?_) ?_
      · refine call_ 18 #[.string s] (by rfl) rfl (by first | (go_simp; done) | (go_simp; rfl)) ((quotes_Marks.walk s _ HS.out).mono ?_)
        rintro e W' ⟨v, rfl, hrow, hb'⟩
        obtain ⟨A1, c1, rfl⟩ := own_slice hrow
        rw [← HNW.out] at hrow ⊢
        have hb := Aside0.mk hb'
        have RM := Aside0.mk (row_mono hrow HB.le)
        have V1 := Aside0.mk (row_one hrow)
        clear hrow hb'
        replace E := E.below hb.out
        replace HB := HB.step hb.out
        replace HZ := Aside0.mk (Nat.le_trans HZ.out hb.out.size)
        replace B4 := B4.below hb.out
        refine ⟨_, rfl, ?_⟩
        refine hK.out _ _ E (fun hS => ?_)
        clear hK K hb
        try simp only [Act.put, List.setIfInBounds_toArray, List.set_cons_zero, List.set_cons_succ]
        refine wpAnyLast_ready (rs := [3, 4]) (by kernel_rfl) (by simp) ?_
        refine AllReadyL.cons (o := Oper.mk _ _ _ _ _ _) rfl (by decide) (fun K hK => ?_) ?_
        · refine call_ 19 #[.string s] (by rfl) rfl (by first | (go_simp; done) | (go_simp; rfl)) ((quotes_Inside.walk s _ HS.out).mono ?_)
          rintro e W' ⟨v, rfl, hrow, hb'⟩
          obtain ⟨A2, c2, rfl⟩ := own_slice hrow
          rw [← HNW.out] at hrow ⊢
          have hb := Aside0.mk hb'
          have RI := Aside0.mk (row_mono hrow HB.le)
          have V2 := Aside0.mk (row_one hrow)
          clear hrow hb'
          replace E := E.below hb.out
          replace HB := HB.step hb.out
          replace HZ := Aside0.mk (Nat.le_trans HZ.out hb.out.size)
          replace RM := Aside0.mk (row_below RM.out hb.out)
          replace B4 := B4.below hb.out
          refine ⟨_, rfl, ?_⟩
          refine hK.out _ _ E (fun hS => ?_)
          clear hK K hb
          try simp only [Act.put, List.setIfInBounds_toArray, List.set_cons_zero, List.set_cons_succ]
          refine wpAnyLast_ready (rs := [4]) (by kernel_rfl) (by simp) ?_
          refine AllReadyL.cons (o := Oper.mk _ _ _ _ _ _) rfl (by decide) (fun K hK => ?_) ?_
          · refine rg_alloc HB (by rfl) (#[.int .i64 0, .slice none 0 0]) 34 (by first | (go_simp; done) | (go_simp; rfl)) ?_
            intro g3 W' G3 GE_g3 B3 HBn hb
            have N1g3 := Aside0.mk (show g1 < g3 by have := L1.out.1; have := HZ.out; have := G3.out; omega)
            have N34 := Aside0.mk (show g3 ≠ g4 by have := B4.lt; have := G3.out; omega)
            clear HBn
            replace E := E.below hb.out
            replace HB := HB.step hb.out
            replace HZ := Aside0.mk (Nat.le_trans HZ.out hb.out.size)
            replace RM := Aside0.mk (row_below RM.out hb.out)
            replace RI := Aside0.mk (row_below RI.out hb.out)
            replace B4 := B4.below hb.out
            refine hK.out _ _ E (fun hS => ?_)
            clear hK K hb G3
            try simp only [Act.put, List.setIfInBounds_toArray, List.set_cons_zero, List.set_cons_succ]
            refine wpAnyLast_ready (rs := [6]) (by kernel_rfl) (by simp) ?_
            refine AllReadyL.cons_last (o := Oper.mk _ _ _ _ _ _) rfl (by decide) (fun K hK => ?_) ?_
            · refine rg_store HB (by rfl) B3 GE_g3 34 _ _ rfl rfl rfl (by kernel_rfl) rfl (by simp [Value.oneCell']) ?_
              intro w6 B3n HBn K6
              replace E := E.other K6 (Nat.ne_of_lt N1g3.out)
              replace B4 := B4.other K6 (Ne.symm N34.out)
              replace RM := Aside0.mk (row_other RM.out B3 (by decide) K6)
              replace RI := Aside0.mk (row_other RI.out B3 (by decide) K6)
              replace B3 := B3n
              replace HB := HBn
              clear B3n HBn K6 HZ
              have HZ := Aside0.mk (Nat.le_refl 0)
              refine hK.out _ _ ?_
              clear hK K
              try simp only [Act.put, List.setIfInBounds_toArray, List.set_cons_zero, List.set_cons_succ]
              refine wpAnyLast_ready (rs := [7]) (by kernel_rfl) (by simp) ?_
              refine AllReadyL.cons_last (o := Oper.mk _ _ _ _ _ _) rfl (by decide) (fun K hK => ?_) ?_
              · refine rg_store HB (by rfl) B4 GE_g4 34 _ _ rfl rfl rfl (by kernel_rfl) rfl (by simp [Value.oneCell']) ?_
                intro w7 B4n HBn K7
                replace E := E.other K7 (Nat.ne_of_lt N1g4.out)
                replace B3 := B3.other K7 N34.out
                replace RM := Aside0.mk (row_other RM.out B4 (by decide) K7)
                replace RI := Aside0.mk (row_other RI.out B4 (by decide) K7)
                replace B4 := B4n
                replace HB := HBn
                clear B4n HBn K7 HZ
                have HZ := Aside0.mk (Nat.le_refl 0)
                refine hK.out _ _ ?_
                clear hK K
                try simp only [Act.put, List.setIfInBounds_toArray, List.set_cons_zero, List.set_cons_succ]
                refine wpAnyLast_done (by kernel_rfl) ?_ _
                refine NoPanic.normal ?_
                go_step
                go_step
                gi_meet
                case rel => exact ⟨g3, g4, c1, c2, A1, A2, rfl, rfl, GE_g3, GE_g4, ⟨N1g3.out, N1g4.out, N34.out⟩, E, B3, B4, RM, RI, HB⟩
              exact AllReadyL.nil
            exact AllReadyL.nil
          exact AllReadyL.nil
        refine AllReadyL.cons (o := Oper.mk _ _ _ _ _ _) rfl (by decide) (fun K hK => ?_) ?_
        · refine rg_alloc HB (by rfl) (#[.int .i64 0, .slice none 0 0]) 34 (by first | (go_simp; done) | (go_simp; rfl)) ?_
          intro g3 W' G3 GE_g3 B3 HBn hb
          have N1g3 := Aside0.mk (show g1 < g3 by have := L1.out.1; have := HZ.out; have := G3.out; omega)
          have N34 := Aside0.mk (show g3 ≠ g4 by have := B4.lt; have := G3.out; omega)
          clear HBn
          replace E := E.below hb.out
          replace HB := HB.step hb.out
          replace HZ := Aside0.mk (Nat.le_trans HZ.out hb.out.size)
          replace RM := Aside0.mk (row_below RM.out hb.out)
          replace B4 := B4.below hb.out
          refine hK.out _ _ E (fun hS => ?_)
          clear hK K hb G3
          try simp only [Act.put, List.setIfInBounds_toArray, List.set_cons_zero, List.set_cons_succ]
          refine wpAnyLast_ready (rs := [3]) (by kernel_rfl) (by simp) ?_
          refine AllReadyL.cons (o := Oper.mk _ _ _ _ _ _) rfl (by decide) (fun K hK => ?_) ?_
          · refine call_ 19 #[.string s] (by rfl) rfl (by first | (go_simp; done) | (go_simp; rfl)) ((quotes_Inside.walk s _ HS.out).mono ?_)
            rintro e W' ⟨v, rfl, hrow, hb'⟩
            obtain ⟨A2, c2, rfl⟩ := own_slice hrow
            rw [← HNW.out] at hrow ⊢
            have hb := Aside0.mk hb'
            have RI := Aside0.mk (row_mono hrow HB.le)
            have V2 := Aside0.mk (row_one hrow)
            clear hrow hb'
            replace E := E.below hb.out
            replace HB := HB.step hb.out
            replace HZ := Aside0.mk (Nat.le_trans HZ.out hb.out.size)
            replace RM := Aside0.mk (row_below RM.out hb.out)
            replace B3 := B3.below hb.out
            replace B4 := B4.below hb.out
            refine ⟨_, rfl, ?_⟩
            refine hK.out _ _ E (fun hS => ?_)
            clear hK K hb
            try simp only [Act.put, List.setIfInBounds_toArray, List.set_cons_zero, List.set_cons_succ]
            refine wpAnyLast_ready (rs := [6]) (by kernel_rfl) (by simp) ?_
            refine AllReadyL.cons_last (o := Oper.mk _ _ _ _ _ _) rfl (by decide) (fun K hK => ?_) ?_
            · refine rg_store HB (by rfl) B3 GE_g3 34 _ _ rfl rfl rfl (by kernel_rfl) rfl (by simp [Value.oneCell']) ?_
              intro w6 B3n HBn K6
              replace E := E.other K6 (Nat.ne_of_lt N1g3.out)
              replace B4 := B4.other K6 (Ne.symm N34.out)
              replace RM := Aside0.mk (row_other RM.out B3 (by decide) K6)
              replace RI := Aside0.mk (row_other RI.out B3 (by decide) K6)
              replace B3 := B3n
              replace HB := HBn
              clear B3n HBn K6 HZ
              have HZ := Aside0.mk (Nat.le_refl 0)
              refine hK.out _ _ ?_
              clear hK K
              try simp only [Act.put, List.setIfInBounds_toArray, List.set_cons_zero, List.set_cons_succ]
              refine wpAnyLast_ready (rs := [7]) (by kernel_rfl) (by simp) ?_
              refine AllReadyL.cons_last (o := Oper.mk _ _ _ _ _ _) rfl (by decide) (fun K hK => ?_) ?_
              · refine rg_store HB (by rfl) B4 GE_g4 34 _ _ rfl rfl rfl (by kernel_rfl) rfl (by simp [Value.oneCell']) ?_
                intro w7 B4n HBn K7
                replace E := E.other K7 (Nat.ne_of_lt N1g4.out)
                replace B3 := B3.other K7 N34.out
                replace RM := Aside0.mk (row_other RM.out B4 (by decide) K7)
                replace RI := Aside0.mk (row_other RI.out B4 (by decide) K7)
                replace B4 := B4n
                replace HB := HBn
                clear B4n HBn K7 HZ
                have HZ := Aside0.mk (Nat.le_refl 0)
                refine hK.out _ _ ?_
                clear hK K
                try simp only [Act.put, List.setIfInBounds_toArray, List.set_cons_zero, List.set_cons_succ]
                refine wpAnyLast_done (by kernel_rfl) ?_ _
                refine NoPanic.normal ?_
                go_step
                go_step
                gi_meet
                case rel => exact ⟨g3, g4, c1, c2, A1, A2, rfl, rfl, GE_g3, GE_g4, ⟨N1g3.out, N1g4.out, N34.out⟩, E, B3, B4, RM, RI, HB⟩
              exact AllReadyL.nil
            exact AllReadyL.nil
          exact AllReadyL.nil
        exact AllReadyL.nil
      refine AllReadyL.cons (o := Oper.mk _ _ _ _ _ _) rfl (by decide) (fun K hK => ?_) ?_
      · refine rg_alloc HB (by rfl) (#[.int .i64 0, .slice none 0 0]) 34 (by first | (go_simp; done) | (go_simp; rfl)) ?_
        intro g3 W' G3 GE_g3 B3 HBn hb
        have N1g3 := Aside0.mk (show g1 < g3 by have := L1.out.1; have := HZ.out; have := G3.out; omega)
        have N34 := Aside0.mk (show g3 ≠ g4 by have := B4.lt; have := G3.out; omega)
        clear HBn
        replace E := E.below hb.out
        replace HB := HB.step hb.out
        replace HZ := Aside0.mk (Nat.le_trans HZ.out hb.out.size)
        replace B4 := B4.below hb.out
        refine hK.out _ _ E (fun hS => ?_)
        clear hK K hb G3
        try simp only [Act.put, List.setIfInBounds_toArray, List.set_cons_zero, List.set_cons_succ]
        refine wpAnyLast_ready (rs := [1]) (by kernel_rfl) (by simp) ?_
        refine AllReadyL.cons (o := Oper.mk _ _ _ _ _ _) rfl (by decide) (fun K hK => ?_) ?_
        · refine call_ 18 #[.string s] (by rfl) rfl (by first | (go_simp; done) | (go_simp; rfl)) ((quotes_Marks.walk s _ HS.out).mono ?_)
          rintro e W' ⟨v, rfl, hrow, hb'⟩
          obtain ⟨A1, c1, rfl⟩ := own_slice hrow
          rw [← HNW.out] at hrow ⊢
          have hb := Aside0.mk hb'
          have RM := Aside0.mk (row_mono hrow HB.le)
          have V1 := Aside0.mk (row_one hrow)
          clear hrow hb'
          replace E := E.below hb.out
          replace HB := HB.step hb.out
          replace HZ := Aside0.mk (Nat.le_trans HZ.out hb.out.size)
          replace B3 := B3.below hb.out
          replace B4 := B4.below hb.out
          refine ⟨_, rfl, ?_⟩
          refine hK.out _ _ E (fun hS => ?_)
          clear hK K hb
          try simp only [Act.put, List.setIfInBounds_toArray, List.set_cons_zero, List.set_cons_succ]
          refine wpAnyLast_ready (rs := [3]) (by kernel_rfl) (by simp) ?_
          refine AllReadyL.cons (o := Oper.mk _ _ _ _ _ _) rfl (by decide) (fun K hK => ?_) ?_
          · refine call_ 19 #[.string s] (by rfl) rfl (by first | (go_simp; done) | (go_simp; rfl)) ((quotes_Inside.walk s _ HS.out).mono ?_)
            rintro e W' ⟨v, rfl, hrow, hb'⟩
            obtain ⟨A2, c2, rfl⟩ := own_slice hrow
            rw [← HNW.out] at hrow ⊢
            have hb := Aside0.mk hb'
            have RI := Aside0.mk (row_mono hrow HB.le)
            have V2 := Aside0.mk (row_one hrow)
            clear hrow hb'
            replace E := E.below hb.out
            replace HB := HB.step hb.out
            replace HZ := Aside0.mk (Nat.le_trans HZ.out hb.out.size)
            replace RM := Aside0.mk (row_below RM.out hb.out)
            replace B3 := B3.below hb.out
            replace B4 := B4.below hb.out
            refine ⟨_, rfl, ?_⟩
            refine hK.out _ _ E (fun hS => ?_)
            clear hK K hb
            try simp only [Act.put, List.setIfInBounds_toArray, List.set_cons_zero, List.set_cons_succ]
            refine wpAnyLast_ready (rs := [6]) (by kernel_rfl) (by simp) ?_
            refine AllReadyL.cons_last (o := Oper.mk _ _ _ _ _ _) rfl (by decide) (fun K hK => ?_) ?_
            · refine rg_store HB (by rfl) B3 GE_g3 34 _ _ rfl rfl rfl (by kernel_rfl) rfl (by simp [Value.oneCell']) ?_
              intro w6 B3n HBn K6
              replace E := E.other K6 (Nat.ne_of_lt N1g3.out)
              replace B4 := B4.other K6 (Ne.symm N34.out)
              replace RM := Aside0.mk (row_other RM.out B3 (by decide) K6)
              replace RI := Aside0.mk (row_other RI.out B3 (by decide) K6)
              replace B3 := B3n
              replace HB := HBn
              clear B3n HBn K6 HZ
              have HZ := Aside0.mk (Nat.le_refl 0)
              refine hK.out _ _ ?_
              clear hK K
              try simp only [Act.put, List.setIfInBounds_toArray, List.set_cons_zero, List.set_cons_succ]
              refine wpAnyLast_ready (rs := [7]) (by kernel_rfl) (by simp) ?_
              refine AllReadyL.cons_last (o := Oper.mk _ _ _ _ _ _) rfl (by decide) (fun K hK => ?_) ?_
              · refine rg_store HB (by rfl) B4 GE_g4 34 _ _ rfl rfl rfl (by kernel_rfl) rfl (by simp [Value.oneCell']) ?_
                intro w7 B4n HBn K7
                replace E := E.other K7 (Nat.ne_of_lt N1g4.out)
                replace B3 := B3.other K7 N34.out
                replace RM := Aside0.mk (row_other RM.out B4 (by decide) K7)
                replace RI := Aside0.mk (row_other RI.out B4 (by decide) K7)
                replace B4 := B4n
                replace HB := HBn
                clear B4n HBn K7 HZ
                have HZ := Aside0.mk (Nat.le_refl 0)
                refine hK.out _ _ ?_
                clear hK K
                try simp only [Act.put, List.setIfInBounds_toArray, List.set_cons_zero, List.set_cons_succ]
                refine wpAnyLast_done (by kernel_rfl) ?_ _
                refine NoPanic.normal ?_
                go_step
                go_step
                gi_meet
                case rel => exact ⟨g3, g4, c1, c2, A1, A2, rfl, rfl, GE_g3, GE_g4, ⟨N1g3.out, N1g4.out, N34.out⟩, E, B3, B4, RM, RI, HB⟩
              exact AllReadyL.nil
            exact AllReadyL.nil
          exact AllReadyL.nil
        exact AllReadyL.nil
      exact AllReadyL.nil
    exact AllReadyL.nil
  case rest =>
    obtain ⟨g3, g4, c1, c2, A1, A2, rfl, rfl, GE_g3, GE_g4, N134, E1, B3, B4, RM, RI, HB⟩ := hcut
    gi_upto_region 3 with (first
      | (gi_at_call 84; refine (callsIn_of HF (marks_classes.tells _)).mono ?_; rintro e w2 ⟨rfl, hb2⟩; have HK2 := Aside0.mk hb2; have HBn := HB.step hb2; clear HB hb2; have HB := HBn; clear HBn)
      | ((with_reducible refine gate_dstIn (N := 5) rfl ?_); refine ev_allocIn HB rfl rfl (clsA fun _ => false) 111 ?hr ?_; (case hr => (rw [← clsA_zero]; go_simp; rfl)); intro g5 w3 G_g5 GE_g5 B_g5 HBn K_g5 KO_w3; clear HB; have HB := HBn; clear HBn)
      | ((with_reducible refine gate_dstIn (N := 6) rfl ?_); refine ev_allocIn HB rfl rfl (clsA fun _ => false) 111 ?hr ?_; (case hr => (rw [← clsA_zero]; go_simp; rfl)); intro g6 w4 G_g6 GE_g6 B_g6 HBn K_g6 KO_w4; clear HB; have HB := HBn; clear HBn)
      | ((with_reducible refine gate_In (Op.store 111 (.tmp 5) (.tmp 22)) rfl ?_); refine ev_storeIn HB (B_g5.below K_g6.out) GE_g5 rfl 111 _ _ rfl rfl rfl (sizeC' _) (by simp only [clsA_size]) (clsA_one _) ?_; intro w5 B5 HBn K5 KO5; clear HB; have HB := HBn; clear HBn)
      | ((with_reducible refine gate_In (Op.store 111 (.tmp 6) (.tmp 23)) rfl ?_); refine ev_storeIn HB (B_g6.other K5 (Nat.ne_of_gt (Nat.lt_of_lt_of_le B_g5.lt G_g6.out))) GE_g6 rfl 111 _ _ rfl rfl rfl (sizeC' _) (by simp only [clsA_size]) (clsA_one _) ?_; intro w6 B6 HBn K6 KO6; clear HB; have HB := HBn; clear HBn))
    have N0 := Aside0.mk (show g1 < g5 ∧ g3 < g5 ∧ g4 < g5 ∧ g5 < g6 by have := E1.lt; have := B3.lt; have := B4.lt; have := HK2.out.size; have := G_g5.out; have := B_g5.lt; have := G_g6.out; omega)
    have k56 := below_step K_g5.out K_g6.out
    have k26 := below_step HK2.out k56
    have n1 := N0.out
    have E1' := ((E1.below k26).other K5 (by omega)).other K6 (by omega)
    have B3' := ((B3.below k26).other K5 (by omega)).other K6 (by omega)
    have B4' := ((B4.below k26).other K5 (by omega)).other K6 (by omega)
    have B5' := B5.other K6 (by omega)
    have RM' := Aside0.mk (row_other (row_other (row_below RM.out k26) (B_g5.below K_g6.out) (by decide) K5) (B_g6.other K5 (by omega)) (by decide) K6)
    have RI' := Aside0.mk (row_other (row_other (row_below RI.out k26) (B_g5.below K_g6.out) (by decide) K5) (B_g6.other K5 (by omega)) (by decide) K6)
    have c31 := B3'.cell (i := 1) rfl
    clear E1 B3 B4 B5 RM RI k56 k26 n1 K_g5 K_g6 HK2 K5 K6 B_g5 B_g6 G_g5 G_g6 KO_w3 KO_w4 KO5 KO6
    gi_upto_region 4 with (first
      | ((with_reducible refine gate_dstIn (N := 27) rfl ?_); refine ev_makeIn HB rfl 73 77 _ _ (.agg #[.int .u64 0, .int .u64 0, .int .u64 0, .int .u64 0]) 4 32 nw rfl rfl rfl Tryd.underlying73 (by kernel_rfl) (by omega) (by unfold maxLen; omega) ?_; intro gr w7 GR RO HBn K_gr KO7; clear HB; have HB := HBn; clear HBn)
      | ((with_reducible refine gate_dstIn (N := 7) rfl ?_); refine ev_allocIn HB rfl rfl (#[.slice none 0 0]) 73 ?hr ?_; (case hr => first | (go_simp; done) | (go_simp; rfl)); intro g7 w8 G_g7 GE_g7 B_g7 HBn K_g7 KO_w8; clear HB; have HB := HBn; clear HBn)
      | ((with_reducible refine gate_In (Op.store 73 (.tmp 7) (.tmp 27)) rfl ?_); refine ev_store1In (i := 0) HB B_g7 GE_g7 rfl 73 _ _ rfl rfl (.slice (some ⟨gr, 0, none⟩) 0 nw) rfl (by simp) (by kernel_rfl) rfl ?_; intro w9 B7 HBn K_w9 KO_w9; clear HB; have HB := HBn; clear HBn))
    have N7 := Aside0.mk (show g6 < g7 by have := B6.lt; have := K_gr.out.size; have := G_g7.out; omega)
    have k78 := below_step K_gr.out K_g7.out
    have n1 := N0.out
    have n2 := N7.out
    have RO' := row_other (row_below RO K_g7.out) B_g7 (by decide) K_w9
    have E1 := (E1'.below k78).other K_w9 (by omega)
    have B3 := (B3'.below k78).other K_w9 (by omega)
    have B4 := (B4'.below k78).other K_w9 (by omega)
    have B5 := (B5'.below k78).other K_w9 (by omega)
    have B6n := (B6.below k78).other K_w9 (by omega)
    have RM := Aside0.mk (row_other (row_below RM'.out k78) B_g7 (by decide) K_w9)
    have RI := Aside0.mk (row_other (row_below RI'.out k78) B_g7 (by decide) K_w9)
    have c10 := E1.cell (i := 0) rfl
    clear E1' B3' B4' B5' B6 RM' RI' c31 k78 n1 n2 K_gr K_g7 K_w9 B_g7 RO G_g7 GR KO7 KO_w8 KO_w9
    gi_wp2_with (first
      | (gi_at_call 55; refine (callsIn_of HF (block_Blocks.calls s 32 _)).mono ?_; rintro e w10 ⟨h1, h2, rfl, GE1, GE2, A_1, A_2, HB7⟩))
    obtain ⟨v1, hv1⟩ : ∃ v1, v1 = Value.slice A1 nw c1 := ⟨_, rfl⟩
    obtain ⟨v2, hv2⟩ : ∃ v2, v2 = Value.slice A2 nw c2 := ⟨_, rfl⟩
    obtain ⟨L, hL⟩ : ∃ L : List (Nat × Array Value × Nat), L = [(g1, #[.string s], 9), (g3, #[.int .i64 s.size, .slice A1 nw c1], 34), (g4, #[.int .i64 s.size, .slice A2 nw c2], 34), (g5, clsA sgx, 111), (g6, clsA blx, 111), (h1, #[.string s], 9), (h2, #[.int .u8 32], 5)] := ⟨_, rfl⟩
    have CL : Blks L w10 := ⟨by
      rw [hL]
      intro b m
      simp at m
      rcases m with rfl | rfl | rfl | rfl | rfl | rfl | rfl
      · exact E1.below HB7.out
      · exact B3.below HB7.out
      · exact B4.below HB7.out
      · exact B5.below HB7.out
      · exact B6n.below HB7.out
      · exact A_1
      · exact A_2⟩
    have C7 := B7.below HB7.out
    have L7 := C7.lt
    have CO := row_below RO' HB7.out
    have CM := row_below RM.out HB7.out
    have CI := row_below RI.out HB7.out
    have LL : ∀ b ∈ L, b.1 < w10.heap.size := fun b m => (CL.out b m).lt
    have LT : ∀ b ∈ L, b.2.2 ≠ 77 := by
      rw [hL]
      intro b m
      simp at m
      rcases m with rfl | rfl | rfl | rfl | rfl | rfl | rfl <;> (dsimp only; decide)
    have LN : ∀ b ∈ L, b.1 ≠ g7 := by
      have := N0.out
      have := N7.out
      have := B7.lt
      rw [hL]
      intro b m
      simp at m
      rcases m with rfl | rfl | rfl | rfl | rfl | rfl | rfl <;> (dsimp only; omega)
    have M1 : (g1, #[.string s], 9) ∈ L := by rw [hL]; simp
    have M3 : (g3, #[.int .i64 s.size, .slice A1 nw c1], 34) ∈ L := by rw [hL]; simp
    have M4 : (g4, #[.int .i64 s.size, .slice A2 nw c2], 34) ∈ L := by rw [hL]; simp
    have M5 : (g5, clsA sgx, 111) ∈ L := by rw [hL]; simp
    have M6 : (g6, clsA blx, 111) ∈ L := by rw [hL]; simp
    have M7 : (h1, #[.string s], 9) ∈ L := by rw [hL]; simp
    have M8 : (h2, #[.int .u8 32], 5) ∈ L := by rw [hL]; simp
    have HBW := HB.step HB7.out
    have LH1 := A_1.lt
    have LH2 := A_2.lt
    have PL := Aside0.mk (And.intro LL (And.intro LT LN))
    have PM := Aside0.mk (And.intro M1 (And.intro M3 (And.intro M4 (And.intro M5 (And.intro M6 (And.intro M7 M8))))))
    clear E1 B3 B4 B5 B6n B7 RO' RM RI HB7 HB c10 hL LL LT LN M1 M3 M4 M5 M6 M7 M8 N0 N7 hv1 hv2 v1 v2
    refine wpIn_rangeFunc_ownH hro (by decide) (gf := 92) (lb := #[.pointer (some ⟨h1, 0, none⟩), .pointer (some ⟨h2, 0, none⟩)]) rfl f2 (enters_of Tryd.func92 (by kernel_rfl) rfl)
      (block_Blocks_1.stops F HF (9 - 1) (by decide) h1 h2 s 32 HS.out w10 A_1 A_2) Keep2.trans (fun W l o o' hl ho hc hw => Keep2.putObj LH1 LH2 W l o o' hl ho hc hw) (Below.refl _ _) (fun _ => rfl)
      (LookI s nw w L w10.heap.size g7 (.slice A1 nw c1) (.slice A2 nw c2)) (fun _ _ _ => False)
      (fun pre A B row hs hg hr => hs.kept HBW.le hg hr)
      (fun _ _ _ _ _ hs _ _ => hs)
      ⟨CL, CM, CI, ⟨_, C7, CO⟩, HBW, Nat.le_refl _⟩
      (fun x a' W => ∃ gb, w10.heap.size ≤ gb ∧ Blk W gb (blkA (cutF s (64 * ((x.val : Nat) : Int)) 32)) 85 ∧ a' = { tmps := #[.string s, .pointer (some ⟨g1, 0, none⟩), .slice none 0 0, .pointer (some ⟨g3, 0, none⟩), .pointer (some ⟨g4, 0, none⟩), .pointer (some ⟨g5, 0, none⟩), .pointer (some ⟨g6, 0, none⟩), .pointer (some ⟨g7, 0, none⟩), .int .i64 (64 * ((x.val : Nat) : Int)), .pointer (some ⟨gb, 0, none⟩), undef, undef, undef, undef, undef, undef, u16, u17, u18, u19, .tuple #[.agg (clsA sgx), .agg (clsA blx)], .tuple #[.agg (clsA sgx), .agg (clsA blx)], .agg (clsA sgx), .agg (clsA blx), .pointer (some ⟨g3, 1, none⟩), .slice A1 nw c1, .int .i64 (nw : Int), .slice (some ⟨gr, 0, none⟩) 0 nw, .string s, .func (.func 92) #[] #[.pointer (some ⟨h1, 0, none⟩), .pointer (some ⟨h2, 0, none⟩)], .int .i64 (64 * ((x.val : Nat) : Int)), .agg (blkA (cutF s (64 * ((x.val : Nat) : Int)) 32)), u32, u33, u34, u35, u36, u37, u38, u39, u40, u41, u42, u43, u44, u45, u46, u47, u48, u49, u50, u51, u52, u53, u54, u55, u56, u57, u58, u59, u60, u61, u62, u63, u64, u65, u66, u67, u68, u69, u70, u71, u72, u73, u74, u75, u76, u77, u78, u79, u80, u81, u82, u83, u84, u85], defers := [] })
      (fun x a' pre A B row hs hg hr => by
        obtain ⟨gb, h1, h2, h3⟩ := hs
        exact ⟨gb, h1, h2.kept hg (fun r e => (hr r e).2), h3⟩)
      ?assign ?body ?done ?stop
    case assign =>
      intro l pre x W K hI hK
      have HB := hI.hb
      have SZ := Aside0.mk hI.sz
      dsimp only [blkEnc]
      gi_wp2_with (first
        | ((with_reducible refine gate_dstIn (N := 9) rfl ?_); refine ev_allocIn HB rfl rfl (blkA fun _ => 0) 85 ?hr ?_; (case hr => (rw [← blkA_zero]; go_simp; rfl)); intro gb w15 G_gb GE_gb B_gb HBn K_gb KO_w15; clear HB; have HB := HBn; clear HBn)
        | ((with_reducible refine gate_In (Op.store 85 (.tmp 9) (.tmp 31)) rfl ?_); refine ev_storeIn HB B_gb GE_gb rfl 85 _ _ rfl rfl rfl (size64' _) (by rw [blkA_size, blkA_size]) (blkA_one _) ?_; intro w16 B16 HBn K_w16 KO_w16; clear HB; have HB := HBn; clear HBn))
      have hKO := KO_w15.out.trans KO_w16.out
      refine hK _ _ (hKO.from _) ?_ ?_ ⟨gb, Nat.le_trans SZ.out G_gb.out, B16, rfl⟩
      · exact (Keep2.below K_gb.out (by have := SZ.out; omega) (by have := SZ.out; omega)).trans (Keep2.other K_w16 (by have := SZ.out; have := G_gb.out; omega) (by have := SZ.out; have := G_gb.out; omega))
      · have N : ∀ g, g < w10.heap.size → g ≠ gb := fun g h => by have := SZ.out; have := G_gb.out; omega
        exact (hI.below K_gb.out).other B_gb (by decide) (by decide) (fun b m => N _ (PL.out.1 b m)) (N _ L7) HB K_w16
    case body =>
      rintro l pre x a' W hl ⟨r, hr⟩ hI ⟨gb, hgb, BX, rfl⟩ hlt
      clear hr
      have hxn : x.val < nw := by rw [HNW.out]; exact x.isLt
      have hx : 64 * x.val < s.size := by have := x.isLt; unfold nwords at this; omega
      obtain ⟨hrl1, (⟨_, hn0⟩ | ⟨gm, cap1, cur1, he, hbg1, BM, hnc1, hcm1, hcs1, HA1⟩)⟩ := row_open hI.r1
      · omega
      injection he with he1 he2 he3
      subst he1
      subst he3
      clear he2
      obtain ⟨hrl2, (⟨_, hn0⟩ | ⟨gi, cap2, cur2, he, hbg2, BI, hnc2, hcm2, hcs2, HA2⟩)⟩ := row_open hI.r2
      · omega
      injection he with he1 he2 he3
      subst he1
      subst he3
      clear he2
      have word_get : ∀ q : Nat → Bool, ((wordsOf s.size q).map (Value.int .u64))[x.val]? = some (.int .u64 (iv (wordAt s.size q x.val))) := fun q => by
        rw [List.getElem?_map, wordsOf, List.getElem?_map, List.getElem?_range x.isLt]
        rfl
      obtain ⟨MK, hMK⟩ : ∃ MK, MK = iv (wordAt s.size (mkq s) x.val) := ⟨_, rfl⟩
      obtain ⟨IN, hIN⟩ : ∃ IN, IN = iv (wordAt s.size (insS s) x.val) := ⟨_, rfl⟩
      obtain ⟨O, hO⟩ : ∃ O, O = iv (wordAt s.size (outq s) x.val) := ⟨_, rfl⟩
      obtain ⟨SG, hSG⟩ : ∃ SG, SG = iv (word fun j => sgx (cutF s (64 * ((x.val : Nat) : Int)) 32 j).toNat) := ⟨_, rfl⟩
      obtain ⟨BL, hBL⟩ : ∃ BL, BL = iv (word fun j => blx (cutF s (64 * ((x.val : Nat) : Int)) 32 j).toNat) := ⟨_, rfl⟩
      obtain ⟨SW, hSW⟩ : ∃ SW, SW = iv (wordAt s.size (sgq s) x.val) := ⟨_, rfl⟩
      obtain ⟨BW, hBW⟩ : ∃ BW, BW = iv (wordAt s.size (blq s) x.val) := ⟨_, rfl⟩
      obtain ⟨PW, hPW⟩ : ∃ PW, PW = iv (wordAt s.size (opq s) x.val) := ⟨_, rfl⟩
      obtain ⟨O2, hO2⟩ : ∃ O2, O2 = iv (wordAt s.size (fun i => outq s i && !sgq s i) x.val) := ⟨_, rfl⟩
      obtain ⟨WW, hWW⟩ : ∃ WW, WW = iv (wordAt s.size (wdq s) x.val) := ⟨_, rfl⟩
      have HGM := Aside0.mk (HA1.get (hMK ▸ word_get (mkq s)))
      have HGI := Aside0.mk (HA2.get (hIN ▸ word_get (insS s)))
      have OFF : Aside0 (64 * x.val + 64 ≤ s.size → bits .xor .u64 (if IntKind.u64.signed = true then -1 else IntKind.u64.max) (bits .or .u64 MK IN) = O) := ⟨fun h => by rw [show (if IntKind.u64.signed = true then -1 else IntKind.u64.max) = 18446744073709551615 from rfl, hMK, hIN, hO]; exact out_full s x.val h⟩
      have OFP : Aside0 (s.size < 64 * x.val + 64 → bits .and .u64 (bits .xor .u64 (if IntKind.u64.signed = true then -1 else IntKind.u64.max) (bits .or .u64 MK IN)) (IntKind.u64.wrap (IntKind.u64.wrap (2 ^ (s.size - 64 * x.val)) - 1)) = O) := ⟨fun h => by rw [show (if IntKind.u64.signed = true then -1 else IntKind.u64.max) = 18446744073709551615 from rfl, hMK, hIN, hO]; exact out_part s x.val hx h⟩
      have Q1 : Aside0 (bits .and .u64 SG O = SW) := ⟨by rw [hSG, hO, hSW]; exact class_out s x.val sgx⟩
      have Q2 : Aside0 (bits .and .u64 BL O = BW) := ⟨by rw [hBL, hO, hBW]; exact class_out s x.val blx⟩
      have Q3 : Aside0 (bits .and .u64 MK IN = PW) := ⟨by rw [hMK, hIN, hPW]; exact opens_out s x.val⟩
      have Q4 : Aside0 (bits .andNot .u64 O SW = O2) := ⟨by rw [hO, hSW, hO2]; exact word_minus s.size (outq s) (sgq s) x.val⟩
      have Q5 : Aside0 (bits .andNot .u64 O2 BW = WW) := ⟨by rw [hO2, hBW, hWW]; exact word_minus s.size _ (blq s) x.val⟩
      have MSK : Aside0 (∀ (p : Nat → Bool) (w : World), Calls Tryd.prog 85 #[.agg (blkA (cutF s (64 * ((x.val : Nat) : Int)) 32)), .agg (clsA p)] w fun e w' => e = .returned (.int .u64 (iv (word fun j => p (cutF s (64 * ((x.val : Nat) : Int)) 32 j).toNat))) ∧ Below w.heap.size w w') := ⟨fun p w => block_Mask.calls _ (fun i => cutF_range s _ 32 (by decide) i) p w⟩
      have MS1 : Aside0 (∀ w, Calls Tryd.prog 85 #[.agg (blkA (cutF s (64 * ((x.val : Nat) : Int)) 32)), .agg (clsA sgx)] w fun e w' => e = .returned (.int .u64 SG) ∧ Below w.heap.size w w') := ⟨fun w => by rw [hSG]; exact MSK.out sgx w⟩
      have MS2 : Aside0 (∀ w, Calls Tryd.prog 85 #[.agg (blkA (cutF s (64 * ((x.val : Nat) : Int)) 32)), .agg (clsA blx)] w fun e w' => e = .returned (.int .u64 BL) ∧ Below w.heap.size w w') := ⟨fun w => by rw [hBL]; exact MSK.out blx w⟩
      have ROW : Aside0 (rowN s x.val = [.int .u64 SW, .int .u64 BW, .int .u64 PW, .int .u64 WW]) := ⟨by rw [hSW, hBW, hPW, hWW]; rfl⟩
      have HX := Aside0.mk hx
      have HL : Aside0 ((pre.length + 1) * 32 ≤ 140737488355328) := ⟨by have h0 : pre.length < nwords s.size := hlt; have h1 : nwords s.size = (s.size + 63) / 64 := rfl; have := HS.out; omega⟩
      have hq1 : 64 * ((x.val : Nat) : Int) / 64 = ((x.val : Nat) : Int) := by omega
      have hq2 : Int.tdiv (64 * ((x.val : Nat) : Int)) 64 = ((x.val : Nat) : Int) := by rw [Int.tdiv_eq_ediv_of_nonneg (by omega)]; omega
      have hq3 : (0 : Int) ≤ ((x.val : Nat) : Int) := by omega
      have hq4 : ((x.val : Nat) : Int) < (nw : Int) := by omega
      have hq5 : ((x.val : Nat) : Int) ≤ 4398046511104 := by omega
      have hq6 : IntKind.i64.wrap ((x.val : Nat) : Int) = ((x.val : Nat) : Int) := by rw [i64_w]; unfold wrap64; omega
      have hbd : Aside0 (Below W.heap.size W W.drew) := ⟨below_drew (Below.refl _ _)⟩
      have HI := Aside0.mk hI
      obtain ⟨v, b7, ho⟩ := hI.out
      have VB : Aside0 (∀ k, v.ownBlock = some k → k < W.heap.size) := ⟨fun k ek => (ho.lt k ek).2⟩
      have E := hI.bs.below hbd.out
      have R1 := Aside0.mk (row_below hI.r1 hbd.out)
      have R2 := Aside0.mk (row_below hI.r2 hbd.out)
      have B7 := b7.below hbd.out
      have RO := Aside0.mk (row_below ho hbd.out)
      have HB := hI.hb.step hbd.out
      clear b7 ho
      have BX' := BX.below hbd.out
      have BM' := BM.below hbd.out
      have BI' := BI.below hbd.out
      have KO' := Aside0.mk (keepsOthers_below hbd.out)
      have HZ' := Aside0.mk hbd.out.size
      clear hMK hIN hO hSG hBL hSW hBW hPW hO2 hWW MSK word_get hrl1 hbg1 BM hnc1 hcm1 hcs1 HA1 hrl2 hbg2 BI hnc2 hcm2 hcs2 HA2 BX hI hlt hxn hx
      gi_upto_region 8 with (fail)
      refine wpIn_region_last_drew HF (S := fun W' => Blk W' g3 #[.int .i64 s.size, .slice (some ⟨gm, 0, none⟩) nw c1] 34 ∧ Blk W' g4 #[.int .i64 s.size, .slice (some ⟨gi, 0, none⟩) nw c2] 34 ∧ Blk W' gm cur1 75 ∧ Blk W' gi cur2 75) (ds := []) (by kernel_rfl) (by kernel_rfl) ⟨E.out _ PM.out.2.1, E.out _ PM.out.2.2.1, BM', BI'⟩ (fun hS => ?_)
      refine' wpAnyLast_take (i := 0) (oi := Oper.mk _ _ _ _ _ _) rfl (by kernel_rfl) (by kernel_rfl) (by kernel_rfl) (by kernel_rfl) (by kernel_rfl) (fun _ _ _ h => h) (Or.inl ⟨by rfl, ?hy27⟩) hS ?rest27
      case hy27 => (intro w hSw; (try dsimp only at hSw); first | (go_simp; done) | (go_simp; with_reducible rfl))
      try simp only [Act.put, List.setIfInBounds_toArray, List.set_cons_zero, List.set_cons_succ]
      refine wpAnyLast_take (i := 1) (oi := Oper.mk _ _ _ _ _ _) rfl (by kernel_rfl) (by kernel_rfl) (by kernel_rfl) (by kernel_rfl) (by kernel_rfl) (fun _ _ _ h => h) (rg_load1 (by rfl) (fun _ hS => hS.1.cell (i := 1) rfl) 32 _ rfl rfl (fun _ => by simp [isAgg, run_underlying Tryd.underlying32])) hS ?_
      try simp only [Act.put, List.setIfInBounds_toArray, List.set_cons_zero, List.set_cons_succ]
      refine' wpAnyLast_take (i := 2) (oi := Oper.mk _ _ _ _ _ _) rfl (by kernel_rfl) (by kernel_rfl) (by kernel_rfl) (by kernel_rfl) (by kernel_rfl) (fun _ _ _ h => h) (Or.inl ⟨by rfl, ?hy28⟩) hS ?rest28
      case hy28 => (intro w hSw; (try dsimp only at hSw); first | (go_simp; done) | (go_simp; with_reducible rfl))
      try simp only [Act.put, List.setIfInBounds_toArray, List.set_cons_zero, List.set_cons_succ]
      refine' wpAnyLast_take (i := 3) (oi := Oper.mk _ _ _ _ _ _) rfl (by kernel_rfl) (by kernel_rfl) (by kernel_rfl) (by kernel_rfl) (by kernel_rfl) (fun _ _ _ h => h) (Or.inl ⟨by rfl, ?hy29⟩) hS ?rest29
      case hy29 => (intro w hSw; (try dsimp only at hSw); first | (go_simp; done) | (go_simp; with_reducible rfl))
      try simp only [Act.put, List.setIfInBounds_toArray, List.set_cons_zero, List.set_cons_succ]
      refine wpAnyLast_take (i := 4) (oi := Oper.mk _ _ _ _ _ _) rfl (by kernel_rfl) (by kernel_rfl) (by kernel_rfl) (by kernel_rfl) (by kernel_rfl) (fun _ _ _ h => h) (rg_load1 (by rfl) (fun _ hS => hS.2.2.1.cell HGM.out) 75 _ rfl rfl (fun _ => by simp [isAgg, run_underlying Tryd.underlying75])) hS ?_
      try simp only [Act.put, List.setIfInBounds_toArray, List.set_cons_zero, List.set_cons_succ]
      refine' wpAnyLast_take (i := 5) (oi := Oper.mk _ _ _ _ _ _) rfl (by kernel_rfl) (by kernel_rfl) (by kernel_rfl) (by kernel_rfl) (by kernel_rfl) (fun _ _ _ h => h) (Or.inl ⟨by rfl, ?hy30⟩) hS ?rest30
      case hy30 => (intro w hSw; (try dsimp only at hSw); first | (go_simp; done) | (go_simp; with_reducible rfl))
      try simp only [Act.put, List.setIfInBounds_toArray, List.set_cons_zero, List.set_cons_succ]
      refine wpAnyLast_take (i := 6) (oi := Oper.mk _ _ _ _ _ _) rfl (by kernel_rfl) (by kernel_rfl) (by kernel_rfl) (by kernel_rfl) (by kernel_rfl) (fun _ _ _ h => h) (rg_load1 (by rfl) (fun _ hS => hS.2.1.cell (i := 1) rfl) 32 _ rfl rfl (fun _ => by simp [isAgg, run_underlying Tryd.underlying32])) hS ?_
      try simp only [Act.put, List.setIfInBounds_toArray, List.set_cons_zero, List.set_cons_succ]
      refine' wpAnyLast_take (i := 7) (oi := Oper.mk _ _ _ _ _ _) rfl (by kernel_rfl) (by kernel_rfl) (by kernel_rfl) (by kernel_rfl) (by kernel_rfl) (fun _ _ _ h => h) (Or.inl ⟨by rfl, ?hy31⟩) hS ?rest31
      case hy31 => (intro w hSw; (try dsimp only at hSw); first | (go_simp; done) | (go_simp; with_reducible rfl))
      try simp only [Act.put, List.setIfInBounds_toArray, List.set_cons_zero, List.set_cons_succ]
      refine' wpAnyLast_take (i := 8) (oi := Oper.mk _ _ _ _ _ _) rfl (by kernel_rfl) (by kernel_rfl) (by kernel_rfl) (by kernel_rfl) (by kernel_rfl) (fun _ _ _ h => h) (Or.inl ⟨by rfl, ?hy32⟩) hS ?rest32
      case hy32 => (intro w hSw; (try dsimp only at hSw); first | (go_simp; done) | (go_simp; with_reducible rfl))
      try simp only [Act.put, List.setIfInBounds_toArray, List.set_cons_zero, List.set_cons_succ]
      refine wpAnyLast_take (i := 9) (oi := Oper.mk _ _ _ _ _ _) rfl (by kernel_rfl) (by kernel_rfl) (by kernel_rfl) (by kernel_rfl) (by kernel_rfl) (fun _ _ _ h => h) (rg_load1 (by rfl) (fun _ hS => hS.2.2.2.cell HGI.out) 75 _ rfl rfl (fun _ => by simp [isAgg, run_underlying Tryd.underlying75])) hS ?_
      try simp only [Act.put, List.setIfInBounds_toArray, List.set_cons_zero, List.set_cons_succ]
      refine' wpAnyLast_take (i := 10) (oi := Oper.mk _ _ _ _ _ _) rfl (by kernel_rfl) (by kernel_rfl) (by kernel_rfl) (by kernel_rfl) (by kernel_rfl) (fun _ _ _ h => h) (Or.inl ⟨by rfl, ?hy33⟩) hS ?rest33
      case hy33 => (intro w hSw; (try dsimp only at hSw); first | (go_simp; done) | (go_simp; with_reducible rfl))
      try simp only [Act.put, List.setIfInBounds_toArray, List.set_cons_zero, List.set_cons_succ]
      refine' wpAnyLast_take (i := 11) (oi := Oper.mk _ _ _ _ _ _) rfl (by kernel_rfl) (by kernel_rfl) (by kernel_rfl) (by kernel_rfl) (by kernel_rfl) (fun _ _ _ h => h) (Or.inl ⟨by rfl, ?hy34⟩) hS ?rest34
      case hy34 => (intro w hSw; (try dsimp only at hSw); first | (go_simp; done) | (go_simp; with_reducible rfl))
      try simp only [Act.put, List.setIfInBounds_toArray, List.set_cons_zero, List.set_cons_succ]
      refine wpAnyLast_done (by kernel_rfl) ?_ _
      refine Straight.normal ?_
      have c1s := (E.out _ PM.out.1).cell (i := 0) rfl
      have hs1 : (s.size : Int) ≤ 281474976702464 := by have := HS.out; omega
      have hx1 : 64 * ((x.val : Nat) : Int) < s.size := by have := HX.out; omega
      clear BM' BI' hS hq1 hq2 hq4 hq6
      by_cases hfull : (s.size : Int) - 64 * ((x.val : Nat) : Int) < 64
      · gi_upto_region 13 with (fail)
        rw [OFP.out (by omega)]
        have q1 := Q1.out
        have q2 := Q2.out
        have q3 := Q3.out
        have hbd2 : Aside0 (Below W.drew.heap.size W.drew W.drew.drew) := ⟨below_drew (Below.refl _ _)⟩
        have hb := hbd2
        replace E := E.below hb.out
        replace R1 := Aside0.mk (row_below R1.out hb.out)
        replace R2 := Aside0.mk (row_below R2.out hb.out)
        replace B7 := B7.below hb.out
        replace RO := Aside0.mk (row_below RO.out hb.out)
        replace HB := HB.step hb.out
        replace BX' := BX'.below hb.out
        replace KO' := Aside0.mk (KO'.out.trans (keepsOthers_below hb.out))
        replace HZ' := Aside0.mk (Nat.le_trans HZ'.out hb.out.size)
        clear hb c1s hbd2 hfull
        refine wpIn_region_last_drew HF (S := fun W' => Blk W' gb (blkA (cutF s (64 * ((x.val : Nat) : Int)) 32)) 85 ∧ Blk W' g5 (clsA sgx) 111 ∧ Blk W' g6 (clsA blx) 111) (ds := [15]) (by kernel_rfl) (by kernel_rfl) ⟨BX', E.out _ PM.out.2.2.2.1, E.out _ PM.out.2.2.2.2.1⟩ (fun hS => ?_)
        refine wpAnyLast_take (i := 0) (oi := Oper.mk _ _ _ _ _ _) rfl (by kernel_rfl) (by kernel_rfl) (by kernel_rfl) (by kernel_rfl) (by kernel_rfl) (fun _ _ _ h => h) (rg_load (by rfl) (fun _ hS => hS.1) 85 _ rfl rfl Tryd.underlying85 rfl (size64' _)) hS ?_
        try simp only [Act.put, List.setIfInBounds_toArray, List.set_cons_zero, List.set_cons_succ]
        refine wpAnyLast_take (i := 1) (oi := Oper.mk _ _ _ _ _ _) rfl (by kernel_rfl) (by kernel_rfl) (by kernel_rfl) (by kernel_rfl) (by kernel_rfl) (fun _ _ _ h => h) (rg_load (by rfl) (fun _ hS => hS.2.1) 111 _ rfl rfl Tryd.underlying111 rfl (sizeC' _)) hS ?_
        try simp only [Act.put, List.setIfInBounds_toArray, List.set_cons_zero, List.set_cons_succ]
        refine' wpAnyLast_take (i := 3) (oi := Oper.mk _ _ _ _ _ _) rfl (by kernel_rfl) (by kernel_rfl) (by kernel_rfl) (by kernel_rfl) (by kernel_rfl) (fun _ _ _ h => h) (Or.inl ⟨by rfl, ?hy1⟩) hS ?rest1
        case hy1 => (intro w hSw; (try dsimp only at hSw); first | (go_simp; done) | (go_simp; with_reducible rfl))
        try simp only [Act.put, List.setIfInBounds_toArray, List.set_cons_zero, List.set_cons_succ]
        refine wpAnyLast_take (i := 5) (oi := Oper.mk _ _ _ _ _ _) rfl (by kernel_rfl) (by kernel_rfl) (by kernel_rfl) (by kernel_rfl) (by kernel_rfl) (fun _ _ _ h => h) (rg_load (by rfl) (fun _ hS => hS.1) 85 _ rfl rfl Tryd.underlying85 rfl (size64' _)) hS ?_
        try simp only [Act.put, List.setIfInBounds_toArray, List.set_cons_zero, List.set_cons_succ]
        refine wpAnyLast_take (i := 6) (oi := Oper.mk _ _ _ _ _ _) rfl (by kernel_rfl) (by kernel_rfl) (by kernel_rfl) (by kernel_rfl) (by kernel_rfl) (fun _ _ _ h => h) (rg_load (by rfl) (fun _ hS => hS.2.2) 111 _ rfl rfl Tryd.underlying111 rfl (sizeC' _)) hS ?_
        try simp only [Act.put, List.setIfInBounds_toArray, List.set_cons_zero, List.set_cons_succ]
        refine' wpAnyLast_take (i := 8) (oi := Oper.mk _ _ _ _ _ _) rfl (by kernel_rfl) (by kernel_rfl) (by kernel_rfl) (by kernel_rfl) (by kernel_rfl) (fun _ _ _ h => h) (Or.inl ⟨by rfl, ?hy2⟩) hS ?rest2
        case hy2 => (intro w hSw; (try dsimp only at hSw); first | (go_simp; done) | (go_simp; with_reducible rfl))
        try simp only [Act.put, List.setIfInBounds_toArray, List.set_cons_zero, List.set_cons_succ]
        refine' wpAnyLast_take (i := 10) (oi := Oper.mk _ _ _ _ _ _) rfl (by kernel_rfl) (by kernel_rfl) (by kernel_rfl) (by kernel_rfl) (by kernel_rfl) (fun _ _ _ h => h) (Or.inl ⟨by rfl, ?hy3⟩) hS ?rest3
        case hy3 => (intro w hSw; (try dsimp only at hSw); first | (go_simp; done) | (go_simp; with_reducible rfl))
        try simp only [Act.put, List.setIfInBounds_toArray, List.set_cons_zero, List.set_cons_succ]
        refine' wpAnyLast_take (i := 11) (oi := Oper.mk _ _ _ _ _ _) rfl (by kernel_rfl) (by kernel_rfl) (by kernel_rfl) (by kernel_rfl) (by kernel_rfl) (fun _ _ _ h => h) (Or.inl ⟨by rfl, ?hy4⟩) hS ?rest4
        case hy4 => (intro w hSw; (try dsimp only at hSw); first | (go_simp; done) | (go_simp; with_reducible rfl))
        try simp only [Act.put, List.setIfInBounds_toArray, List.set_cons_zero, List.set_cons_succ]
        refine' wpAnyLast_take (i := 12) (oi := Oper.mk _ _ _ _ _ _) rfl (by kernel_rfl) (by kernel_rfl) (by kernel_rfl) (by kernel_rfl) (by kernel_rfl) (fun _ _ _ h => h) (Or.inl ⟨by rfl, ?hy5⟩) hS ?rest5
        case hy5 => (intro w hSw; (try dsimp only at hSw); first | (go_simp; done) | (go_simp; with_reducible rfl))
        try simp only [Act.put, List.setIfInBounds_toArray, List.set_cons_zero, List.set_cons_succ]
        refine wpAnyLast_ready (rs := [2, 14]) (by kernel_rfl) (by simp) ?_
        refine AllReadyL.cons (o := Oper.mk _ _ _ _ _ _) rfl (by decide) (fun K hK => ?_) ?_
        · refine rg_call (by rfl) _ _ (.int .u64 SG) (by first | (go_simp; done) | (go_simp; rfl)) (MS1.out _) ?_
          intro W' hb
          replace E := E.below hb.out
          replace R1 := Aside0.mk (row_below R1.out hb.out)
          replace R2 := Aside0.mk (row_below R2.out hb.out)
          replace B7 := B7.below hb.out
          replace RO := Aside0.mk (row_below RO.out hb.out)
          replace HB := HB.step hb.out
          replace BX' := BX'.below hb.out
          replace KO' := Aside0.mk (KO'.out.trans (keepsOthers_below hb.out))
          replace HZ' := Aside0.mk (Nat.le_trans HZ'.out hb.out.size)
          refine hK.out _ _ ⟨BX', E.out _ PM.out.2.2.2.1, E.out _ PM.out.2.2.2.2.1⟩ (fun hS => ?_)
          clear hK K hb
          try simp only [Act.put, List.setIfInBounds_toArray, List.set_cons_zero, List.set_cons_succ]
          refine' wpAnyLast_take (i := 4) (oi := Oper.mk _ _ _ _ _ _) rfl (by kernel_rfl) (by kernel_rfl) (by kernel_rfl) (by kernel_rfl) (by kernel_rfl) (fun _ _ _ h => h) (Or.inl ⟨by rfl, ?hy6⟩) hS ?rest6
          case hy6 => (intro w hSw; (try dsimp only at hSw); first | (go_simp; done) | (go_simp; with_reducible rfl))
          try simp only [Act.put, List.setIfInBounds_toArray, List.set_cons_zero, List.set_cons_succ]
          refine wpAnyLast_ready (rs := [7, 14]) (by kernel_rfl) (by simp) ?_
          refine AllReadyL.cons (o := Oper.mk _ _ _ _ _ _) rfl (by decide) (fun K hK => ?_) ?_
          · refine rg_call (by rfl) _ _ (.int .u64 BL) (by first | (go_simp; done) | (go_simp; rfl)) (MS2.out _) ?_
            intro W' hb
            replace E := E.below hb.out
            replace R1 := Aside0.mk (row_below R1.out hb.out)
            replace R2 := Aside0.mk (row_below R2.out hb.out)
            replace B7 := B7.below hb.out
            replace RO := Aside0.mk (row_below RO.out hb.out)
            replace HB := HB.step hb.out
            replace BX' := BX'.below hb.out
            replace KO' := Aside0.mk (KO'.out.trans (keepsOthers_below hb.out))
            replace HZ' := Aside0.mk (Nat.le_trans HZ'.out hb.out.size)
            refine hK.out _ _ ⟨BX', E.out _ PM.out.2.2.2.1, E.out _ PM.out.2.2.2.2.1⟩ (fun hS => ?_)
            clear hK K hb
            try simp only [Act.put, List.setIfInBounds_toArray, List.set_cons_zero, List.set_cons_succ]
            refine' wpAnyLast_take (i := 9) (oi := Oper.mk _ _ _ _ _ _) rfl (by kernel_rfl) (by kernel_rfl) (by kernel_rfl) (by kernel_rfl) (by kernel_rfl) (fun _ _ _ h => h) (Or.inl ⟨by rfl, ?hy7⟩) hS ?rest7
            case hy7 => (intro w hSw; (try dsimp only at hSw); first | (go_simp; done) | (go_simp; with_reducible rfl))
            try simp only [Act.put, List.setIfInBounds_toArray, List.set_cons_zero, List.set_cons_succ]
            refine' wpAnyLast_take (i := 13) (oi := Oper.mk _ _ _ _ _ _) rfl (by kernel_rfl) (by kernel_rfl) (by kernel_rfl) (by kernel_rfl) (by kernel_rfl) (fun _ _ _ h => h) (Or.inl ⟨by rfl, ?hy8⟩) hS ?rest8
            case hy8 => (intro w hSw; (try dsimp only at hSw); first | (go_simp; done) | (go_simp; with_reducible rfl))
            try simp only [Act.put, List.setIfInBounds_toArray, List.set_cons_zero, List.set_cons_succ]
            refine wpAnyLast_ready (rs := [14]) (by kernel_rfl) (by simp) ?_
            refine AllReadyL.cons (o := Oper.mk _ _ _ _ _ _) rfl (by decide) (fun K hK => ?_) ?_
            · refine rg_alloc HB (by rfl) (#[.int .u64 0, .int .u64 0, .int .u64 0, .int .u64 0]) 77 (by first | (go_simp; done) | (go_simp; rfl)) ?_
              intro g15 W' G15 GE15 B15 HBn hb
              have N15 := Aside0.mk (show w10.heap.size ≤ g15 ∧ gb < g15 ∧ W.heap.size ≤ g15 by have := HI.out.sz; have := HZ'.out; have := BX'.lt; have := G15.out; omega)
              clear HBn G15
              replace E := E.below hb.out
              replace R1 := Aside0.mk (row_below R1.out hb.out)
              replace R2 := Aside0.mk (row_below R2.out hb.out)
              replace B7 := B7.below hb.out
              replace RO := Aside0.mk (row_below RO.out hb.out)
              replace HB := HB.step hb.out
              replace BX' := BX'.below hb.out
              replace KO' := Aside0.mk (KO'.out.trans (keepsOthers_below hb.out))
              replace HZ' := Aside0.mk (Nat.le_trans HZ'.out hb.out.size)
              refine hK.out _ _ ⟨BX', E.out _ PM.out.2.2.2.1, E.out _ PM.out.2.2.2.2.1⟩ (fun hS => ?_)
              clear hK K hb
              try simp only [Act.put, List.setIfInBounds_toArray, List.set_cons_zero, List.set_cons_succ]
              refine wpAnyLast_ready (rs := [15]) (by kernel_rfl) (by simp) ?_
              refine AllReadyL.cons_last (o := Oper.mk _ _ _ _ _ _) rfl (by decide) (fun K hK => ?_) ?_
              · refine rg_store HB (by rfl) B15 GE15 77 _ _ rfl rfl rfl (by kernel_rfl) rfl (by simp [Value.oneCell']) ?_
                intro w16 B16 HB16 K16
                replace E := E.other K16 (fun b m => by have := PL.out.1 b m; have := N15.out; omega)
                replace R1 := Aside0.mk (row_other R1.out B15 (by decide) K16)
                replace R2 := Aside0.mk (row_other R2.out B15 (by decide) K16)
                replace B7 := B7.other K16 (by have := L7; have := N15.out; omega)
                replace RO := Aside0.mk (own_move RO.out (fun k ek => K16.out.2 k (by have := VB.out k ek; have := N15.out; omega)))
                replace HB := HB16
                replace BX' := BX'.other K16 (by have := N15.out; omega)
                replace KO' := Aside0.mk (KO'.out.trans (keepsOthers_other B15 K16))
                replace HZ' := Aside0.mk (Nat.le_trans HZ'.out K16.out.1)
                refine hK.out _ _ ?_
                clear hK K HB16 K16 B15
                try simp only [Act.put, List.setIfInBounds_toArray, List.set_cons_zero, List.set_cons_succ]
                refine wpAnyLast_done (by kernel_rfl) ?_ _
                refine Straight.normal ?_
                have hq4' := Q4.out
                have hq5' := Q5.out
                have d0 := B16.cell (i := 0) rfl
                have d1 := B16.cell (i := 1) rfl
                gi_upto_region 15 with (first
                  | ((with_reducible refine gate_In (Op.store 75 (.tmp 80) (.tmp 79)) rfl ?_); refine ev_store1In (i := 3) HB B16 GE15 rfl 75 _ _ rfl rfl (.int .u64 WW) rfl (by simp) (by kernel_rfl) rfl ?_; intro w17 B17 HB17 K17 KO17))
                clear d0 d1 hq4' hq5'
                replace E := E.other K17 (fun b m => by have := PL.out.1 b m; have := N15.out; omega)
                replace R1 := Aside0.mk (row_other R1.out B16 (by decide) K17)
                replace R2 := Aside0.mk (row_other R2.out B16 (by decide) K17)
                replace B7 := B7.other K17 (by have := L7; have := N15.out; omega)
                replace RO := Aside0.mk (own_move RO.out (fun k ek => K17.out.2 k (by have := VB.out k ek; have := N15.out; omega)))
                replace HB := HB17
                have c7 := B7.cell (i := 0) rfl
                gi_wp2_with (first
                  | ((with_reducible refine gate_dstIn (N := 82) rfl ?_); refine ev_loadSIn B17 rfl 77 _ rfl rfl Tryd.underlying77 rfl (by kernel_rfl) ?_)
                  | ((with_reducible refine gate_dstIn (N := 83) rfl ?_); refine ev_litNIn HB rfl rfl #[.int .u64 SW, .int .u64 BW, .int .u64 PW, .int .u64 WW] 77 ?hr ?_; (case hr => first | (go_simp; done) | (go_simp; rfl)); intro gl w18 G_gl B_gl HB18 K_gl KO18; have ho18 := row_below RO.out K_gl.out; have b718 := B7.below K_gl.out)
                  | ((with_reducible refine gate_dstIn (N := 84) rfl ?_); refine ev_appendNIn HB18 rfl _ _ 73 77 (.agg #[.int .u64 0, .int .u64 0, .int .u64 0, .int .u64 0]) 4 32 rfl Tryd.underlying73 (by kernel_rfl) rfl (by decide) (by decide) v pre.length _ rfl ho18 gl [.int .u64 SW, .int .u64 BW, .int .u64 PW, .int .u64 WW] rfl B_gl rfl (by intro u hu; simp at hu; rcases hu with rfl | rfl | rfl | rfl <;> rfl) HL.out ?_; intro v8 w19 ho19 HB19 K19 KO19 FV; obtain ⟨g', cap', rfl⟩ := FV.out; have b719 := b718.appendedN (by decide) ho18 K19)
                  | ((with_reducible refine gate_In (Op.store 73 (.tmp 7) (.tmp 84)) rfl ?_); refine ev_store1In (i := 0) HB19 b719 GE_g7 rfl 73 _ _ rfl rfl _ rfl (by simp) (by kernel_rfl) rfl ?_; intro w20 B20 HB20 K20 KO20))
                have E20 := ((E.below K_gl.out).appendedN PL.out.2.1 ho18 K19).other K20 PL.out.2.2
                have R120 := row_other (row_appended (row_below R1.out K_gl.out) (by decide) ho18 K19) b719 (by decide) K20
                have R220 := row_other (row_appended (row_below R2.out K_gl.out) (by decide) ho18 K19) b719 (by decide) K20
                have O20 := row_other ho19 b719 (by decide) K20
                have hszF : W.heap.size ≤ w20.heap.size := Nat.le_trans HZ'.out (Nat.le_trans K17.out.1 (Nat.le_trans K_gl.out.size (Nat.le_trans K19.out.1 K20.out.1)))
                refine ⟨(((((KO'.out.trans KO17.out).trans KO18.out).trans KO19.out).trans KO20.out)).from _, Keep2.of_blk (HI.out.bs.out _ PM.out.2.2.2.2.2.1) (HI.out.bs.out _ PM.out.2.2.2.2.2.2) (E20.out _ PM.out.2.2.2.2.2.1) (E20.out _ PM.out.2.2.2.2.2.2) hszF, E20, R120, R220, ⟨_, B20, ?_⟩, HB20, Nat.le_trans HI.out.sz hszF⟩
                rw [flatR_snoc, ROW.out, List.length_append]
                exact O20
              exact AllReadyL.nil
            exact AllReadyL.nil
          refine AllReadyL.cons (o := Oper.mk _ _ _ _ _ _) rfl (by decide) (fun K hK => ?_) ?_
          · refine rg_alloc HB (by rfl) (#[.int .u64 0, .int .u64 0, .int .u64 0, .int .u64 0]) 77 (by first | (go_simp; done) | (go_simp; rfl)) ?_
            intro g15 W' G15 GE15 B15 HBn hb
            have N15 := Aside0.mk (show w10.heap.size ≤ g15 ∧ gb < g15 ∧ W.heap.size ≤ g15 by have := HI.out.sz; have := HZ'.out; have := BX'.lt; have := G15.out; omega)
            clear HBn G15
            replace E := E.below hb.out
            replace R1 := Aside0.mk (row_below R1.out hb.out)
            replace R2 := Aside0.mk (row_below R2.out hb.out)
            replace B7 := B7.below hb.out
            replace RO := Aside0.mk (row_below RO.out hb.out)
            replace HB := HB.step hb.out
            replace BX' := BX'.below hb.out
            replace KO' := Aside0.mk (KO'.out.trans (keepsOthers_below hb.out))
            replace HZ' := Aside0.mk (Nat.le_trans HZ'.out hb.out.size)
            refine hK.out _ _ ⟨BX', E.out _ PM.out.2.2.2.1, E.out _ PM.out.2.2.2.2.1⟩ (fun hS => ?_)
            clear hK K hb
            try simp only [Act.put, List.setIfInBounds_toArray, List.set_cons_zero, List.set_cons_succ]
            refine wpAnyLast_ready (rs := [7]) (by kernel_rfl) (by simp) ?_
            refine AllReadyL.cons (o := Oper.mk _ _ _ _ _ _) rfl (by decide) (fun K hK => ?_) ?_
            · refine rg_call (by rfl) _ _ (.int .u64 BL) (by first | (go_simp; done) | (go_simp; rfl)) (MS2.out _) ?_
              intro W' hb
              replace E := E.below hb.out
              replace R1 := Aside0.mk (row_below R1.out hb.out)
              replace R2 := Aside0.mk (row_below R2.out hb.out)
              replace B7 := B7.below hb.out
              replace RO := Aside0.mk (row_below RO.out hb.out)
              replace HB := HB.step hb.out
              replace BX' := BX'.below hb.out
              replace KO' := Aside0.mk (KO'.out.trans (keepsOthers_below hb.out))
              replace HZ' := Aside0.mk (Nat.le_trans HZ'.out hb.out.size)
              replace B15 := B15.below hb.out
              refine hK.out _ _ ⟨BX', E.out _ PM.out.2.2.2.1, E.out _ PM.out.2.2.2.2.1⟩ (fun hS => ?_)
              clear hK K hb
              try simp only [Act.put, List.setIfInBounds_toArray, List.set_cons_zero, List.set_cons_succ]
              refine' wpAnyLast_take (i := 9) (oi := Oper.mk _ _ _ _ _ _) rfl (by kernel_rfl) (by kernel_rfl) (by kernel_rfl) (by kernel_rfl) (by kernel_rfl) (fun _ _ _ h => h) (Or.inl ⟨by rfl, ?hy9⟩) hS ?rest9
              case hy9 => (intro w hSw; (try dsimp only at hSw); first | (go_simp; done) | (go_simp; with_reducible rfl))
              try simp only [Act.put, List.setIfInBounds_toArray, List.set_cons_zero, List.set_cons_succ]
              refine' wpAnyLast_take (i := 13) (oi := Oper.mk _ _ _ _ _ _) rfl (by kernel_rfl) (by kernel_rfl) (by kernel_rfl) (by kernel_rfl) (by kernel_rfl) (fun _ _ _ h => h) (Or.inl ⟨by rfl, ?hy10⟩) hS ?rest10
              case hy10 => (intro w hSw; (try dsimp only at hSw); first | (go_simp; done) | (go_simp; with_reducible rfl))
              try simp only [Act.put, List.setIfInBounds_toArray, List.set_cons_zero, List.set_cons_succ]
              refine wpAnyLast_ready (rs := [15]) (by kernel_rfl) (by simp) ?_
              refine AllReadyL.cons_last (o := Oper.mk _ _ _ _ _ _) rfl (by decide) (fun K hK => ?_) ?_
              · refine rg_store HB (by rfl) B15 GE15 77 _ _ rfl rfl rfl (by kernel_rfl) rfl (by simp [Value.oneCell']) ?_
                intro w16 B16 HB16 K16
                replace E := E.other K16 (fun b m => by have := PL.out.1 b m; have := N15.out; omega)
                replace R1 := Aside0.mk (row_other R1.out B15 (by decide) K16)
                replace R2 := Aside0.mk (row_other R2.out B15 (by decide) K16)
                replace B7 := B7.other K16 (by have := L7; have := N15.out; omega)
                replace RO := Aside0.mk (own_move RO.out (fun k ek => K16.out.2 k (by have := VB.out k ek; have := N15.out; omega)))
                replace HB := HB16
                replace BX' := BX'.other K16 (by have := N15.out; omega)
                replace KO' := Aside0.mk (KO'.out.trans (keepsOthers_other B15 K16))
                replace HZ' := Aside0.mk (Nat.le_trans HZ'.out K16.out.1)
                refine hK.out _ _ ?_
                clear hK K HB16 K16 B15
                try simp only [Act.put, List.setIfInBounds_toArray, List.set_cons_zero, List.set_cons_succ]
                refine wpAnyLast_done (by kernel_rfl) ?_ _
                refine Straight.normal ?_
                have hq4' := Q4.out
                have hq5' := Q5.out
                have d0 := B16.cell (i := 0) rfl
                have d1 := B16.cell (i := 1) rfl
                gi_upto_region 15 with (first
                  | ((with_reducible refine gate_In (Op.store 75 (.tmp 80) (.tmp 79)) rfl ?_); refine ev_store1In (i := 3) HB B16 GE15 rfl 75 _ _ rfl rfl (.int .u64 WW) rfl (by simp) (by kernel_rfl) rfl ?_; intro w17 B17 HB17 K17 KO17))
                clear d0 d1 hq4' hq5'
                replace E := E.other K17 (fun b m => by have := PL.out.1 b m; have := N15.out; omega)
                replace R1 := Aside0.mk (row_other R1.out B16 (by decide) K17)
                replace R2 := Aside0.mk (row_other R2.out B16 (by decide) K17)
                replace B7 := B7.other K17 (by have := L7; have := N15.out; omega)
                replace RO := Aside0.mk (own_move RO.out (fun k ek => K17.out.2 k (by have := VB.out k ek; have := N15.out; omega)))
                replace HB := HB17
                have c7 := B7.cell (i := 0) rfl
                gi_wp2_with (first
                  | ((with_reducible refine gate_dstIn (N := 82) rfl ?_); refine ev_loadSIn B17 rfl 77 _ rfl rfl Tryd.underlying77 rfl (by kernel_rfl) ?_)
                  | ((with_reducible refine gate_dstIn (N := 83) rfl ?_); refine ev_litNIn HB rfl rfl #[.int .u64 SW, .int .u64 BW, .int .u64 PW, .int .u64 WW] 77 ?hr ?_; (case hr => first | (go_simp; done) | (go_simp; rfl)); intro gl w18 G_gl B_gl HB18 K_gl KO18; have ho18 := row_below RO.out K_gl.out; have b718 := B7.below K_gl.out)
                  | ((with_reducible refine gate_dstIn (N := 84) rfl ?_); refine ev_appendNIn HB18 rfl _ _ 73 77 (.agg #[.int .u64 0, .int .u64 0, .int .u64 0, .int .u64 0]) 4 32 rfl Tryd.underlying73 (by kernel_rfl) rfl (by decide) (by decide) v pre.length _ rfl ho18 gl [.int .u64 SW, .int .u64 BW, .int .u64 PW, .int .u64 WW] rfl B_gl rfl (by intro u hu; simp at hu; rcases hu with rfl | rfl | rfl | rfl <;> rfl) HL.out ?_; intro v8 w19 ho19 HB19 K19 KO19 FV; obtain ⟨g', cap', rfl⟩ := FV.out; have b719 := b718.appendedN (by decide) ho18 K19)
                  | ((with_reducible refine gate_In (Op.store 73 (.tmp 7) (.tmp 84)) rfl ?_); refine ev_store1In (i := 0) HB19 b719 GE_g7 rfl 73 _ _ rfl rfl _ rfl (by simp) (by kernel_rfl) rfl ?_; intro w20 B20 HB20 K20 KO20))
                have E20 := ((E.below K_gl.out).appendedN PL.out.2.1 ho18 K19).other K20 PL.out.2.2
                have R120 := row_other (row_appended (row_below R1.out K_gl.out) (by decide) ho18 K19) b719 (by decide) K20
                have R220 := row_other (row_appended (row_below R2.out K_gl.out) (by decide) ho18 K19) b719 (by decide) K20
                have O20 := row_other ho19 b719 (by decide) K20
                have hszF : W.heap.size ≤ w20.heap.size := Nat.le_trans HZ'.out (Nat.le_trans K17.out.1 (Nat.le_trans K_gl.out.size (Nat.le_trans K19.out.1 K20.out.1)))
                refine ⟨(((((KO'.out.trans KO17.out).trans KO18.out).trans KO19.out).trans KO20.out)).from _, Keep2.of_blk (HI.out.bs.out _ PM.out.2.2.2.2.2.1) (HI.out.bs.out _ PM.out.2.2.2.2.2.2) (E20.out _ PM.out.2.2.2.2.2.1) (E20.out _ PM.out.2.2.2.2.2.2) hszF, E20, R120, R220, ⟨_, B20, ?_⟩, HB20, Nat.le_trans HI.out.sz hszF⟩
                rw [flatR_snoc, ROW.out, List.length_append]
                exact O20
              exact AllReadyL.nil
            exact AllReadyL.nil
          exact AllReadyL.nil
        refine AllReadyL.cons (o := Oper.mk _ _ _ _ _ _) rfl (by decide) (fun K hK => ?_) ?_
        · refine rg_alloc HB (by rfl) (#[.int .u64 0, .int .u64 0, .int .u64 0, .int .u64 0]) 77 (by first | (go_simp; done) | (go_simp; rfl)) ?_
          intro g15 W' G15 GE15 B15 HBn hb
          have N15 := Aside0.mk (show w10.heap.size ≤ g15 ∧ gb < g15 ∧ W.heap.size ≤ g15 by have := HI.out.sz; have := HZ'.out; have := BX'.lt; have := G15.out; omega)
          clear HBn G15
          replace E := E.below hb.out
          replace R1 := Aside0.mk (row_below R1.out hb.out)
          replace R2 := Aside0.mk (row_below R2.out hb.out)
          replace B7 := B7.below hb.out
          replace RO := Aside0.mk (row_below RO.out hb.out)
          replace HB := HB.step hb.out
          replace BX' := BX'.below hb.out
          replace KO' := Aside0.mk (KO'.out.trans (keepsOthers_below hb.out))
          replace HZ' := Aside0.mk (Nat.le_trans HZ'.out hb.out.size)
          refine hK.out _ _ ⟨BX', E.out _ PM.out.2.2.2.1, E.out _ PM.out.2.2.2.2.1⟩ (fun hS => ?_)
          clear hK K hb
          try simp only [Act.put, List.setIfInBounds_toArray, List.set_cons_zero, List.set_cons_succ]
          refine wpAnyLast_ready (rs := [2]) (by kernel_rfl) (by simp) ?_
          refine AllReadyL.cons (o := Oper.mk _ _ _ _ _ _) rfl (by decide) (fun K hK => ?_) ?_
          · refine rg_call (by rfl) _ _ (.int .u64 SG) (by first | (go_simp; done) | (go_simp; rfl)) (MS1.out _) ?_
            intro W' hb
            replace E := E.below hb.out
            replace R1 := Aside0.mk (row_below R1.out hb.out)
            replace R2 := Aside0.mk (row_below R2.out hb.out)
            replace B7 := B7.below hb.out
            replace RO := Aside0.mk (row_below RO.out hb.out)
            replace HB := HB.step hb.out
            replace BX' := BX'.below hb.out
            replace KO' := Aside0.mk (KO'.out.trans (keepsOthers_below hb.out))
            replace HZ' := Aside0.mk (Nat.le_trans HZ'.out hb.out.size)
            replace B15 := B15.below hb.out
            refine hK.out _ _ ⟨BX', E.out _ PM.out.2.2.2.1, E.out _ PM.out.2.2.2.2.1⟩ (fun hS => ?_)
            clear hK K hb
            try simp only [Act.put, List.setIfInBounds_toArray, List.set_cons_zero, List.set_cons_succ]
            refine' wpAnyLast_take (i := 4) (oi := Oper.mk _ _ _ _ _ _) rfl (by kernel_rfl) (by kernel_rfl) (by kernel_rfl) (by kernel_rfl) (by kernel_rfl) (fun _ _ _ h => h) (Or.inl ⟨by rfl, ?hy11⟩) hS ?rest11
            case hy11 => (intro w hSw; (try dsimp only at hSw); first | (go_simp; done) | (go_simp; with_reducible rfl))
            try simp only [Act.put, List.setIfInBounds_toArray, List.set_cons_zero, List.set_cons_succ]
            refine wpAnyLast_ready (rs := [7]) (by kernel_rfl) (by simp) ?_
            refine AllReadyL.cons (o := Oper.mk _ _ _ _ _ _) rfl (by decide) (fun K hK => ?_) ?_
            · refine rg_call (by rfl) _ _ (.int .u64 BL) (by first | (go_simp; done) | (go_simp; rfl)) (MS2.out _) ?_
              intro W' hb
              replace E := E.below hb.out
              replace R1 := Aside0.mk (row_below R1.out hb.out)
              replace R2 := Aside0.mk (row_below R2.out hb.out)
              replace B7 := B7.below hb.out
              replace RO := Aside0.mk (row_below RO.out hb.out)
              replace HB := HB.step hb.out
              replace BX' := BX'.below hb.out
              replace KO' := Aside0.mk (KO'.out.trans (keepsOthers_below hb.out))
              replace HZ' := Aside0.mk (Nat.le_trans HZ'.out hb.out.size)
              replace B15 := B15.below hb.out
              refine hK.out _ _ ⟨BX', E.out _ PM.out.2.2.2.1, E.out _ PM.out.2.2.2.2.1⟩ (fun hS => ?_)
              clear hK K hb
              try simp only [Act.put, List.setIfInBounds_toArray, List.set_cons_zero, List.set_cons_succ]
              refine' wpAnyLast_take (i := 9) (oi := Oper.mk _ _ _ _ _ _) rfl (by kernel_rfl) (by kernel_rfl) (by kernel_rfl) (by kernel_rfl) (by kernel_rfl) (fun _ _ _ h => h) (Or.inl ⟨by rfl, ?hy12⟩) hS ?rest12
              case hy12 => (intro w hSw; (try dsimp only at hSw); first | (go_simp; done) | (go_simp; with_reducible rfl))
              try simp only [Act.put, List.setIfInBounds_toArray, List.set_cons_zero, List.set_cons_succ]
              refine' wpAnyLast_take (i := 13) (oi := Oper.mk _ _ _ _ _ _) rfl (by kernel_rfl) (by kernel_rfl) (by kernel_rfl) (by kernel_rfl) (by kernel_rfl) (fun _ _ _ h => h) (Or.inl ⟨by rfl, ?hy13⟩) hS ?rest13
              case hy13 => (intro w hSw; (try dsimp only at hSw); first | (go_simp; done) | (go_simp; with_reducible rfl))
              try simp only [Act.put, List.setIfInBounds_toArray, List.set_cons_zero, List.set_cons_succ]
              refine wpAnyLast_ready (rs := [15]) (by kernel_rfl) (by simp) ?_
              refine AllReadyL.cons_last (o := Oper.mk _ _ _ _ _ _) rfl (by decide) (fun K hK => ?_) ?_
              · refine rg_store HB (by rfl) B15 GE15 77 _ _ rfl rfl rfl (by kernel_rfl) rfl (by simp [Value.oneCell']) ?_
                intro w16 B16 HB16 K16
                replace E := E.other K16 (fun b m => by have := PL.out.1 b m; have := N15.out; omega)
                replace R1 := Aside0.mk (row_other R1.out B15 (by decide) K16)
                replace R2 := Aside0.mk (row_other R2.out B15 (by decide) K16)
                replace B7 := B7.other K16 (by have := L7; have := N15.out; omega)
                replace RO := Aside0.mk (own_move RO.out (fun k ek => K16.out.2 k (by have := VB.out k ek; have := N15.out; omega)))
                replace HB := HB16
                replace BX' := BX'.other K16 (by have := N15.out; omega)
                replace KO' := Aside0.mk (KO'.out.trans (keepsOthers_other B15 K16))
                replace HZ' := Aside0.mk (Nat.le_trans HZ'.out K16.out.1)
                refine hK.out _ _ ?_
                clear hK K HB16 K16 B15
                try simp only [Act.put, List.setIfInBounds_toArray, List.set_cons_zero, List.set_cons_succ]
                refine wpAnyLast_done (by kernel_rfl) ?_ _
                refine Straight.normal ?_
                have hq4' := Q4.out
                have hq5' := Q5.out
                have d0 := B16.cell (i := 0) rfl
                have d1 := B16.cell (i := 1) rfl
                gi_upto_region 15 with (first
                  | ((with_reducible refine gate_In (Op.store 75 (.tmp 80) (.tmp 79)) rfl ?_); refine ev_store1In (i := 3) HB B16 GE15 rfl 75 _ _ rfl rfl (.int .u64 WW) rfl (by simp) (by kernel_rfl) rfl ?_; intro w17 B17 HB17 K17 KO17))
                clear d0 d1 hq4' hq5'
                replace E := E.other K17 (fun b m => by have := PL.out.1 b m; have := N15.out; omega)
                replace R1 := Aside0.mk (row_other R1.out B16 (by decide) K17)
                replace R2 := Aside0.mk (row_other R2.out B16 (by decide) K17)
                replace B7 := B7.other K17 (by have := L7; have := N15.out; omega)
                replace RO := Aside0.mk (own_move RO.out (fun k ek => K17.out.2 k (by have := VB.out k ek; have := N15.out; omega)))
                replace HB := HB17
                have c7 := B7.cell (i := 0) rfl
                gi_wp2_with (first
                  | ((with_reducible refine gate_dstIn (N := 82) rfl ?_); refine ev_loadSIn B17 rfl 77 _ rfl rfl Tryd.underlying77 rfl (by kernel_rfl) ?_)
                  | ((with_reducible refine gate_dstIn (N := 83) rfl ?_); refine ev_litNIn HB rfl rfl #[.int .u64 SW, .int .u64 BW, .int .u64 PW, .int .u64 WW] 77 ?hr ?_; (case hr => first | (go_simp; done) | (go_simp; rfl)); intro gl w18 G_gl B_gl HB18 K_gl KO18; have ho18 := row_below RO.out K_gl.out; have b718 := B7.below K_gl.out)
                  | ((with_reducible refine gate_dstIn (N := 84) rfl ?_); refine ev_appendNIn HB18 rfl _ _ 73 77 (.agg #[.int .u64 0, .int .u64 0, .int .u64 0, .int .u64 0]) 4 32 rfl Tryd.underlying73 (by kernel_rfl) rfl (by decide) (by decide) v pre.length _ rfl ho18 gl [.int .u64 SW, .int .u64 BW, .int .u64 PW, .int .u64 WW] rfl B_gl rfl (by intro u hu; simp at hu; rcases hu with rfl | rfl | rfl | rfl <;> rfl) HL.out ?_; intro v8 w19 ho19 HB19 K19 KO19 FV; obtain ⟨g', cap', rfl⟩ := FV.out; have b719 := b718.appendedN (by decide) ho18 K19)
                  | ((with_reducible refine gate_In (Op.store 73 (.tmp 7) (.tmp 84)) rfl ?_); refine ev_store1In (i := 0) HB19 b719 GE_g7 rfl 73 _ _ rfl rfl _ rfl (by simp) (by kernel_rfl) rfl ?_; intro w20 B20 HB20 K20 KO20))
                have E20 := ((E.below K_gl.out).appendedN PL.out.2.1 ho18 K19).other K20 PL.out.2.2
                have R120 := row_other (row_appended (row_below R1.out K_gl.out) (by decide) ho18 K19) b719 (by decide) K20
                have R220 := row_other (row_appended (row_below R2.out K_gl.out) (by decide) ho18 K19) b719 (by decide) K20
                have O20 := row_other ho19 b719 (by decide) K20
                have hszF : W.heap.size ≤ w20.heap.size := Nat.le_trans HZ'.out (Nat.le_trans K17.out.1 (Nat.le_trans K_gl.out.size (Nat.le_trans K19.out.1 K20.out.1)))
                refine ⟨(((((KO'.out.trans KO17.out).trans KO18.out).trans KO19.out).trans KO20.out)).from _, Keep2.of_blk (HI.out.bs.out _ PM.out.2.2.2.2.2.1) (HI.out.bs.out _ PM.out.2.2.2.2.2.2) (E20.out _ PM.out.2.2.2.2.2.1) (E20.out _ PM.out.2.2.2.2.2.2) hszF, E20, R120, R220, ⟨_, B20, ?_⟩, HB20, Nat.le_trans HI.out.sz hszF⟩
                rw [flatR_snoc, ROW.out, List.length_append]
                exact O20
              exact AllReadyL.nil
            exact AllReadyL.nil
          exact AllReadyL.nil
        exact AllReadyL.nil
      · gi_upto_region 13 with (fail)
        rw [OFF.out (by omega)]
        have q1 := Q1.out
        have q2 := Q2.out
        have q3 := Q3.out
        have hbd2 : Aside0 (Below W.drew.heap.size W.drew W.drew.drew) := ⟨below_drew (Below.refl _ _)⟩
        have hb := hbd2
        replace E := E.below hb.out
        replace R1 := Aside0.mk (row_below R1.out hb.out)
        replace R2 := Aside0.mk (row_below R2.out hb.out)
        replace B7 := B7.below hb.out
        replace RO := Aside0.mk (row_below RO.out hb.out)
        replace HB := HB.step hb.out
        replace BX' := BX'.below hb.out
        replace KO' := Aside0.mk (KO'.out.trans (keepsOthers_below hb.out))
        replace HZ' := Aside0.mk (Nat.le_trans HZ'.out hb.out.size)
        clear hb c1s hbd2 hfull
        refine wpIn_region_last_drew HF (S := fun W' => Blk W' gb (blkA (cutF s (64 * ((x.val : Nat) : Int)) 32)) 85 ∧ Blk W' g5 (clsA sgx) 111 ∧ Blk W' g6 (clsA blx) 111) (ds := [15]) (by kernel_rfl) (by kernel_rfl) ⟨BX', E.out _ PM.out.2.2.2.1, E.out _ PM.out.2.2.2.2.1⟩ (fun hS => ?_)
        refine wpAnyLast_take (i := 0) (oi := Oper.mk _ _ _ _ _ _) rfl (by kernel_rfl) (by kernel_rfl) (by kernel_rfl) (by kernel_rfl) (by kernel_rfl) (fun _ _ _ h => h) (rg_load (by rfl) (fun _ hS => hS.1) 85 _ rfl rfl Tryd.underlying85 rfl (size64' _)) hS ?_
        try simp only [Act.put, List.setIfInBounds_toArray, List.set_cons_zero, List.set_cons_succ]
        refine wpAnyLast_take (i := 1) (oi := Oper.mk _ _ _ _ _ _) rfl (by kernel_rfl) (by kernel_rfl) (by kernel_rfl) (by kernel_rfl) (by kernel_rfl) (fun _ _ _ h => h) (rg_load (by rfl) (fun _ hS => hS.2.1) 111 _ rfl rfl Tryd.underlying111 rfl (sizeC' _)) hS ?_
        try simp only [Act.put, List.setIfInBounds_toArray, List.set_cons_zero, List.set_cons_succ]
        refine' wpAnyLast_take (i := 3) (oi := Oper.mk _ _ _ _ _ _) rfl (by kernel_rfl) (by kernel_rfl) (by kernel_rfl) (by kernel_rfl) (by kernel_rfl) (fun _ _ _ h => h) (Or.inl ⟨by rfl, ?hy14⟩) hS ?rest14
        case hy14 => (intro w hSw; (try dsimp only at hSw); first | (go_simp; done) | (go_simp; with_reducible rfl))
        try simp only [Act.put, List.setIfInBounds_toArray, List.set_cons_zero, List.set_cons_succ]
        refine wpAnyLast_take (i := 5) (oi := Oper.mk _ _ _ _ _ _) rfl (by kernel_rfl) (by kernel_rfl) (by kernel_rfl) (by kernel_rfl) (by kernel_rfl) (fun _ _ _ h => h) (rg_load (by rfl) (fun _ hS => hS.1) 85 _ rfl rfl Tryd.underlying85 rfl (size64' _)) hS ?_
        try simp only [Act.put, List.setIfInBounds_toArray, List.set_cons_zero, List.set_cons_succ]
        refine wpAnyLast_take (i := 6) (oi := Oper.mk _ _ _ _ _ _) rfl (by kernel_rfl) (by kernel_rfl) (by kernel_rfl) (by kernel_rfl) (by kernel_rfl) (fun _ _ _ h => h) (rg_load (by rfl) (fun _ hS => hS.2.2) 111 _ rfl rfl Tryd.underlying111 rfl (sizeC' _)) hS ?_
        try simp only [Act.put, List.setIfInBounds_toArray, List.set_cons_zero, List.set_cons_succ]
        refine' wpAnyLast_take (i := 8) (oi := Oper.mk _ _ _ _ _ _) rfl (by kernel_rfl) (by kernel_rfl) (by kernel_rfl) (by kernel_rfl) (by kernel_rfl) (fun _ _ _ h => h) (Or.inl ⟨by rfl, ?hy15⟩) hS ?rest15
        case hy15 => (intro w hSw; (try dsimp only at hSw); first | (go_simp; done) | (go_simp; with_reducible rfl))
        try simp only [Act.put, List.setIfInBounds_toArray, List.set_cons_zero, List.set_cons_succ]
        refine' wpAnyLast_take (i := 10) (oi := Oper.mk _ _ _ _ _ _) rfl (by kernel_rfl) (by kernel_rfl) (by kernel_rfl) (by kernel_rfl) (by kernel_rfl) (fun _ _ _ h => h) (Or.inl ⟨by rfl, ?hy16⟩) hS ?rest16
        case hy16 => (intro w hSw; (try dsimp only at hSw); first | (go_simp; done) | (go_simp; with_reducible rfl))
        try simp only [Act.put, List.setIfInBounds_toArray, List.set_cons_zero, List.set_cons_succ]
        refine' wpAnyLast_take (i := 11) (oi := Oper.mk _ _ _ _ _ _) rfl (by kernel_rfl) (by kernel_rfl) (by kernel_rfl) (by kernel_rfl) (by kernel_rfl) (fun _ _ _ h => h) (Or.inl ⟨by rfl, ?hy17⟩) hS ?rest17
        case hy17 => (intro w hSw; (try dsimp only at hSw); first | (go_simp; done) | (go_simp; with_reducible rfl))
        try simp only [Act.put, List.setIfInBounds_toArray, List.set_cons_zero, List.set_cons_succ]
        refine' wpAnyLast_take (i := 12) (oi := Oper.mk _ _ _ _ _ _) rfl (by kernel_rfl) (by kernel_rfl) (by kernel_rfl) (by kernel_rfl) (by kernel_rfl) (fun _ _ _ h => h) (Or.inl ⟨by rfl, ?hy18⟩) hS ?rest18
        case hy18 => (intro w hSw; (try dsimp only at hSw); first | (go_simp; done) | (go_simp; with_reducible rfl))
        try simp only [Act.put, List.setIfInBounds_toArray, List.set_cons_zero, List.set_cons_succ]
        refine wpAnyLast_ready (rs := [2, 14]) (by kernel_rfl) (by simp) ?_
        refine AllReadyL.cons (o := Oper.mk _ _ _ _ _ _) rfl (by decide) (fun K hK => ?_) ?_
        · refine rg_call (by rfl) _ _ (.int .u64 SG) (by first | (go_simp; done) | (go_simp; rfl)) (MS1.out _) ?_
          intro W' hb
          replace E := E.below hb.out
          replace R1 := Aside0.mk (row_below R1.out hb.out)
          replace R2 := Aside0.mk (row_below R2.out hb.out)
          replace B7 := B7.below hb.out
          replace RO := Aside0.mk (row_below RO.out hb.out)
          replace HB := HB.step hb.out
          replace BX' := BX'.below hb.out
          replace KO' := Aside0.mk (KO'.out.trans (keepsOthers_below hb.out))
          replace HZ' := Aside0.mk (Nat.le_trans HZ'.out hb.out.size)
          refine hK.out _ _ ⟨BX', E.out _ PM.out.2.2.2.1, E.out _ PM.out.2.2.2.2.1⟩ (fun hS => ?_)
          clear hK K hb
          try simp only [Act.put, List.setIfInBounds_toArray, List.set_cons_zero, List.set_cons_succ]
          refine' wpAnyLast_take (i := 4) (oi := Oper.mk _ _ _ _ _ _) rfl (by kernel_rfl) (by kernel_rfl) (by kernel_rfl) (by kernel_rfl) (by kernel_rfl) (fun _ _ _ h => h) (Or.inl ⟨by rfl, ?hy19⟩) hS ?rest19
          case hy19 => (intro w hSw; (try dsimp only at hSw); first | (go_simp; done) | (go_simp; with_reducible rfl))
          try simp only [Act.put, List.setIfInBounds_toArray, List.set_cons_zero, List.set_cons_succ]
          refine wpAnyLast_ready (rs := [7, 14]) (by kernel_rfl) (by simp) ?_
          refine AllReadyL.cons (o := Oper.mk _ _ _ _ _ _) rfl (by decide) (fun K hK => ?_) ?_
          · refine rg_call (by rfl) _ _ (.int .u64 BL) (by first | (go_simp; done) | (go_simp; rfl)) (MS2.out _) ?_
            intro W' hb
            replace E := E.below hb.out
            replace R1 := Aside0.mk (row_below R1.out hb.out)
            replace R2 := Aside0.mk (row_below R2.out hb.out)
            replace B7 := B7.below hb.out
            replace RO := Aside0.mk (row_below RO.out hb.out)
            replace HB := HB.step hb.out
            replace BX' := BX'.below hb.out
            replace KO' := Aside0.mk (KO'.out.trans (keepsOthers_below hb.out))
            replace HZ' := Aside0.mk (Nat.le_trans HZ'.out hb.out.size)
            refine hK.out _ _ ⟨BX', E.out _ PM.out.2.2.2.1, E.out _ PM.out.2.2.2.2.1⟩ (fun hS => ?_)
            clear hK K hb
            try simp only [Act.put, List.setIfInBounds_toArray, List.set_cons_zero, List.set_cons_succ]
            refine' wpAnyLast_take (i := 9) (oi := Oper.mk _ _ _ _ _ _) rfl (by kernel_rfl) (by kernel_rfl) (by kernel_rfl) (by kernel_rfl) (by kernel_rfl) (fun _ _ _ h => h) (Or.inl ⟨by rfl, ?hy20⟩) hS ?rest20
            case hy20 => (intro w hSw; (try dsimp only at hSw); first | (go_simp; done) | (go_simp; with_reducible rfl))
            try simp only [Act.put, List.setIfInBounds_toArray, List.set_cons_zero, List.set_cons_succ]
            refine' wpAnyLast_take (i := 13) (oi := Oper.mk _ _ _ _ _ _) rfl (by kernel_rfl) (by kernel_rfl) (by kernel_rfl) (by kernel_rfl) (by kernel_rfl) (fun _ _ _ h => h) (Or.inl ⟨by rfl, ?hy21⟩) hS ?rest21
            case hy21 => (intro w hSw; (try dsimp only at hSw); first | (go_simp; done) | (go_simp; with_reducible rfl))
            try simp only [Act.put, List.setIfInBounds_toArray, List.set_cons_zero, List.set_cons_succ]
            refine wpAnyLast_ready (rs := [14]) (by kernel_rfl) (by simp) ?_
            refine AllReadyL.cons (o := Oper.mk _ _ _ _ _ _) rfl (by decide) (fun K hK => ?_) ?_
            · refine rg_alloc HB (by rfl) (#[.int .u64 0, .int .u64 0, .int .u64 0, .int .u64 0]) 77 (by first | (go_simp; done) | (go_simp; rfl)) ?_
              intro g15 W' G15 GE15 B15 HBn hb
              have N15 := Aside0.mk (show w10.heap.size ≤ g15 ∧ gb < g15 ∧ W.heap.size ≤ g15 by have := HI.out.sz; have := HZ'.out; have := BX'.lt; have := G15.out; omega)
              clear HBn G15
              replace E := E.below hb.out
              replace R1 := Aside0.mk (row_below R1.out hb.out)
              replace R2 := Aside0.mk (row_below R2.out hb.out)
              replace B7 := B7.below hb.out
              replace RO := Aside0.mk (row_below RO.out hb.out)
              replace HB := HB.step hb.out
              replace BX' := BX'.below hb.out
              replace KO' := Aside0.mk (KO'.out.trans (keepsOthers_below hb.out))
              replace HZ' := Aside0.mk (Nat.le_trans HZ'.out hb.out.size)
              refine hK.out _ _ ⟨BX', E.out _ PM.out.2.2.2.1, E.out _ PM.out.2.2.2.2.1⟩ (fun hS => ?_)
              clear hK K hb
              try simp only [Act.put, List.setIfInBounds_toArray, List.set_cons_zero, List.set_cons_succ]
              refine wpAnyLast_ready (rs := [15]) (by kernel_rfl) (by simp) ?_
              refine AllReadyL.cons_last (o := Oper.mk _ _ _ _ _ _) rfl (by decide) (fun K hK => ?_) ?_
              · refine rg_store HB (by rfl) B15 GE15 77 _ _ rfl rfl rfl (by kernel_rfl) rfl (by simp [Value.oneCell']) ?_
                intro w16 B16 HB16 K16
                replace E := E.other K16 (fun b m => by have := PL.out.1 b m; have := N15.out; omega)
                replace R1 := Aside0.mk (row_other R1.out B15 (by decide) K16)
                replace R2 := Aside0.mk (row_other R2.out B15 (by decide) K16)
                replace B7 := B7.other K16 (by have := L7; have := N15.out; omega)
                replace RO := Aside0.mk (own_move RO.out (fun k ek => K16.out.2 k (by have := VB.out k ek; have := N15.out; omega)))
                replace HB := HB16
                replace BX' := BX'.other K16 (by have := N15.out; omega)
                replace KO' := Aside0.mk (KO'.out.trans (keepsOthers_other B15 K16))
                replace HZ' := Aside0.mk (Nat.le_trans HZ'.out K16.out.1)
                refine hK.out _ _ ?_
                clear hK K HB16 K16 B15
                try simp only [Act.put, List.setIfInBounds_toArray, List.set_cons_zero, List.set_cons_succ]
                refine wpAnyLast_done (by kernel_rfl) ?_ _
                refine Straight.normal ?_
                have hq4' := Q4.out
                have hq5' := Q5.out
                have d0 := B16.cell (i := 0) rfl
                have d1 := B16.cell (i := 1) rfl
                gi_upto_region 15 with (first
                  | ((with_reducible refine gate_In (Op.store 75 (.tmp 80) (.tmp 79)) rfl ?_); refine ev_store1In (i := 3) HB B16 GE15 rfl 75 _ _ rfl rfl (.int .u64 WW) rfl (by simp) (by kernel_rfl) rfl ?_; intro w17 B17 HB17 K17 KO17))
                clear d0 d1 hq4' hq5'
                replace E := E.other K17 (fun b m => by have := PL.out.1 b m; have := N15.out; omega)
                replace R1 := Aside0.mk (row_other R1.out B16 (by decide) K17)
                replace R2 := Aside0.mk (row_other R2.out B16 (by decide) K17)
                replace B7 := B7.other K17 (by have := L7; have := N15.out; omega)
                replace RO := Aside0.mk (own_move RO.out (fun k ek => K17.out.2 k (by have := VB.out k ek; have := N15.out; omega)))
                replace HB := HB17
                have c7 := B7.cell (i := 0) rfl
                gi_wp2_with (first
                  | ((with_reducible refine gate_dstIn (N := 82) rfl ?_); refine ev_loadSIn B17 rfl 77 _ rfl rfl Tryd.underlying77 rfl (by kernel_rfl) ?_)
                  | ((with_reducible refine gate_dstIn (N := 83) rfl ?_); refine ev_litNIn HB rfl rfl #[.int .u64 SW, .int .u64 BW, .int .u64 PW, .int .u64 WW] 77 ?hr ?_; (case hr => first | (go_simp; done) | (go_simp; rfl)); intro gl w18 G_gl B_gl HB18 K_gl KO18; have ho18 := row_below RO.out K_gl.out; have b718 := B7.below K_gl.out)
                  | ((with_reducible refine gate_dstIn (N := 84) rfl ?_); refine ev_appendNIn HB18 rfl _ _ 73 77 (.agg #[.int .u64 0, .int .u64 0, .int .u64 0, .int .u64 0]) 4 32 rfl Tryd.underlying73 (by kernel_rfl) rfl (by decide) (by decide) v pre.length _ rfl ho18 gl [.int .u64 SW, .int .u64 BW, .int .u64 PW, .int .u64 WW] rfl B_gl rfl (by intro u hu; simp at hu; rcases hu with rfl | rfl | rfl | rfl <;> rfl) HL.out ?_; intro v8 w19 ho19 HB19 K19 KO19 FV; obtain ⟨g', cap', rfl⟩ := FV.out; have b719 := b718.appendedN (by decide) ho18 K19)
                  | ((with_reducible refine gate_In (Op.store 73 (.tmp 7) (.tmp 84)) rfl ?_); refine ev_store1In (i := 0) HB19 b719 GE_g7 rfl 73 _ _ rfl rfl _ rfl (by simp) (by kernel_rfl) rfl ?_; intro w20 B20 HB20 K20 KO20))
                have E20 := ((E.below K_gl.out).appendedN PL.out.2.1 ho18 K19).other K20 PL.out.2.2
                have R120 := row_other (row_appended (row_below R1.out K_gl.out) (by decide) ho18 K19) b719 (by decide) K20
                have R220 := row_other (row_appended (row_below R2.out K_gl.out) (by decide) ho18 K19) b719 (by decide) K20
                have O20 := row_other ho19 b719 (by decide) K20
                have hszF : W.heap.size ≤ w20.heap.size := Nat.le_trans HZ'.out (Nat.le_trans K17.out.1 (Nat.le_trans K_gl.out.size (Nat.le_trans K19.out.1 K20.out.1)))
                refine ⟨(((((KO'.out.trans KO17.out).trans KO18.out).trans KO19.out).trans KO20.out)).from _, Keep2.of_blk (HI.out.bs.out _ PM.out.2.2.2.2.2.1) (HI.out.bs.out _ PM.out.2.2.2.2.2.2) (E20.out _ PM.out.2.2.2.2.2.1) (E20.out _ PM.out.2.2.2.2.2.2) hszF, E20, R120, R220, ⟨_, B20, ?_⟩, HB20, Nat.le_trans HI.out.sz hszF⟩
                rw [flatR_snoc, ROW.out, List.length_append]
                exact O20
              exact AllReadyL.nil
            exact AllReadyL.nil
          refine AllReadyL.cons (o := Oper.mk _ _ _ _ _ _) rfl (by decide) (fun K hK => ?_) ?_
          · refine rg_alloc HB (by rfl) (#[.int .u64 0, .int .u64 0, .int .u64 0, .int .u64 0]) 77 (by first | (go_simp; done) | (go_simp; rfl)) ?_
            intro g15 W' G15 GE15 B15 HBn hb
            have N15 := Aside0.mk (show w10.heap.size ≤ g15 ∧ gb < g15 ∧ W.heap.size ≤ g15 by have := HI.out.sz; have := HZ'.out; have := BX'.lt; have := G15.out; omega)
            clear HBn G15
            replace E := E.below hb.out
            replace R1 := Aside0.mk (row_below R1.out hb.out)
            replace R2 := Aside0.mk (row_below R2.out hb.out)
            replace B7 := B7.below hb.out
            replace RO := Aside0.mk (row_below RO.out hb.out)
            replace HB := HB.step hb.out
            replace BX' := BX'.below hb.out
            replace KO' := Aside0.mk (KO'.out.trans (keepsOthers_below hb.out))
            replace HZ' := Aside0.mk (Nat.le_trans HZ'.out hb.out.size)
            refine hK.out _ _ ⟨BX', E.out _ PM.out.2.2.2.1, E.out _ PM.out.2.2.2.2.1⟩ (fun hS => ?_)
            clear hK K hb
            try simp only [Act.put, List.setIfInBounds_toArray, List.set_cons_zero, List.set_cons_succ]
            refine wpAnyLast_ready (rs := [7]) (by kernel_rfl) (by simp) ?_
            refine AllReadyL.cons (o := Oper.mk _ _ _ _ _ _) rfl (by decide) (fun K hK => ?_) ?_
            · refine rg_call (by rfl) _ _ (.int .u64 BL) (by first | (go_simp; done) | (go_simp; rfl)) (MS2.out _) ?_
              intro W' hb
              replace E := E.below hb.out
              replace R1 := Aside0.mk (row_below R1.out hb.out)
              replace R2 := Aside0.mk (row_below R2.out hb.out)
              replace B7 := B7.below hb.out
              replace RO := Aside0.mk (row_below RO.out hb.out)
              replace HB := HB.step hb.out
              replace BX' := BX'.below hb.out
              replace KO' := Aside0.mk (KO'.out.trans (keepsOthers_below hb.out))
              replace HZ' := Aside0.mk (Nat.le_trans HZ'.out hb.out.size)
              replace B15 := B15.below hb.out
              refine hK.out _ _ ⟨BX', E.out _ PM.out.2.2.2.1, E.out _ PM.out.2.2.2.2.1⟩ (fun hS => ?_)
              clear hK K hb
              try simp only [Act.put, List.setIfInBounds_toArray, List.set_cons_zero, List.set_cons_succ]
              refine' wpAnyLast_take (i := 9) (oi := Oper.mk _ _ _ _ _ _) rfl (by kernel_rfl) (by kernel_rfl) (by kernel_rfl) (by kernel_rfl) (by kernel_rfl) (fun _ _ _ h => h) (Or.inl ⟨by rfl, ?hy22⟩) hS ?rest22
              case hy22 => (intro w hSw; (try dsimp only at hSw); first | (go_simp; done) | (go_simp; with_reducible rfl))
              try simp only [Act.put, List.setIfInBounds_toArray, List.set_cons_zero, List.set_cons_succ]
              refine' wpAnyLast_take (i := 13) (oi := Oper.mk _ _ _ _ _ _) rfl (by kernel_rfl) (by kernel_rfl) (by kernel_rfl) (by kernel_rfl) (by kernel_rfl) (fun _ _ _ h => h) (Or.inl ⟨by rfl, ?hy23⟩) hS ?rest23
              case hy23 => (intro w hSw; (try dsimp only at hSw); first | (go_simp; done) | (go_simp; with_reducible rfl))
              try simp only [Act.put, List.setIfInBounds_toArray, List.set_cons_zero, List.set_cons_succ]
              refine wpAnyLast_ready (rs := [15]) (by kernel_rfl) (by simp) ?_
              refine AllReadyL.cons_last (o := Oper.mk _ _ _ _ _ _) rfl (by decide) (fun K hK => ?_) ?_
              · refine rg_store HB (by rfl) B15 GE15 77 _ _ rfl rfl rfl (by kernel_rfl) rfl (by simp [Value.oneCell']) ?_
                intro w16 B16 HB16 K16
                replace E := E.other K16 (fun b m => by have := PL.out.1 b m; have := N15.out; omega)
                replace R1 := Aside0.mk (row_other R1.out B15 (by decide) K16)
                replace R2 := Aside0.mk (row_other R2.out B15 (by decide) K16)
                replace B7 := B7.other K16 (by have := L7; have := N15.out; omega)
                replace RO := Aside0.mk (own_move RO.out (fun k ek => K16.out.2 k (by have := VB.out k ek; have := N15.out; omega)))
                replace HB := HB16
                replace BX' := BX'.other K16 (by have := N15.out; omega)
                replace KO' := Aside0.mk (KO'.out.trans (keepsOthers_other B15 K16))
                replace HZ' := Aside0.mk (Nat.le_trans HZ'.out K16.out.1)
                refine hK.out _ _ ?_
                clear hK K HB16 K16 B15
                try simp only [Act.put, List.setIfInBounds_toArray, List.set_cons_zero, List.set_cons_succ]
                refine wpAnyLast_done (by kernel_rfl) ?_ _
                refine Straight.normal ?_
                have hq4' := Q4.out
                have hq5' := Q5.out
                have d0 := B16.cell (i := 0) rfl
                have d1 := B16.cell (i := 1) rfl
                gi_upto_region 15 with (first
                  | ((with_reducible refine gate_In (Op.store 75 (.tmp 80) (.tmp 79)) rfl ?_); refine ev_store1In (i := 3) HB B16 GE15 rfl 75 _ _ rfl rfl (.int .u64 WW) rfl (by simp) (by kernel_rfl) rfl ?_; intro w17 B17 HB17 K17 KO17))
                clear d0 d1 hq4' hq5'
                replace E := E.other K17 (fun b m => by have := PL.out.1 b m; have := N15.out; omega)
                replace R1 := Aside0.mk (row_other R1.out B16 (by decide) K17)
                replace R2 := Aside0.mk (row_other R2.out B16 (by decide) K17)
                replace B7 := B7.other K17 (by have := L7; have := N15.out; omega)
                replace RO := Aside0.mk (own_move RO.out (fun k ek => K17.out.2 k (by have := VB.out k ek; have := N15.out; omega)))
                replace HB := HB17
                have c7 := B7.cell (i := 0) rfl
                gi_wp2_with (first
                  | ((with_reducible refine gate_dstIn (N := 82) rfl ?_); refine ev_loadSIn B17 rfl 77 _ rfl rfl Tryd.underlying77 rfl (by kernel_rfl) ?_)
                  | ((with_reducible refine gate_dstIn (N := 83) rfl ?_); refine ev_litNIn HB rfl rfl #[.int .u64 SW, .int .u64 BW, .int .u64 PW, .int .u64 WW] 77 ?hr ?_; (case hr => first | (go_simp; done) | (go_simp; rfl)); intro gl w18 G_gl B_gl HB18 K_gl KO18; have ho18 := row_below RO.out K_gl.out; have b718 := B7.below K_gl.out)
                  | ((with_reducible refine gate_dstIn (N := 84) rfl ?_); refine ev_appendNIn HB18 rfl _ _ 73 77 (.agg #[.int .u64 0, .int .u64 0, .int .u64 0, .int .u64 0]) 4 32 rfl Tryd.underlying73 (by kernel_rfl) rfl (by decide) (by decide) v pre.length _ rfl ho18 gl [.int .u64 SW, .int .u64 BW, .int .u64 PW, .int .u64 WW] rfl B_gl rfl (by intro u hu; simp at hu; rcases hu with rfl | rfl | rfl | rfl <;> rfl) HL.out ?_; intro v8 w19 ho19 HB19 K19 KO19 FV; obtain ⟨g', cap', rfl⟩ := FV.out; have b719 := b718.appendedN (by decide) ho18 K19)
                  | ((with_reducible refine gate_In (Op.store 73 (.tmp 7) (.tmp 84)) rfl ?_); refine ev_store1In (i := 0) HB19 b719 GE_g7 rfl 73 _ _ rfl rfl _ rfl (by simp) (by kernel_rfl) rfl ?_; intro w20 B20 HB20 K20 KO20))
                have E20 := ((E.below K_gl.out).appendedN PL.out.2.1 ho18 K19).other K20 PL.out.2.2
                have R120 := row_other (row_appended (row_below R1.out K_gl.out) (by decide) ho18 K19) b719 (by decide) K20
                have R220 := row_other (row_appended (row_below R2.out K_gl.out) (by decide) ho18 K19) b719 (by decide) K20
                have O20 := row_other ho19 b719 (by decide) K20
                have hszF : W.heap.size ≤ w20.heap.size := Nat.le_trans HZ'.out (Nat.le_trans K17.out.1 (Nat.le_trans K_gl.out.size (Nat.le_trans K19.out.1 K20.out.1)))
                refine ⟨(((((KO'.out.trans KO17.out).trans KO18.out).trans KO19.out).trans KO20.out)).from _, Keep2.of_blk (HI.out.bs.out _ PM.out.2.2.2.2.2.1) (HI.out.bs.out _ PM.out.2.2.2.2.2.2) (E20.out _ PM.out.2.2.2.2.2.1) (E20.out _ PM.out.2.2.2.2.2.2) hszF, E20, R120, R220, ⟨_, B20, ?_⟩, HB20, Nat.le_trans HI.out.sz hszF⟩
                rw [flatR_snoc, ROW.out, List.length_append]
                exact O20
              exact AllReadyL.nil
            exact AllReadyL.nil
          exact AllReadyL.nil
        refine AllReadyL.cons (o := Oper.mk _ _ _ _ _ _) rfl (by decide) (fun K hK => ?_) ?_
        · refine rg_alloc HB (by rfl) (#[.int .u64 0, .int .u64 0, .int .u64 0, .int .u64 0]) 77 (by first | (go_simp; done) | (go_simp; rfl)) ?_
          intro g15 W' G15 GE15 B15 HBn hb
          have N15 := Aside0.mk (show w10.heap.size ≤ g15 ∧ gb < g15 ∧ W.heap.size ≤ g15 by have := HI.out.sz; have := HZ'.out; have := BX'.lt; have := G15.out; omega)
          clear HBn G15
          replace E := E.below hb.out
          replace R1 := Aside0.mk (row_below R1.out hb.out)
          replace R2 := Aside0.mk (row_below R2.out hb.out)
          replace B7 := B7.below hb.out
          replace RO := Aside0.mk (row_below RO.out hb.out)
          replace HB := HB.step hb.out
          replace BX' := BX'.below hb.out
          replace KO' := Aside0.mk (KO'.out.trans (keepsOthers_below hb.out))
          replace HZ' := Aside0.mk (Nat.le_trans HZ'.out hb.out.size)
          refine hK.out _ _ ⟨BX', E.out _ PM.out.2.2.2.1, E.out _ PM.out.2.2.2.2.1⟩ (fun hS => ?_)
          clear hK K hb
          try simp only [Act.put, List.setIfInBounds_toArray, List.set_cons_zero, List.set_cons_succ]
          refine wpAnyLast_ready (rs := [2]) (by kernel_rfl) (by simp) ?_
          refine AllReadyL.cons (o := Oper.mk _ _ _ _ _ _) rfl (by decide) (fun K hK => ?_) ?_
          · refine rg_call (by rfl) _ _ (.int .u64 SG) (by first | (go_simp; done) | (go_simp; rfl)) (MS1.out _) ?_
            intro W' hb
            replace E := E.below hb.out
            replace R1 := Aside0.mk (row_below R1.out hb.out)
            replace R2 := Aside0.mk (row_below R2.out hb.out)
            replace B7 := B7.below hb.out
            replace RO := Aside0.mk (row_below RO.out hb.out)
            replace HB := HB.step hb.out
            replace BX' := BX'.below hb.out
            replace KO' := Aside0.mk (KO'.out.trans (keepsOthers_below hb.out))
            replace HZ' := Aside0.mk (Nat.le_trans HZ'.out hb.out.size)
            replace B15 := B15.below hb.out
            refine hK.out _ _ ⟨BX', E.out _ PM.out.2.2.2.1, E.out _ PM.out.2.2.2.2.1⟩ (fun hS => ?_)
            clear hK K hb
            try simp only [Act.put, List.setIfInBounds_toArray, List.set_cons_zero, List.set_cons_succ]
            refine' wpAnyLast_take (i := 4) (oi := Oper.mk _ _ _ _ _ _) rfl (by kernel_rfl) (by kernel_rfl) (by kernel_rfl) (by kernel_rfl) (by kernel_rfl) (fun _ _ _ h => h) (Or.inl ⟨by rfl, ?hy24⟩) hS ?rest24
            case hy24 => (intro w hSw; (try dsimp only at hSw); first | (go_simp; done) | (go_simp; with_reducible rfl))
            try simp only [Act.put, List.setIfInBounds_toArray, List.set_cons_zero, List.set_cons_succ]
            refine wpAnyLast_ready (rs := [7]) (by kernel_rfl) (by simp) ?_
            refine AllReadyL.cons (o := Oper.mk _ _ _ _ _ _) rfl (by decide) (fun K hK => ?_) ?_
            · refine rg_call (by rfl) _ _ (.int .u64 BL) (by first | (go_simp; done) | (go_simp; rfl)) (MS2.out _) ?_
              intro W' hb
              replace E := E.below hb.out
              replace R1 := Aside0.mk (row_below R1.out hb.out)
              replace R2 := Aside0.mk (row_below R2.out hb.out)
              replace B7 := B7.below hb.out
              replace RO := Aside0.mk (row_below RO.out hb.out)
              replace HB := HB.step hb.out
              replace BX' := BX'.below hb.out
              replace KO' := Aside0.mk (KO'.out.trans (keepsOthers_below hb.out))
              replace HZ' := Aside0.mk (Nat.le_trans HZ'.out hb.out.size)
              replace B15 := B15.below hb.out
              refine hK.out _ _ ⟨BX', E.out _ PM.out.2.2.2.1, E.out _ PM.out.2.2.2.2.1⟩ (fun hS => ?_)
              clear hK K hb
              try simp only [Act.put, List.setIfInBounds_toArray, List.set_cons_zero, List.set_cons_succ]
              refine' wpAnyLast_take (i := 9) (oi := Oper.mk _ _ _ _ _ _) rfl (by kernel_rfl) (by kernel_rfl) (by kernel_rfl) (by kernel_rfl) (by kernel_rfl) (fun _ _ _ h => h) (Or.inl ⟨by rfl, ?hy25⟩) hS ?rest25
              case hy25 => (intro w hSw; (try dsimp only at hSw); first | (go_simp; done) | (go_simp; with_reducible rfl))
              try simp only [Act.put, List.setIfInBounds_toArray, List.set_cons_zero, List.set_cons_succ]
              refine' wpAnyLast_take (i := 13) (oi := Oper.mk _ _ _ _ _ _) rfl (by kernel_rfl) (by kernel_rfl) (by kernel_rfl) (by kernel_rfl) (by kernel_rfl) (fun _ _ _ h => h) (Or.inl ⟨by rfl, ?hy26⟩) hS ?rest26
              case hy26 => (intro w hSw; (try dsimp only at hSw); first | (go_simp; done) | (go_simp; with_reducible rfl))
              try simp only [Act.put, List.setIfInBounds_toArray, List.set_cons_zero, List.set_cons_succ]
              refine wpAnyLast_ready (rs := [15]) (by kernel_rfl) (by simp) ?_
              refine AllReadyL.cons_last (o := Oper.mk _ _ _ _ _ _) rfl (by decide) (fun K hK => ?_) ?_
              · refine rg_store HB (by rfl) B15 GE15 77 _ _ rfl rfl rfl (by kernel_rfl) rfl (by simp [Value.oneCell']) ?_
                intro w16 B16 HB16 K16
                replace E := E.other K16 (fun b m => by have := PL.out.1 b m; have := N15.out; omega)
                replace R1 := Aside0.mk (row_other R1.out B15 (by decide) K16)
                replace R2 := Aside0.mk (row_other R2.out B15 (by decide) K16)
                replace B7 := B7.other K16 (by have := L7; have := N15.out; omega)
                replace RO := Aside0.mk (own_move RO.out (fun k ek => K16.out.2 k (by have := VB.out k ek; have := N15.out; omega)))
                replace HB := HB16
                replace BX' := BX'.other K16 (by have := N15.out; omega)
                replace KO' := Aside0.mk (KO'.out.trans (keepsOthers_other B15 K16))
                replace HZ' := Aside0.mk (Nat.le_trans HZ'.out K16.out.1)
                refine hK.out _ _ ?_
                clear hK K HB16 K16 B15
                try simp only [Act.put, List.setIfInBounds_toArray, List.set_cons_zero, List.set_cons_succ]
                refine wpAnyLast_done (by kernel_rfl) ?_ _
                refine Straight.normal ?_
                have hq4' := Q4.out
                have hq5' := Q5.out
                have d0 := B16.cell (i := 0) rfl
                have d1 := B16.cell (i := 1) rfl
                gi_upto_region 15 with (first
                  | ((with_reducible refine gate_In (Op.store 75 (.tmp 80) (.tmp 79)) rfl ?_); refine ev_store1In (i := 3) HB B16 GE15 rfl 75 _ _ rfl rfl (.int .u64 WW) rfl (by simp) (by kernel_rfl) rfl ?_; intro w17 B17 HB17 K17 KO17))
                clear d0 d1 hq4' hq5'
                replace E := E.other K17 (fun b m => by have := PL.out.1 b m; have := N15.out; omega)
                replace R1 := Aside0.mk (row_other R1.out B16 (by decide) K17)
                replace R2 := Aside0.mk (row_other R2.out B16 (by decide) K17)
                replace B7 := B7.other K17 (by have := L7; have := N15.out; omega)
                replace RO := Aside0.mk (own_move RO.out (fun k ek => K17.out.2 k (by have := VB.out k ek; have := N15.out; omega)))
                replace HB := HB17
                have c7 := B7.cell (i := 0) rfl
                gi_wp2_with (first
                  | ((with_reducible refine gate_dstIn (N := 82) rfl ?_); refine ev_loadSIn B17 rfl 77 _ rfl rfl Tryd.underlying77 rfl (by kernel_rfl) ?_)
                  | ((with_reducible refine gate_dstIn (N := 83) rfl ?_); refine ev_litNIn HB rfl rfl #[.int .u64 SW, .int .u64 BW, .int .u64 PW, .int .u64 WW] 77 ?hr ?_; (case hr => first | (go_simp; done) | (go_simp; rfl)); intro gl w18 G_gl B_gl HB18 K_gl KO18; have ho18 := row_below RO.out K_gl.out; have b718 := B7.below K_gl.out)
                  | ((with_reducible refine gate_dstIn (N := 84) rfl ?_); refine ev_appendNIn HB18 rfl _ _ 73 77 (.agg #[.int .u64 0, .int .u64 0, .int .u64 0, .int .u64 0]) 4 32 rfl Tryd.underlying73 (by kernel_rfl) rfl (by decide) (by decide) v pre.length _ rfl ho18 gl [.int .u64 SW, .int .u64 BW, .int .u64 PW, .int .u64 WW] rfl B_gl rfl (by intro u hu; simp at hu; rcases hu with rfl | rfl | rfl | rfl <;> rfl) HL.out ?_; intro v8 w19 ho19 HB19 K19 KO19 FV; obtain ⟨g', cap', rfl⟩ := FV.out; have b719 := b718.appendedN (by decide) ho18 K19)
                  | ((with_reducible refine gate_In (Op.store 73 (.tmp 7) (.tmp 84)) rfl ?_); refine ev_store1In (i := 0) HB19 b719 GE_g7 rfl 73 _ _ rfl rfl _ rfl (by simp) (by kernel_rfl) rfl ?_; intro w20 B20 HB20 K20 KO20))
                have E20 := ((E.below K_gl.out).appendedN PL.out.2.1 ho18 K19).other K20 PL.out.2.2
                have R120 := row_other (row_appended (row_below R1.out K_gl.out) (by decide) ho18 K19) b719 (by decide) K20
                have R220 := row_other (row_appended (row_below R2.out K_gl.out) (by decide) ho18 K19) b719 (by decide) K20
                have O20 := row_other ho19 b719 (by decide) K20
                have hszF : W.heap.size ≤ w20.heap.size := Nat.le_trans HZ'.out (Nat.le_trans K17.out.1 (Nat.le_trans K_gl.out.size (Nat.le_trans K19.out.1 K20.out.1)))
                refine ⟨(((((KO'.out.trans KO17.out).trans KO18.out).trans KO19.out).trans KO20.out)).from _, Keep2.of_blk (HI.out.bs.out _ PM.out.2.2.2.2.2.1) (HI.out.bs.out _ PM.out.2.2.2.2.2.2) (E20.out _ PM.out.2.2.2.2.2.1) (E20.out _ PM.out.2.2.2.2.2.2) hszF, E20, R120, R220, ⟨_, B20, ?_⟩, HB20, Nat.le_trans HI.out.sz hszF⟩
                rw [flatR_snoc, ROW.out, List.length_append]
                exact O20
              exact AllReadyL.nil
            exact AllReadyL.nil
          exact AllReadyL.nil
        exact AllReadyL.nil
    case done =>
      rintro D ys W hD rfl hI hK
      obtain ⟨v, b7, ho⟩ := hI.out
      have c7 := b7.cell (i := 0) rfl
      have HB := hI.hb
      have HD := Aside0.mk hD
      have HKD := Aside0.mk hK
      clear hK hD
      gi_wp2
      have hg := grownBy_putObj' W D (.deferred none)
      have hr : ∀ r, some D = some r → ∃ o : Obj, W.heap[r]? = some o ∧ o.isCells = false := fun r e => by
        cases e
        exact ⟨_, HKD.out, rfl⟩
      have hle : w.heap.size ≤ D := Nat.le_trans HBW.le HD.out
      refine ⟨by simp, .inl ⟨_, _, rfl, run_takeDeferred HKD.out, ?_⟩⟩
      refine ⟨_, results_tmp rfl _ _ _, v, rfl, ?_, (HB.kept hg hle (fun r e => by cases e; exact Nat.le_refl _)).out⟩
      have h1 := row_kept ho hg hr
      rw [flatR_all, List.length_finRange] at h1
      exact h1
    case stop =>
      rintro D c pre W _ _ h _
      exact h.elim
theorem marks_look.calls (a0 : ByteArray) (r : List S77) (w : World) (h : marks_look.f a0 = some r) :
    Calls Tryd.prog 50 #[.string a0] w fun e w' => ∃ v : Value, e = .returned v ∧ Kd.R k77 77 w' w.heap.size (fun _ => True) v r ∧ Below w.heap.size w w' := by
  unfold marks_look.f at h
  by_cases hs : a0.size ≤ 281474976702464
  case neg => rw [if_neg hs] at h; cases h
  rw [if_pos hs] at h
  simp only [Option.some.injEq] at h
  subst h
  refine (marks_look.walk a0 w hs).mono ?_
  rintro e w' ⟨v, rfl, hrow, hb⟩
  refine ⟨v, rfl, ⟨fun _ _ => trivial, _, ?_, lookL_reps (fun k => k77_mkM _ _ _ (rowS a0 k)) _⟩, hb⟩
  rw [show (lookL a0).length = nwords a0.size by simp [lookL]]
  exact hrow
end


end Go.Proofs.YtgddljealeklkaaDoor.PL
end
