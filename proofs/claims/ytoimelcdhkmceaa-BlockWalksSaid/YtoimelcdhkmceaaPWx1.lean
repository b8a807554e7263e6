-- Written by a program (myprint.py, over the kit's print) for this claim. Not trusted: Lean checks it.
import Derived.Test.YtoimelcdhkmceaaPWx0
namespace Go.Proofs.Ytoimelcdhkmceaa.PW
open Go.RowKit Go.Proofs.YtoimelcdhkmceaaW.PrintWords Go.Proofs.YtoimelcdhkmceaaW.PrintLast Go.Proofs.YtoimelcdhkmceaaW.PrintMore
attribute [local go_sem] max2_int min2_int max_two min_two max_three min_three max_four min_four   -- for this text's walks alone
set_option linter.unusedVariables false
set_option linter.unusedSimpArgs false

/-! ### block_Blocks: function 31 -/
open Go.Proofs.YtoimelcdhkmceaaQ Go.Proofs.YtoimelcdhkmceaaM in
set_option maxHeartbeats 4000000 in
set_option maxRecDepth 100000 in
theorem block_Blocks.calls (s : ByteArray) (pad : Int) (w : World) :
    Calls Try.prog 31 #[.string s, .int .u8 pad] w fun e w' => ∃ g1 g2 : Nat, e = .returned (.func (.func 47) #[] #[.pointer (some ⟨g1, 0, none⟩), .pointer (some ⟨g2, 0, none⟩)]) ∧
      w.heap.size ≤ g1 ∧ w.heap.size ≤ g2 ∧ Blk w' g1 #[.string s] 9 ∧ Blk w' g2 #[.int .u8 pad] 5 ∧ BelowH w w' := by
  have HB := BelowH.refl w
  go_enter Try.func31, Try.ntmps31
  go_wp2_with (first | ((with_reducible refine gate_dst (N := 2) rfl ?_); refine ev_alloc HB rfl (#[.string s]) 9 ?hr ?_; (case hr => first | (go_simp; done) | (go_simp; rfl)); intro g1 w1 G_g1 GE_g1 B_g1 HBn K_g1; clear HB; have HB := HBn; clear HBn) | ((with_reducible refine gate_dst (N := 3) rfl ?_); refine ev_alloc HB rfl (#[.int .u8 pad]) 5 ?hr ?_; (case hr => first | (go_simp; done) | (go_simp; rfl)); intro g2 w2 G_g2 GE_g2 B_g2 HBn K_g2; clear HB; have HB := HBn; clear HBn))
  go_ret
  exact ⟨g1, g2, rfl, GE_g1.out, GE_g2.out, B_g1.below K_g2.out, B_g2, HB⟩


/-! ### block_filled: function 45 -/
open Go.Proofs.YtoimelcdhkmceaaQ Go.Proofs.YtoimelcdhkmceaaM in
theorem size64 : (Try.prog.info? 26).map (·.size) = some (blkA fun _ => 0).size := by kernel_rfl
open Go.Proofs.YtoimelcdhkmceaaQ Go.Proofs.YtoimelcdhkmceaaM in
theorem size64' (f : Nat → Int) : (Try.prog.info? 26).map (·.size) = some (blkA f).size := by rw [size64, blkA_size, blkA_size]
open Go.Proofs.YtoimelcdhkmceaaQ Go.Proofs.YtoimelcdhkmceaaM in
set_option maxHeartbeats 4000000 in
set_option maxRecDepth 100000 in
theorem block_filled.calls (x : Int) (w : World) :
    Calls Try.prog 45 #[.int .u8 x] w fun e w' => e = .returned (.agg (blkA fun _ => x)) ∧ Below w.heap.size w w' := by
  have HB := BelowH.refl w
  go_enter Try.func45, Try.ntmps45
  go_wp2_with (first | ((with_reducible refine gate_dst (N := 2) rfl ?_); refine ev_alloc HB rfl (blkA fun _ => 0) 26 ?hr ?_; (case hr => (rw [← blkA_zero]; go_simp; rfl)); intro g0 w1 G_g0 GE_g0 B_g0 HBn K_g0; clear HB; have HB := HBn; clear HBn) | ((with_reducible refine gate_dst (N := 3) rfl ?_); refine ev_alloc HB rfl (blkA fun _ => 0) 26 ?hr ?_; (case hr => (rw [← blkA_zero]; go_simp; rfl)); intro g1 w2 G_g1 GE_g1 B_g1 HBn K_g1; clear HB; have HB := HBn; clear HBn))
  have B0 := B_g0.below K_g1.out
  have NE := Aside0.mk (show g0 ≠ g1 by have := B_g0.lt; have := G_g1.out; omega)
  go_loopw [5] (fun v wr => ∃ i : Nat, i ≤ 64 ∧ v = .int .i64 i ∧ Blk wr g1 (blkA fun j => if j < i then x else 0) 26 ∧ Blk wr g0 (blkA fun _ => 0) 26 ∧ BelowH w wr) (fun v _ => 64 - (intOf v).toNat)
  case atStart => exact ⟨0, by omega, rfl, by simpa using B_g1, B0, HB⟩
  case round =>
    clear B0 B_g1 B_g0 HB
    obtain ⟨i, hi, rfl, B1, B0, HB⟩ := hrel
    by_cases hlt : i < 64
    · have hc := B1.cell (blkA_get _ hlt)
      have hf := B1.frozen i
      go_wp2
      go_roundw
      case rel =>
        refine ⟨i + 1, by omega, by go_num, ?_, B0.far NE.out _ _, HB.set GE_g1.out _ _⟩
        exact (B1.set i (.int .u8 x)).eqA (blkA_set hlt (by simp) (fun j hj => by
          by_cases h : j < i
          · rw [if_pos h, if_pos (by omega)]
          · rw [if_neg h, if_neg (by omega)]))
      case measure => simp [intOf]; omega
    · have E : Blk wr g1 (blkA fun _ => x) 26 := B1.eqA (blkA_congr fun j hj => by rw [if_pos (by omega)])
      clear B1
      go_wp2_with (first | ((with_reducible refine gate_dst (N := 12) rfl ?_); refine ev_load E rfl 26 _ rfl rfl Try.underlying26 (size64' _) ?_) | ((with_reducible refine gate_ (Op.store 26 (.tmp 2) (.tmp 12)) rfl ?_); refine ev_store HB B0 GE_g0 rfl 26 _ _ rfl rfl rfl (size64' _) (by rw [blkA_size, blkA_size]) (blkA_one _) ?_; intro w3 B3 HBn K_w3; clear HB; have HB := HBn; clear HBn))
      refine bodyPost_ret (results_cell_row rfl _ _ g0 26 _ (0, 0) _ rfl B3.out Try.underlying26 rfl (size64' _)) rfl ?_
      exact ⟨rfl, HB.out⟩


/-! ### quarryref02_Cut: function 20 -/
open Go.Proofs.YtoimelcdhkmceaaQ Go.Proofs.YtoimelcdhkmceaaM in
set_option maxHeartbeats 4000000 in
set_option maxRecDepth 100000 in
theorem quarryref02_Cut.calls_out (s : ByteArray) (at_ pad : Int) (w : World) (h : at_ < 0 ∨ (s.size : Int) ≤ at_) :
    Calls Try.prog 20 #[.string s, .int .i64 at_, .int .u8 pad] w fun e w' => e = .returned (.tuple #[.agg (blkA (cutF s at_ pad)), .int .i64 0]) ∧ Below w.heap.size w w' := by
  have HB := BelowH.refl w
  have E : (blkA fun _ => pad) = blkA (cutF s at_ pad) := blkA_congr fun i _ => by unfold cutF; rw [if_neg (by omega)]
  have HE := Aside0.mk E
  clear E
  have hd : decide (0 ≤ at_) = false ∨ (decide (0 ≤ at_) = true ∧ decide (at_ < (s.size : Int)) = false) := by
    by_cases h0 : 0 ≤ at_
    · exact .inr ⟨decide_eq_true h0, decide_eq_false (by omega)⟩
    · exact .inl (decide_eq_false h0)
  clear h
  rcases hd with h | ⟨h, h2⟩
  all_goals
    go_enter Try.func20, Try.ntmps20
    go_wp2_with (first | ((with_reducible refine gate_dst (N := 6) rfl ?_); refine ev_alloc HB rfl (blkA fun _ => 0) 26 ?hr ?_; (case hr => (rw [← blkA_zero]; go_simp; rfl)); intro g0 w1 G_g0 GE_g0 B_g0 HBn K_g0; clear HB; have HB := HBn; clear HBn) | ((with_reducible refine gate_dst (N := 8) rfl ?_); refine ev_alloc HB rfl (blkA fun _ => 0) 26 ?hr ?_; (case hr => (rw [← blkA_zero]; go_simp; rfl)); intro g1 w2 G_g1 GE_g1 B_g1 HBn K_g1; clear HB; have HB := HBn; clear HBn))
    have B0 := B_g0.below K_g1.out
    have NE := Aside0.mk (show g0 ≠ g1 by have := B_g0.lt; have := G_g1.out; omega)
    go_loopw [10] (fun v wr => ∃ i : Nat, i ≤ 64 ∧ v = .int .i64 i ∧ Blk wr g1 (blkA fun j => if j < i then pad else 0) 26 ∧ Blk wr g0 (blkA fun _ => 0) 26 ∧ BelowH w wr) (fun v _ => 64 - (intOf v).toNat)
    case atStart => exact ⟨0, by omega, rfl, by simpa using B_g1, B0, HB⟩
    case round =>
      clear B0 B_g1 B_g0 HB
      obtain ⟨i, hi, rfl, B1, B0, HB⟩ := hrel
      by_cases hlt : i < 64
      · have hc := B1.cell (blkA_get _ hlt)
        have hf := B1.frozen i
        have hni : decide ((i : Int) < 0) = false := decide_eq_false (by omega)
        go_wp2
        go_roundw
        case rel =>
          refine ⟨i + 1, by omega, by go_num, ?_, B0.far NE.out _ _, HB.set GE_g1.out _ _⟩
          exact (B1.set i (.int .u8 pad)).eqA (blkA_set hlt (by simp) (fun j hj => by
            by_cases h : j < i
            · rw [if_pos h, if_pos (by omega)]
            · rw [if_neg h, if_neg (by omega)]))
        case measure => simp [intOf]; omega
      · have E : Blk wr g1 (blkA fun _ => pad) 26 := B1.eqA (blkA_congr fun j hj => by rw [if_pos (by omega)])
        clear B1
        go_wp2_with (first | ((with_reducible refine gate_dst (N := 42) rfl ?_); refine ev_load E rfl 26 _ rfl rfl Try.underlying26 (size64' _) ?_) | ((with_reducible refine gate_ (Op.store 26 (.tmp 6) (.tmp 42)) rfl ?_); refine ev_store HB B0 GE_g0 rfl 26 _ _ rfl rfl rfl (size64' _) (by rw [blkA_size, blkA_size]) (blkA_one _) ?_; intro w3 B3 HBn K_w3; clear HB; have HB := HBn; clear HBn))
        refine bodyPost_ret (results_row_tmp rfl _ _ g0 26 _ _ rfl B3 Try.underlying26 rfl (size64' _)) rfl ?_
        exact ⟨by rw [HE.out]; rfl, HB.out⟩
open Go.Proofs.YtoimelcdhkmceaaQ Go.Proofs.YtoimelcdhkmceaaM in
set_option maxHeartbeats 4000000 in
set_option maxRecDepth 100000 in
theorem quarryref02_Cut.calls_in_full (s : ByteArray) (n : Nat) (pad : Int) (w : World) (hs : s.size ≤ 281474976702464) (h1 : n + 64 < s.size) :
    Calls Try.prog 20 #[.string s, .int .i64 (n : Int), .int .u8 pad] w fun e w' => e = .returned (.tuple #[.agg (blkA (cutF s n pad)), .int .i64 (64)]) ∧ Below w.heap.size w w' := by
  have HB := BelowH.refl w
  have d1 : decide (0 ≤ (n : Int)) = true := decide_eq_true (by omega)
  have d2 : decide ((n : Int) < (s.size : Int)) = true := decide_eq_true (by omega)
  have d2' : decide (n < s.size) = true := decide_eq_true (by omega)
  have hdd : wrap64 ((s.size : Int) - (n : Int)) = (s.size : Int) - (n : Int) := by unfold wrap64; omega
  have hd : decide ((64 : Int) < wrap64 ((s.size : Int) - (n : Int))) = true := decide_eq_true (by omega)
  have HM := Aside0.mk (show n + 64 < s.size by omega)
  have HS := Aside0.mk hs
  have HD := Aside0.mk hdd
  clear hdd
  clear h1 hs
  go_enter Try.func20, Try.ntmps20
  go_wp2_with (first | ((with_reducible refine gate_dst (N := 6) rfl ?_); refine ev_alloc HB rfl (blkA fun _ => 0) 26 ?hr ?_; (case hr => (rw [← blkA_zero]; go_simp; rfl)); intro g0 w1 G_g0 GE_g0 B_g0 HBn K_g0; clear HB; have HB := HBn; clear HBn) | ((with_reducible refine gate_dst (N := 8) rfl ?_); refine ev_alloc HB rfl (blkA fun _ => 0) 26 ?hr ?_; (case hr => (rw [← blkA_zero]; go_simp; rfl)); intro g1 w2 G_g1 GE_g1 B_g1 HBn K_g1; clear HB; have HB := HBn; clear HBn))
  have B0 := B_g0.below K_g1.out
  have NE := Aside0.mk (show g0 ≠ g1 by have := B_g0.lt; have := G_g1.out; omega)
  go_loopw [10] (fun v wr => ∃ i : Nat, i ≤ 64 ∧ v = .int .i64 i ∧ Blk wr g1 (blkA fun j => if j < i then cutF s n pad j else 0) 26 ∧ Blk wr g0 (blkA fun _ => 0) 26 ∧ BelowH w wr) (fun v _ => 64 - (intOf v).toNat)
  case atStart => exact ⟨0, by omega, rfl, by simpa using B_g1, B0, HB⟩
  case round =>
    clear B0 B_g1 B_g0 HB
    obtain ⟨i, hi, rfl, B1, B0, HB⟩ := hrel
    by_cases hlt : i < 64
    · have hc := B1.cell (blkA_get _ hlt)
      have hf := B1.frozen i
      have hS : (blkA fun j => if j < i + 1 then cutF s n pad j else 0) = (blkA fun j => if j < i then cutF s n pad j else 0).setIfInBounds i (.int .u8 (cutF s n pad i)) := (blkA_set hlt (by simp) (fun j hj => by
          by_cases h : j < i
          · rw [if_pos h, if_pos (by omega)]
          · rw [if_neg h, if_neg (by omega)])).symm
      have HH := Aside0.mk hS
      clear hS
      have hlm3 : decide ((i : Int) < 64) = true := decide_eq_true (by omega)
      have ha : wrap64 ((n : Int) + (i : Int)) = ((n + i : Nat) : Int) := by have := HM.out; have := HS.out; unfold wrap64; omega
      have hbs : n + i < s.size := by have := HM.out; omega
      have hb : ∀ h : n + i < s.size, ((s[n + i]'h).toNat : Int) = bt s ((n + i : Nat) : Int) := fun h => bt_at s ((n + i : Nat) : Int) h
      go_wp2
      go_roundw
      case rel =>
        refine ⟨i + 1, by omega, by go_num, ?_, (B0.far NE.out _ _).far NE.out _ _, (HB.set GE_g1.out _ _).set GE_g1.out _ _⟩
        refine ((B1.set i _).set i _).eqA ?_
        rw [Array.setIfInBounds_setIfInBounds, HH.out, show cutF s n pad i = bt s ((n : Int) + (i : Int)) by unfold cutF; rw [if_pos (by omega)]]
      case measure => simp [intOf]; omega
    · have E : Blk wr g1 (blkA (cutF s n pad)) 26 := B1.eqA (blkA_congr fun j hj => by rw [if_pos (by omega)])
      clear B1
      go_wp2_with (first | ((with_reducible refine gate_dst (N := 42) rfl ?_); refine ev_load E rfl 26 _ rfl rfl Try.underlying26 (size64' _) ?_) | ((with_reducible refine gate_ (Op.store 26 (.tmp 6) (.tmp 42)) rfl ?_); refine ev_store HB B0 GE_g0 rfl 26 _ _ rfl rfl rfl (size64' _) (by rw [blkA_size, blkA_size]) (blkA_one _) ?_; intro w3 B3 HBn K_w3; clear HB; have HB := HBn; clear HBn))
      refine bodyPost_ret (results_row_tmp rfl _ _ g0 26 _ _ rfl B3 Try.underlying26 rfl (size64' _)) rfl ?_
      exact ⟨rfl, HB.out⟩
open Go.Proofs.YtoimelcdhkmceaaQ Go.Proofs.YtoimelcdhkmceaaM in
set_option maxHeartbeats 4000000 in
set_option maxRecDepth 100000 in
theorem quarryref02_Cut.calls_in_part (s : ByteArray) (n : Nat) (pad : Int) (w : World) (hs : s.size ≤ 281474976702464) (h1 : n < s.size) (h2 : s.size ≤ n + 64) :
    Calls Try.prog 20 #[.string s, .int .i64 (n : Int), .int .u8 pad] w fun e w' => e = .returned (.tuple #[.agg (blkA (cutF s n pad)), .int .i64 ((s.size : Int) - (n : Int))]) ∧ Below w.heap.size w w' := by
  have HB := BelowH.refl w
  have d1 : decide (0 ≤ (n : Int)) = true := decide_eq_true (by omega)
  have d2 : decide ((n : Int) < (s.size : Int)) = true := decide_eq_true (by omega)
  have d2' : decide (n < s.size) = true := decide_eq_true (by omega)
  have hdd : wrap64 ((s.size : Int) - (n : Int)) = (s.size : Int) - (n : Int) := by unfold wrap64; omega
  have hd : decide ((64 : Int) < wrap64 ((s.size : Int) - (n : Int))) = false := decide_eq_false (by omega)
  have HM := Aside0.mk (show n < s.size ∧ s.size ≤ n + 64 by omega)
  have HS := Aside0.mk hs
  have HD := Aside0.mk hdd
  clear hdd
  clear h1 hs h2
  go_enter Try.func20, Try.ntmps20
  go_wp2_with (first | ((with_reducible refine gate_dst (N := 6) rfl ?_); refine ev_alloc HB rfl (blkA fun _ => 0) 26 ?hr ?_; (case hr => (rw [← blkA_zero]; go_simp; rfl)); intro g0 w1 G_g0 GE_g0 B_g0 HBn K_g0; clear HB; have HB := HBn; clear HBn) | ((with_reducible refine gate_dst (N := 8) rfl ?_); refine ev_alloc HB rfl (blkA fun _ => 0) 26 ?hr ?_; (case hr => (rw [← blkA_zero]; go_simp; rfl)); intro g1 w2 G_g1 GE_g1 B_g1 HBn K_g1; clear HB; have HB := HBn; clear HBn))
  have B0 := B_g0.below K_g1.out
  have NE := Aside0.mk (show g0 ≠ g1 by have := B_g0.lt; have := G_g1.out; omega)
  go_loopw [10] (fun v wr => ∃ i : Nat, i ≤ 64 ∧ v = .int .i64 i ∧ Blk wr g1 (blkA fun j => if j < i then cutF s n pad j else 0) 26 ∧ Blk wr g0 (blkA fun _ => 0) 26 ∧ BelowH w wr) (fun v _ => 64 - (intOf v).toNat)
  case atStart => exact ⟨0, by omega, rfl, by simpa using B_g1, B0, HB⟩
  case round =>
    clear B0 B_g1 B_g0 HB
    obtain ⟨i, hi, rfl, B1, B0, HB⟩ := hrel
    by_cases hlt : i < 64
    · have hc := B1.cell (blkA_get _ hlt)
      have hf := B1.frozen i
      have hS : (blkA fun j => if j < i + 1 then cutF s n pad j else 0) = (blkA fun j => if j < i then cutF s n pad j else 0).setIfInBounds i (.int .u8 (cutF s n pad i)) := (blkA_set hlt (by simp) (fun j hj => by
          by_cases h : j < i
          · rw [if_pos h, if_pos (by omega)]
          · rw [if_neg h, if_neg (by omega)])).symm
      have HH := Aside0.mk hS
      clear hS
      have hlm3 : decide ((i : Int) < 64) = true := decide_eq_true (by omega)
      by_cases hlm : n + i < s.size
      · have hlm1 : decide ((i : Int) < wrap64 ((s.size : Int) - (n : Int))) = true := decide_eq_true (by have := HD.out; omega)
        have ha : wrap64 ((n : Int) + (i : Int)) = ((n + i : Nat) : Int) := by have := HM.out; have := HS.out; unfold wrap64; omega
        have hbs : n + i < s.size := by have := HM.out; omega
        have hb : ∀ h : n + i < s.size, ((s[n + i]'h).toNat : Int) = bt s ((n + i : Nat) : Int) := fun h => bt_at s ((n + i : Nat) : Int) h
        go_wp2
        go_roundw
        case rel =>
          refine ⟨i + 1, by omega, by go_num, ?_, (B0.far NE.out _ _).far NE.out _ _, (HB.set GE_g1.out _ _).set GE_g1.out _ _⟩
          refine ((B1.set i _).set i _).eqA ?_
          rw [Array.setIfInBounds_setIfInBounds, HH.out, show cutF s n pad i = bt s ((n : Int) + (i : Int)) by unfold cutF; rw [if_pos (by omega)]]
        case measure => simp [intOf]; omega
      · have hlm1 : decide ((i : Int) < wrap64 ((s.size : Int) - (n : Int))) = false := decide_eq_false (by have := HD.out; omega)
        have hz := Aside0.mk (show ¬ (0 ≤ (n : Int) ∧ (n : Int) + (i : Int) < s.size) by omega)
        go_wp2
        go_roundw
        case rel =>
          refine ⟨i + 1, by omega, by go_num, ?_, B0.far NE.out _ _, HB.set GE_g1.out _ _⟩
          refine (B1.set i _).eqA ?_
          rw [HH.out, show cutF s n pad i = pad by unfold cutF; rw [if_neg hz.out]]
        case measure => simp [intOf]; omega
    · have E : Blk wr g1 (blkA (cutF s n pad)) 26 := B1.eqA (blkA_congr fun j hj => by rw [if_pos (by omega)])
      clear B1
      go_wp2_with (first | ((with_reducible refine gate_dst (N := 42) rfl ?_); refine ev_load E rfl 26 _ rfl rfl Try.underlying26 (size64' _) ?_) | ((with_reducible refine gate_ (Op.store 26 (.tmp 6) (.tmp 42)) rfl ?_); refine ev_store HB B0 GE_g0 rfl 26 _ _ rfl rfl rfl (size64' _) (by rw [blkA_size, blkA_size]) (blkA_one _) ?_; intro w3 B3 HBn K_w3; clear HB; have HB := HBn; clear HBn))
      refine bodyPost_ret (results_row_tmp rfl _ _ g0 26 _ _ rfl B3 Try.underlying26 rfl (size64' _)) rfl ?_
      exact ⟨by rw [HD.out]; rfl, HB.out⟩
open Go.Proofs.YtoimelcdhkmceaaQ Go.Proofs.YtoimelcdhkmceaaM in
theorem quarryref02_Cut.calls (s : ByteArray) (at_ pad : Int) (w : World) (hs : s.size ≤ 281474976702464) :
    Calls Try.prog 20 #[.string s, .int .i64 at_, .int .u8 pad] w fun e w' => e = .returned (.tuple #[.agg (blkA (cutF s at_ pad)), .int .i64 (cutN s at_)]) ∧ Below w.heap.size w w' := by
  unfold cutN
  by_cases h : at_ < 0 ∨ (s.size : Int) ≤ at_
  · rw [if_pos h]
    exact quarryref02_Cut.calls_out s at_ pad w h
  · rw [if_neg h]
    obtain ⟨n, rfl⟩ : ∃ n : Nat, at_ = n := ⟨at_.toNat, by omega⟩
    by_cases h2 : n + 64 < s.size
    · rw [if_pos (by omega)]
      exact quarryref02_Cut.calls_in_full s n pad w hs h2
    · have := quarryref02_Cut.calls_in_part s n pad w hs (by omega) (by omega)
      by_cases h3 : 64 ≤ (s.size : Int) - n
      · rw [if_pos h3]
        rw [show (s.size : Int) - (n : Int) = 64 by omega] at this
        exact this
      · rw [if_neg h3]
        exact this


/-! ### block_Cut: function 19 -/
open Go.Proofs.YtoimelcdhkmceaaQ Go.Proofs.YtoimelcdhkmceaaM in
set_option maxHeartbeats 4000000 in
set_option maxRecDepth 100000 in
theorem block_Cut.calls_out (s : ByteArray) (at_ pad : Int) (w : World) (h : at_ < 0 ∨ (s.size : Int) ≤ at_) :
    Calls Try.prog 19 #[.string s, .int .i64 at_, .int .u8 pad] w fun e w' => e = .returned (.tuple #[.agg (blkA (cutF s at_ pad)), .int .i64 0]) ∧ Below w.heap.size w w' := by
  have HB := BelowH.refl w
  have E : (blkA fun _ => pad) = blkA (cutF s at_ pad) := blkA_congr fun i _ => by unfold cutF; rw [if_neg (by omega)]
  have HE := Aside0.mk E
  clear E
  rcases h with h | h
  · go_enter Try.func19, Try.ntmps19
    go_wp2_with (first | ((with_reducible refine gate_dst (N := 6) rfl ?_); refine ev_alloc HB rfl (blkA fun _ => 0) 26 ?hr ?_; (case hr => (rw [← blkA_zero]; go_simp; rfl)); intro g0 w1 G_g0 GE_g0 B_g0 HBn K_g0; clear HB; have HB := HBn; clear HBn) | (go_at_call 45; refine (block_filled.calls pad _).mono ?_; rintro e w2 ⟨rfl, hb2⟩; have B2 := B_g0.below hb2; have HB2 := HB.step hb2; clear HB; have HB := HB2; clear HB2 hb2) | ((with_reducible refine gate_ (Op.store 26 (.tmp 6) (.tmp 19)) rfl ?_); refine ev_store HB B2 GE_g0 rfl 26 _ _ rfl rfl rfl (size64' _) (by rw [blkA_size, blkA_size]) (blkA_one _) ?_; intro w3 B3 HBn K_w3; clear HB; have HB := HBn; clear HBn))
    refine bodyPost_ret (results_row_tmp rfl _ _ g0 26 _ _ rfl B3 Try.underlying26 rfl (size64' _)) rfl ?_
    exact ⟨by rw [HE.out]; rfl, HB.out⟩
  · by_cases h0 : at_ < 0
    · omega
    go_enter Try.func19, Try.ntmps19
    go_wp2_with (first | ((with_reducible refine gate_dst (N := 6) rfl ?_); refine ev_alloc HB rfl (blkA fun _ => 0) 26 ?hr ?_; (case hr => (rw [← blkA_zero]; go_simp; rfl)); intro g0 w1 G_g0 GE_g0 B_g0 HBn K_g0; clear HB; have HB := HBn; clear HBn) | (go_at_call 45; refine (block_filled.calls pad _).mono ?_; rintro e w2 ⟨rfl, hb2⟩; have B2 := B_g0.below hb2; have HB2 := HB.step hb2; clear HB; have HB := HB2; clear HB2 hb2) | ((with_reducible refine gate_ (Op.store 26 (.tmp 6) (.tmp 19)) rfl ?_); refine ev_store HB B2 GE_g0 rfl 26 _ _ rfl rfl rfl (size64' _) (by rw [blkA_size, blkA_size]) (blkA_one _) ?_; intro w3 B3 HBn K_w3; clear HB; have HB := HBn; clear HBn))
    refine bodyPost_ret (results_row_tmp rfl _ _ g0 26 _ _ rfl B3 Try.underlying26 rfl (size64' _)) rfl ?_
    exact ⟨by rw [HE.out]; rfl, HB.out⟩
open Go.Proofs.YtoimelcdhkmceaaQ Go.Proofs.YtoimelcdhkmceaaM in
set_option maxHeartbeats 4000000 in
set_option maxRecDepth 100000 in
theorem block_Cut.calls_full (s : ByteArray) (at_ pad : Int) (w : World) (hs : s.size ≤ 281474976702464) (h0 : 0 ≤ at_) (h1 : at_ + 64 ≤ s.size) :
    Calls Try.prog 19 #[.string s, .int .i64 at_, .int .u8 pad] w fun e w' => e = .returned (.tuple #[.agg (blkA (cutF s at_ pad)), .int .i64 64]) ∧ Below w.heap.size w w' := by
  obtain ⟨n, rfl⟩ : ∃ n : Nat, at_ = n := ⟨at_.toNat, by omega⟩
  have HB := BelowH.refl w
  have d1 : ¬ ((n : Int) < 0) := by omega
  have d2 : ¬ ((s.size : Int) ≤ n) := by omega
  have d3 : (64 : Int) ≤ (s.size : Int) - n := by omega
  have H1 := Aside0.mk h1
  have EX := Aside0.mk (show ∀ j : Nat, j < 64 → bt (s.extract n (n + 64)) (j : Int) = cutF s n pad j by
    intro j hj
    unfold cutF
    rw [if_pos (by omega), bt_extract s n (n + 64) j (by omega) (by omega)]
    norm_cast)
  have EZ : (s.extract n (n + 64)).size = 64 := by rw [ByteArray.size_extract]; omega
  have HZ := Aside0.mk EZ
  clear EZ
  go_enter Try.func19, Try.ntmps19
  go_wp2_with (first
    | ((with_reducible refine gate_dst (N := 6) rfl ?_); refine ev_alloc HB rfl (blkA fun _ => 0) 26 ?hr ?_; (case hr => (rw [← blkA_zero]; go_simp; rfl)); intro g0 w1 G_g0 GE_g0 B_g0 HBn K_g0; clear HB; have HB := HBn; clear HBn)
    | ((with_reducible refine gate_dst (N := 30) rfl ?_); refine ev_bytes HB rfl 9 50 _ rfl _ 64 HZ.out rfl Try.underlying9 Try.underlying50 Try.underlying5 ?_; intro g2 cap w2 G_g2 HBn K_g2 C2; clear HB; have HB := HBn; clear HBn)
    | ((with_reducible refine gate_dst (N := 31) rfl ?_); refine ev_arrayAt rfl 26 _ rfl ⟨g2, 0, none⟩ 64 cap 64 5 rfl Try.underlying26 (Nat.le_refl _) ?_)
    | ((with_reducible refine gate_dst (N := 32) rfl ?_); refine ev_load_mid rfl 26 _ rfl g2 0 rfl (blkA (cutF s n pad)) (fun j hj => by rw [blkA_size] at hj; rw [Nat.zero_add, C2.out j hj, blkA_get _ hj, EX.out j hj]) Try.underlying26 (size64' _) ?_; have B2 := B_g0.below K_g2.out)
    | ((with_reducible refine gate_ (Op.store 26 (.tmp 6) (.tmp 32)) rfl ?_); refine ev_store HB B2 GE_g0 rfl 26 _ _ rfl rfl rfl (size64' _) (by rw [blkA_size, blkA_size]) (blkA_one _) ?_; intro w3 B3 HBn K_w3; clear HB; have HB := HBn; clear HBn))
  refine bodyPost_ret (results_row_tmp rfl _ _ g0 26 _ _ rfl B3 Try.underlying26 rfl (size64' _)) rfl ?_
  exact ⟨rfl, HB.out⟩
open Go.Proofs.YtoimelcdhkmceaaQ Go.Proofs.YtoimelcdhkmceaaM in
set_option maxHeartbeats 4000000 in
set_option maxRecDepth 100000 in
theorem block_Cut.calls_part (s : ByteArray) (at_ pad : Int) (w : World) (hs : s.size ≤ 281474976702464) (h0 : 0 ≤ at_) (h1 : at_ < s.size) (h2 : s.size < at_ + 64) :
    Calls Try.prog 19 #[.string s, .int .i64 at_, .int .u8 pad] w fun e w' => e = .returned (.tuple #[.agg (blkA (cutF s at_ pad)), .int .i64 (s.size - at_)]) ∧ Below w.heap.size w w' := by
  obtain ⟨n, rfl⟩ : ∃ n : Nat, at_ = n := ⟨at_.toNat, by omega⟩
  have HB := BelowH.refl w
  have d1 : ¬ ((n : Int) < 0) := by omega
  have d2 : ¬ ((s.size : Int) ≤ n) := by omega
  have d3 : ¬ ((64 : Int) ≤ (s.size : Int) - n) := by omega
  have d4 : (n : Int) ≤ s.size := by omega
  have d5 : n ≤ s.size := by omega
  go_enter Try.func19, Try.ntmps19
  go_wp2_with (first
    | ((with_reducible refine gate_dst (N := 6) rfl ?_); refine ev_alloc HB rfl (blkA fun _ => 0) 26 ?hr ?_; (case hr => (rw [← blkA_zero]; go_simp; rfl)); intro g0 w1 G_g0 GE_g0 B_g0 HBn K_g0; clear HB; have HB := HBn; clear HBn)
    | (go_at_call 45; refine (block_filled.calls pad _).mono ?_; rintro e w2 ⟨rfl, hb2⟩; have B2 := B_g0.below hb2; have HB2 := HB.step hb2; clear HB; have HB := HB2; clear HB2 hb2)
    | ((with_reducible refine gate_dst (N := 8) rfl ?_); refine ev_alloc HB rfl (blkA fun _ => 0) 26 ?hr ?_; (case hr => (rw [← blkA_zero]; go_simp; rfl)); intro g8 w3 G_g8 GE_g8 B_g8 HBn K_g8; clear HB; have HB := HBn; clear HBn)
    | ((with_reducible refine gate_ (Op.store 26 (.tmp 8) (.tmp 34)) rfl ?_); refine ev_store HB B_g8 GE_g8 rfl 26 _ _ rfl rfl rfl (size64' _) (by rw [blkA_size, blkA_size]) (blkA_one _) ?_; intro w4 B8 HBn K_w4; clear HB; have HB := HBn; clear HBn))
  have NE := Aside0.mk (show g0 ≠ g8 by have := B2.lt; have := G_g8.out; omega)
  go_still_tail 4, (by kernel_rfl)
  change wpList _ _ _ _ _ w4.drew
  have B8' := B8.drew
  have HB' := HB.drew
  have B0 := (((B2.below K_g8.out).other K_w4 NE.out).drew)
  have EZ := Aside0.mk (show (s.extract n s.size).size = s.size - n by rw [ByteArray.size_extract]; omega)
  clear HB
  go_wp2_with (first
    | ((with_reducible refine gate_dst (N := 39) rfl ?_); refine ev_copy64 HB' B8' GE_g8 rfl _ _ 50 9 5 rfl _ (s.size - n) EZ.out (by omega) rfl rfl Try.underlying50 (by kernel_rfl) ?_; intro w5 B9 HB K_w5)
    | ((with_reducible refine gate_dst (N := 40) rfl ?_); refine ev_load B9 rfl 26 _ rfl rfl Try.underlying26 (size64' _) ?_)
    | ((with_reducible refine gate_ (Op.store 26 (.tmp 6) (.tmp 40)) rfl ?_); have B1 := B0.other K_w5 NE.out; refine ev_store HB B1 GE_g0 rfl 26 _ _ rfl rfl rfl (size64' _) (by rw [blkA_size, blkA_size]) (blkA_one _) ?_; intro w6 B6 HBn K_w6; clear HB; have HB := HBn; clear HBn))
  have E : (blkA fun j => if j < s.size - n then bt (s.extract n s.size) (j : Int) else pad) = blkA (cutF s n pad) := blkA_congr fun j hj => by
    unfold cutF
    by_cases h : j < s.size - n
    · rw [if_pos h, if_pos (by omega), bt_extract s n s.size j (by omega) (by omega)]
      norm_cast
    · rw [if_neg h, if_neg (by omega)]
  refine bodyPost_ret (results_row_tmp rfl _ _ g0 26 _ _ rfl B6 Try.underlying26 rfl (size64' _)) rfl ?_
  refine ⟨?_, HB.out⟩
  rw [E, show (s.size : Int) - n = ((s.size - n : Nat) : Int) by omega]
  rfl
open Go.Proofs.YtoimelcdhkmceaaQ Go.Proofs.YtoimelcdhkmceaaM in
theorem block_Cut.calls (s : ByteArray) (at_ pad : Int) (w : World) (hs : s.size ≤ 281474976702464) :
    Calls Try.prog 19 #[.string s, .int .i64 at_, .int .u8 pad] w fun e w' => e = .returned (.tuple #[.agg (blkA (cutF s at_ pad)), .int .i64 (cutN s at_)]) ∧ Below w.heap.size w w' := by
  unfold cutN
  by_cases h : at_ < 0 ∨ (s.size : Int) ≤ at_
  · rw [if_pos h]
    exact block_Cut.calls_out s at_ pad w h
  · rw [if_neg h]
    by_cases h2 : 64 ≤ (s.size : Int) - at_
    · rw [if_pos h2]
      exact block_Cut.calls_full s at_ pad w hs (by omega) (by omega)
    · rw [if_neg h2]
      exact block_Cut.calls_part s at_ pad w hs (by omega) (by omega) (by omega)


/-! ### block_Blocks_1: function 47 -/
section
open Go.Proofs.YtoimelcdhkmceaaQ Go.Proofs.YtoimelcdhkmceaaM Go.Shelf
attribute [local go_sem] Oper.semAt_some
/-- What Blocks tells of the k-th block. -/
def blkEnc (s : ByteArray) (pad : Int) (k : Nat) : Array Value := #[.int .i64 (64 * (k : Int)), .agg (blkA (cutF s (64 * (k : Int)) pad))]
set_option maxHeartbeats 4000000 in
set_option maxRecDepth 100000 in
theorem block_Blocks_1.walk (F : Fence) (HF : Aside0 (F = Fence.wide)) (n : Nat) (hn : 3 ≤ n) (l g1 g2 : Nat) (s : ByteArray) (pad : Int) (hs : s.size ≤ 281474976702464) (J Jx : List (Fin (nwords s.size)) → World → Prop) (W0 : World)
    (hJ : ∀ pre A B, J pre A → Below A.heap.size A B → J pre B)
    (hY : ∀ pre x W, J pre W → pre.length < nwords s.size → YieldAt F (n - 1) Try.prog l (blkEnc s pad x.val) W fun e W' =>
      (e = .returned (.bool true) ∧ J (pre ++ [x]) W' ∧ Keep2 g1 g2 W W') ∨ (e = .returned (.bool false) ∧ Jx (pre ++ [x]) W'))
    (B1 : Blk W0 g1 #[.string s] 9) (B2 : Blk W0 g2 #[.int .u8 pad] 5) (h0 : J [] W0) :
    CallsIn F n Try.prog 47 #[.func (.yield l) #[] #[], .pointer (some ⟨g1, 0, none⟩), .pointer (some ⟨g2, 0, none⟩)] W0 fun e W' => (∃ v, e = .returned v) ∧
      ((∃ ys, ys = List.finRange (nwords s.size) ∧ J ys W') ∨ (∃ pre, pre <+: List.finRange (nwords s.size) ∧ Jx pre W')) := by
  have HJ := Aside0.mk hJ
  have HY := Aside0.mk hY
  have HJ0 := Aside0.mk h0
  clear hJ hY h0
  have f0 := wide_fn HF 19
  have n1 : 1 ≤ n := by omega
  have n2 : 1 ≤ n - 1 := by omega
  have hro := wide_round HF
  refine callsIn_of_wp Try.func47 rfl (wide_fn HF _) ?_ (wide_round HF)
  simp only [Try.ntmps47, List.size_toArray, List.length_cons, List.length_nil, Nat.reduceAdd, Nat.reduceSub, Array.replicate_succ, Array.replicate_zero, List.push_toArray, List.append_toArray, List.nil_append, List.cons_append]
  gi_wp2
  gi_loopw [4] (fun v wr => ∃ k : Nat, v = .int .i64 (64 * (k : Int)) ∧ Aside0 (k ≤ nwords s.size) ∧ Aside0 (J ((List.finRange (nwords s.size)).take k) wr) ∧ Blk wr g1 #[.string s] 9 ∧ Blk wr g2 #[.int .u8 pad] 5) (fun v _ => 64 * nwords s.size - (intOf v).toNat)
  case atStart => exact ⟨0, rfl, ⟨Nat.zero_le _⟩, HJ0, B1, B2⟩
  case round =>
    clear B1 B2 HJ0
    obtain ⟨k, rfl, HK, HJk, B1, B2⟩ := hrel
    have c1 := B1.cell (i := 0) rfl
    have c2 := B2.cell (i := 0) rfl
    have HB := BelowH.refl wr
    by_cases hlt : 64 * (k : Int) < s.size
    · have K1 : Aside0 (64 * (k : Int) < s.size) := ⟨hlt⟩
      have KN : Aside0 (k < nwords s.size) := ⟨by unfold nwords; omega⟩
      have KT := Aside0.mk (finRange_take (nwords s.size) k KN.out)
      gi_wp2_with (first
        | (gi_at_call 19; refine (callsIn_of HF (block_Cut.calls s (64 * (k : Int)) pad _ hs)).mono ?_; rintro e w3 ⟨rfl, hb3⟩; have D1 := B1.below hb3; have D2 := B2.below hb3; have HB3 := HB.step hb3; clear hb3)
        | ((with_reducible refine gate_dstIn (N := 5) rfl ?_); refine ev_allocIn HB3 rfl rfl (blkA fun _ => 0) 26 ?hr ?_; (case hr => (rw [← blkA_zero]; go_simp; rfl)); intro g5 w4 G_g5 GE_g5 B_g5 HB4 K_g5 KO5; have E1 := D1.below K_g5.out; have E2 := D2.below K_g5.out)
        | ((with_reducible refine gate_In (Op.store 26 (.tmp 5) (.tmp 18)) rfl ?_); refine ev_storeIn HB4 B_g5 GE_g5 rfl 26 _ _ rfl rfl rfl (size64' _) (by rw [blkA_size, blkA_size]) (blkA_one _) ?_; intro w5 B5 HB5 K_w5 KO_w5; have N1 := Aside0.mk (show g1 ≠ g5 by have := D1.lt; have := G_g5.out; omega); have N2 := Aside0.mk (show g2 ≠ g5 by have := D2.lt; have := G_g5.out; omega); have F1 := E1.other K_w5 N1.out; have F2 := E2.other K_w5 N2.out)
        | ((with_reducible refine gate_dstIn (N := 22) rfl ?_); refine ev_loadIn B5 rfl 26 _ rfl rfl Try.underlying26 (size64' _) ?_; have HJ5 := Aside0.mk (HJ.out _ _ _ HJk.out HB5.out); obtain ⟨fn, tmps, assign, body, hy, hR⟩ := HY.out ((List.finRange (nwords s.size)).take k) ⟨k, KN.out⟩ _ HJ5.out (by rw [List.length_take, List.length_finRange]; have := KN.out; omega); have HR := Aside0.mk hR; clear hR; dsimp only [blkEnc] at hy))
      refine HR.out.mono ?_
      rintro e W6 (⟨rfl, hJ6, hk6⟩ | ⟨rfl, hJx6⟩)
      · have G1 : Blk W6 g1 #[.string s] 9 := ⟨hk6.1.trans F1.out⟩
        have G2 : Blk W6 g2 #[.int .u8 pad] 5 := ⟨hk6.2.1.trans F2.out⟩
        have HJ6 := Aside0.mk (show J ((List.finRange (nwords s.size)).take (k + 1)) W6 by rw [KT.out]; exact hJ6)
        clear hJ6 hk6
        gi_wp2
        go_roundw
        case rel => exact ⟨k + 1, by simp; omega, ⟨by unfold nwords; have := K1.out; omega⟩, HJ6, G1, G2⟩
        case measure => simp [intOf, nwords]; have := K1.out; omega
      · have HJ6 := Aside0.mk hJx6
        clear hJx6
        gi_wp2
        refine bodyPost_ret (results_none rfl _ _ _) rfl ?_
        refine ⟨⟨_, rfl⟩, .inr ⟨_, ?_, HJ6.out⟩⟩
        rw [← KT.out]
        exact List.take_prefix _ _
    · have EK : k = nwords s.size := by
        have h1 := HK.out
        unfold nwords at *
        omega
      have HE := Aside0.mk EK
      clear EK
      gi_wp2
      go_end0
      have h := HJk.out
      rw [HE.out, List.take_of_length_le (by rw [List.length_finRange]; exact Nat.le_refl _)] at h
      exact ⟨⟨_, rfl⟩, .inl h⟩
/-- What Blocks hands back tells the blocks, in order. -/
theorem block_Blocks_1.stops (F : Fence) (HF : Aside0 (F = Fence.wide)) (n : Nat) (hn : 3 ≤ n) (g1 g2 : Nat) (s : ByteArray) (pad : Int) (hs : s.size ≤ 281474976702464) (w : World)
    (B1 : Blk w g1 #[.string s] 9) (B2 : Blk w g2 #[.int .u8 pad] 5) :
    SeqStopsK F n Try.prog 47 #[.pointer (some ⟨g1, 0, none⟩), .pointer (some ⟨g2, 0, none⟩)] (fun x : Fin (nwords s.size) => blkEnc s pad x.val) (Keep2 g1 g2) (fun ys => ys = List.finRange (nwords s.size)) (fun pre => pre <+: List.finRange (nwords s.size)) (nwords s.size) w := by
  intro l J Jx W hW hJ _ hY h0
  exact block_Blocks_1.walk F HF n hn l g1 g2 s pad hs J Jx W
    (fun pre A B hA hb => hJ pre A B none hA ⟨hb.os, hb.tape, hb.output, hb.size, fun k hk _ => hb.block k hk⟩ (fun r e => by cases e))
    hY (B1.below hW) (B2.below hW) h0
end


/-! ### quarrylaw02_told: function 32 -/
section
open Go.Proofs.YtoimelcdhkmceaaQ Go.Proofs.YtoimelcdhkmceaaM Go.Shelf
attribute [local go_sem] Oper.semAt_some
/-- Between two blocks. -/
structure ToldI (w : World) (L : List (Nat × Array Value × Nat)) (m g10 g11 : Nat) {n : Nat} (pre : List (Fin n)) (W : World) : Prop where mk ::
  bs : Blks L W
  b10 : Blk W g10 #[.bool false] 4
  b11 : Blk W g11 #[.int .i64 (pre.length : Int)] 3
  hb : BelowH w W
  sz : m ≤ W.heap.size
theorem ToldI.kept {w W W' : World} {L : List (Nat × Array Value × Nat)} {m g10 g11 n : Nat} {pre : List (Fin n)} (h : ToldI w L m g10 g11 pre W) {B : Nat} (hB : w.heap.size ≤ B) {row : Option Nat} (hg : W.grownBy W' row) (hr : ∀ r, row = some r → B ≤ r ∧ ∃ o : Obj, W.heap[r]? = some o ∧ o.isCells = false) : ToldI w L m g10 g11 pre W' := by
  have hr' : ∀ r, row = some r → ∃ o : Obj, W.heap[r]? = some o ∧ o.isCells = false := fun r e => (hr r e).2
  exact ⟨h.bs.kept hg hr', h.b10.kept hg hr', h.b11.kept hg hr', h.hb.kept hg hB (fun r e => (hr r e).1), Nat.le_trans h.sz hg.size⟩
/-- Where the round is left. -/
structure ToldX (w : World) (g10 : Nat) {n : Nat} (pre : List (Fin n)) (W : World) : Prop where mk ::
  res : ∃ r, Blk W g10 #[.bool r] 4 ∧ (pre <+: List.finRange n → r = true)
  hb : BelowH w W
theorem ToldX.kept {w W W' : World} {g10 n : Nat} {pre : List (Fin n)} (h : ToldX w g10 pre W) {B : Nat} (hB : w.heap.size ≤ B) {row : Option Nat} (hg : W.grownBy W' row) (hr : ∀ r, row = some r → B ≤ r ∧ ∃ o : Obj, W.heap[r]? = some o ∧ o.isCells = false) : ToldX w g10 pre W' := by
  have hr' : ∀ r, row = some r → ∃ o : Obj, W.heap[r]? = some o ∧ o.isCells = false := fun r e => (hr r e).2
  obtain ⟨r, b, hp⟩ := h.res
  exact ⟨⟨r, b.kept hg hr', hp⟩, h.hb.kept hg hB (fun r e => (hr r e).1)⟩
theorem w64_mul (k : Nat) (h : k ≤ 1125899906842624) : wrap64 (64 * (k : Int)) = 64 * (k : Int) := by unfold wrap64; omega
theorem w64_succ (k : Nat) (h : k ≤ 1125899906842624) : wrap64 ((k : Int) + 1) = (k : Int) + 1 := by unfold wrap64; omega
theorem lt_nwords {k n : Nat} (h : k < nwords n) (hn : n ≤ 281474976702464) : k ≤ 1125899906842624 := by unfold nwords at h; omega
theorem ge_false {k n : Nat} (h : 64 * k < n) : decide ((n : Int) ≤ 64 * (k : Int)) = false ∧ decide (n ≤ 64 * k) = false := ⟨decide_eq_false (by omega), decide_eq_false (by omega)⟩
theorem told_end {n : Nat} (h : n ≤ 281474976702464) : wrap64 (64 * ((nwords n : Nat) : Int)) = 64 * ((nwords n : Nat) : Int) ∧ decide ((n : Int) ≤ 64 * ((nwords n : Nat) : Int)) = true ∧ decide (n ≤ 64 * nwords n) = true := by
  have h1 : nwords n = (n + 63) / 64 := rfl
  exact ⟨by unfold wrap64; omega, decide_eq_true (by omega), decide_eq_true (by omega)⟩
theorem told_n0 {n : Nat} (g : nwords n = 0) : (((nwords n : Nat) : Int) == 0) = true := by simp [g]
theorem told_n1 {n : Nat} (g : ¬ nwords n = 0) (h : n ≤ 281474976702464) : (((nwords n : Nat) : Int) == 0) = false ∧ wrap64 (((nwords n : Nat) : Int) - 1) = ((nwords n : Nat) : Int) - 1 ∧ wrap64 (64 * (((nwords n : Nat) : Int) - 1)) = 64 * (((nwords n : Nat) : Int) - 1) ∧ decide (64 * (((nwords n : Nat) : Int) - 1) < (n : Int)) = true := by
  have h1 : nwords n = (n + 63) / 64 := rfl
  exact ⟨beq_eq_false_iff_ne.mpr (by omega), by unfold wrap64; omega, by unfold wrap64; omega, decide_eq_true (by omega)⟩
theorem prefix_last {n : Nat} {pre : List (Fin n)} {x : Fin n} (h : pre ++ [x] <+: List.finRange n) : x.val = pre.length := by
  obtain ⟨t, ht⟩ := h
  have h1 := congrArg (fun l => (l[pre.length]?).map (·.val)) ht
  have hl : pre.length < n := by
    have := congrArg List.length ht
    simp at this
    omega
  simp [hl] at h1
  exact h1
/-- The value that Blocks hands back. -/
def blocksV (h1 h2 : Nat) : Value := .func (.func 47) #[] #[.pointer (some ⟨h1, 0, none⟩), .pointer (some ⟨h2, 0, none⟩)]
def ToldGoal (d : Nat) : Prop := ∀ (s : ByteArray) (pad left : Int) (h1 h2 : Nat) (w : World), s.size ≤ 281474976702464 → Blk w h1 #[.string s] 9 → Blk w h2 #[.int .u8 pad] 5 →
    Calls Try.prog 32 #[blocksV h1 h2, .string s, .int .u8 pad, .int .i64 left, .int .i64 (d : Int)] w fun e w' => e = .returned (.bool true) ∧ Below w.heap.size w w'
set_option maxHeartbeats 4000000 in
set_option maxRecDepth 100000 in
theorem quarrylaw02_told.step (d : Nat) (hd : d ≤ 100) (IH : ∀ d', d' + 1 = d → ToldGoal d') : ToldGoal d := by
  intro s pad left h1 h2 w hs A1 A2
  unfold blocksV
  obtain ⟨F, hF⟩ : ∃ F, F = Fence.wide := ⟨_, rfl⟩
  have HF := Aside0.mk hF
  refine (callsIn_wide (n := 9)).1 ?_
  rw [← hF]
  clear hF
  have hro := wide_round HF
  have HB := BelowH.refl w
  have f2 := wide_fn HF 47
  have f3 := wide_fn HF 20
  have f4 := wide_fn HF 32
  have HIH := Aside0.mk IH
  clear IH
  refine callsIn_of_wp_marks Try.func32 rfl (wide_fn HF _) ?_ hro
  simp only [Try.ntmps32, List.size_toArray, List.length_cons, List.length_nil, Nat.reduceAdd, Nat.reduceSub, Array.replicate_succ, Array.replicate_zero, List.push_toArray, List.append_toArray, List.nil_append, List.cons_append]
  gi_upto_region 2 with (first
    | ((with_reducible refine gate_dstIn (N := 5) rfl ?_); refine ev_allocIn HB rfl rfl (#[.func (.func 47) #[] #[.pointer (some ⟨h1, 0, none⟩), .pointer (some ⟨h2, 0, none⟩)]]) 42 ?hr ?_; (case hr => first | (go_simp; done) | (go_simp; rfl)); intro g5 w5 G_g5 GE_g5 B_g5 HBn K_g5 KO_w5; clear HB; have HB := HBn; clear HBn)
    | ((with_reducible refine gate_dstIn (N := 6) rfl ?_); refine ev_allocIn HB rfl rfl (#[.string s]) 9 ?hr ?_; (case hr => first | (go_simp; done) | (go_simp; rfl)); intro g6 w6 G_g6 GE_g6 B_g6 HBn K_g6 KO_w6; clear HB; have HB := HBn; clear HBn)
    | ((with_reducible refine gate_dstIn (N := 7) rfl ?_); refine ev_allocIn HB rfl rfl (#[.int .u8 pad]) 5 ?hr ?_; (case hr => first | (go_simp; done) | (go_simp; rfl)); intro g7 w7 G_g7 GE_g7 B_g7 HBn K_g7 KO_w7; clear HB; have HB := HBn; clear HBn)
    | ((with_reducible refine gate_dstIn (N := 8) rfl ?_); refine ev_allocIn HB rfl rfl (#[.int .i64 left]) 3 ?hr ?_; (case hr => first | (go_simp; done) | (go_simp; rfl)); intro g8 w8 G_g8 GE_g8 B_g8 HBn K_g8 KO_w8; clear HB; have HB := HBn; clear HBn)
    | ((with_reducible refine gate_dstIn (N := 9) rfl ?_); refine ev_allocIn HB rfl rfl (#[.int .i64 (d : Int)]) 3 ?hr ?_; (case hr => first | (go_simp; done) | (go_simp; rfl)); intro g9 w9 G_g9 GE_g9 B_g9 HBn K_g9 KO_w9; clear HB; have HB := HBn; clear HBn)
    | ((with_reducible refine gate_dstIn (N := 10) rfl ?_); refine ev_allocIn HB rfl rfl (#[.bool false]) 4 ?hr ?_; (case hr => first | (go_simp; done) | (go_simp; rfl)); intro g10 w10 G_g10 GE_g10 B_g10 HBn K_g10 KO_w10; clear HB; have HB := HBn; clear HBn)
    | ((with_reducible refine gate_dstIn (N := 11) rfl ?_); refine ev_allocIn HB rfl rfl (#[.int .i64 0]) 3 ?hr ?_; (case hr => first | (go_simp; done) | (go_simp; rfl)); intro g11 w11 G_g11 GE_g11 B_g11 HBn K_g11 KO_w11; clear HB; have HB := HBn; clear HBn)
    | ((with_reducible refine gate_In (Op.store 3 (.tmp 11) (.const (.int .i64 0))) rfl ?_); refine ev_store1In (i := 0) HB B_g11 GE_g11 rfl 3 _ _ rfl rfl (.int .i64 0) rfl (by simp) (by kernel_rfl) rfl ?_; intro w12 B11 HBn K_w12 KO_w12; clear HB; have HB := HBn; clear HBn))
  have s6 := K_g6.out.size
  have s7 := K_g7.out.size
  have s8 := K_g8.out.size
  have s9 := K_g9.out.size
  have s10 := K_g10.out.size
  have s11 := K_g11.out.size
  have l5 := B_g5.lt
  have l6 := B_g6.lt
  have l7 := B_g7.lt
  have l8 := B_g8.lt
  have l9 := B_g9.lt
  have l10 := B_g10.lt
  have l11 := B11.lt
  have o6 := G_g6.out
  have o7 := G_g7.out
  have o8 := G_g8.out
  have o9 := G_g9.out
  have o10 := G_g10.out
  have o11 := G_g11.out
  have o5 := GE_g5.out
  have j1 := A1.lt
  have j2 := A2.lt
  have s12 := K_w12.out.1
  have k9 := below_step K_g10.out K_g11.out
  have k8 := below_step K_g9.out k9
  have D5 := (B_g5.below (below_step K_g6.out (below_step K_g7.out (below_step K_g8.out k8)))).other K_w12 (by omega)
  have D6 := (B_g6.below (below_step K_g7.out (below_step K_g8.out k8))).other K_w12 (by omega)
  have D7 := (B_g7.below (below_step K_g8.out k8)).other K_w12 (by omega)
  have D8 := (B_g8.below k8).other K_w12 (by omega)
  have D9 := (B_g9.below k9).other K_w12 (by omega)
  have D10 := (B_g10.below K_g11.out).other K_w12 (by omega)
  have C1 := A1.below HB.out
  have C2 := A2.below HB.out
  obtain ⟨L, hL⟩ : ∃ L : List (Nat × Array Value × Nat), L = [(g5, #[(.func (.func 47) #[] #[.pointer (some ⟨h1, 0, none⟩), .pointer (some ⟨h2, 0, none⟩)])], 42), (g6, #[.string s], 9), (g7, #[.int .u8 pad], 5), (g8, #[.int .i64 left], 3), (g9, #[.int .i64 (d : Int)], 3), (h1, #[.string s], 9), (h2, #[.int .u8 pad], 5)] := ⟨_, rfl⟩
  have CL : Blks L w12 := ⟨by
    rw [hL]
    intro b m
    simp at m
    rcases m with rfl | rfl | rfl | rfl | rfl | rfl | rfl
    · exact D5
    · exact D6
    · exact D7
    · exact D8
    · exact D9
    · exact C1
    · exact C2⟩
  have LL : ∀ b ∈ L, b.1 < w12.heap.size := fun b m => (CL.out b m).lt
  have LN : ∀ b ∈ L, b.1 ≠ g10 ∧ b.1 ≠ g11 := by
    rw [hL]
    intro b m
    simp at m
    rcases m with rfl | rfl | rfl | rfl | rfl | rfl | rfl <;> (dsimp only; omega)
  have M5 : (g5, #[(.func (.func 47) #[] #[.pointer (some ⟨h1, 0, none⟩), .pointer (some ⟨h2, 0, none⟩)])], 42) ∈ L := by rw [hL]; simp
  have M6 : (g6, #[.string s], 9) ∈ L := by rw [hL]; simp
  have M7 : (g7, #[.int .u8 pad], 5) ∈ L := by rw [hL]; simp
  have M8 : (g8, #[.int .i64 left], 3) ∈ L := by rw [hL]; simp
  have M9 : (g9, #[.int .i64 (d : Int)], 3) ∈ L := by rw [hL]; simp
  have N1 : (h1, #[.string s], 9) ∈ L := by rw [hL]; simp
  have N2 : (h2, #[.int .u8 pad], 5) ∈ L := by rw [hL]; simp
  have N1011 : g10 ≠ g11 := by omega
  have LH1 := C1.lt
  have LH2 := C2.lt
  have L10 := D10.lt
  have L11 := B11.lt
  have PL := Aside0.mk (And.intro LL LN)
  have PM := Aside0.mk (And.intro M5 (And.intro M6 (And.intro M7 (And.intro M8 (And.intro M9 (And.intro N1 N2))))))
  have c5 := D5.cell (i := 0) rfl
  have HBW := HB
  clear hL LL LN M5 M6 M7 M8 M9 N1 N2 s6 s7 s8 s9 s10 s11 s12 l5 l6 l7 l8 l9 l10 l11 o5 o6 o7 o8 o9 o10 o11 j1 j2 k8 k9 D5 D6 D7 D8 D9 B_g5 B_g6 B_g7 B_g8 B_g9 B_g10 B_g11 K_g5 K_g6 K_g7 K_g8 K_g9 K_g10 K_g11 K_w12 KO_w5 KO_w6 KO_w7 KO_w8 KO_w9 KO_w10 KO_w11 KO_w12 G_g5 G_g6 G_g7 G_g8 G_g9 G_g10 G_g11
  gi_wp2
  refine wpIn_rangeFunc_ownH hro (by decide) (gf := 47) (lb := #[.pointer (some ⟨h1, 0, none⟩), .pointer (some ⟨h2, 0, none⟩)]) rfl f2 (enters_of Try.func47 (by kernel_rfl) rfl)
    (block_Blocks_1.stops F HF (9 - 1) (by decide) h1 h2 s pad hs w12 C1 C2) Keep2.trans (fun W l o o' hl ho hc hw => Keep2.putObj LH1 LH2 W l o o' hl ho hc hw) (Below.refl _ _) (fun _ => rfl)
    (ToldI w L w12.heap.size g10 g11) (fun c pre W => c = .ret ∧ ToldX w g10 pre W)
    (fun pre A B row hs hg hr => hs.kept HBW.le hg hr)
    (fun c pre A B row hs hg hr => ⟨hs.1, hs.2.kept HBW.le hg hr⟩)
    ⟨CL, D10, B11, HBW, Nat.le_refl _⟩
    (fun x a' W => ∃ gb, w12.heap.size ≤ gb ∧ Blk W gb (blkA (cutF s (64 * ((x.val : Nat) : Int)) pad)) 26 ∧ a' = { tmps := #[(.func (.func 47) #[] #[.pointer (some ⟨h1, 0, none⟩), .pointer (some ⟨h2, 0, none⟩)]), .string s, .int .u8 pad, .int .i64 left, .int .i64 (d : Int), .pointer (some ⟨g5, 0, none⟩), .pointer (some ⟨g6, 0, none⟩), .pointer (some ⟨g7, 0, none⟩), .pointer (some ⟨g8, 0, none⟩), .pointer (some ⟨g9, 0, none⟩), .pointer (some ⟨g10, 0, none⟩), .pointer (some ⟨g11, 0, none⟩), .int .i64 (64 * ((x.val : Nat) : Int)), .pointer (some ⟨gb, 0, none⟩), undef, undef, (.func (.func 47) #[] #[.pointer (some ⟨h1, 0, none⟩), .pointer (some ⟨h2, 0, none⟩)]), .int .i64 (64 * ((x.val : Nat) : Int)), .agg (blkA (cutF s (64 * ((x.val : Nat) : Int)) pad)), undef, undef, undef, undef, undef, undef, undef, undef, undef, undef, undef, undef, undef, undef, undef, undef, undef, undef, undef, undef, undef, undef, undef, undef, undef, undef, undef, undef, undef, undef, undef, undef, undef, undef, undef, undef, undef, undef, undef, undef, undef, undef, undef, undef, undef, undef, undef, undef, undef, undef, undef, undef, undef, undef, undef, undef, undef, undef, undef, undef, undef], defers := [] })
    (fun x a' pre A B row hs hg hr => by
      obtain ⟨gb, h1, h2, h3⟩ := hs
      exact ⟨gb, h1, h2.kept hg (fun r e => (hr r e).2), h3⟩)
    ?assign ?body ?done ?stop
  case assign =>
    intro l pre x W K hI hK
    have HB := hI.hb
    have SZ := Aside0.mk hI.sz
    dsimp only [blkEnc]
    gi_wp2_with (first
      | ((with_reducible refine gate_dstIn (N := 13) rfl ?_); refine ev_allocIn HB rfl rfl (blkA fun _ => 0) 26 ?hr ?_; (case hr => (rw [← blkA_zero]; go_simp; rfl)); intro gb w15 G_gb GE_gb B_gb HBn K_gb KO_w15; clear HB; have HB := HBn; clear HBn)
      | ((with_reducible refine gate_In (Op.store 26 (.tmp 13) (.tmp 18)) rfl ?_); refine ev_storeIn HB B_gb GE_gb rfl 26 _ _ rfl rfl rfl (size64' _) (by rw [blkA_size, blkA_size]) (blkA_one _) ?_; intro w16 B16 HBn K_w16 KO_w16; clear HB; have HB := HBn; clear HBn))
    have hKO := KO_w15.out.trans KO_w16.out
    refine hK _ _ (hKO.from _) ?_ ?_ ⟨gb, Nat.le_trans SZ.out G_gb.out, B16, rfl⟩
    · exact (Keep2.below K_gb.out (by have := SZ.out; omega) (by have := SZ.out; omega)).trans (Keep2.other K_w16 (by have := SZ.out; have := G_gb.out; omega) (by have := SZ.out; have := G_gb.out; omega))
    · have N : ∀ g, g < w12.heap.size → g ≠ gb := fun g h => by have := SZ.out; have := G_gb.out; omega
      exact ⟨(hI.bs.below K_gb.out).other K_w16 (fun b m => N _ (PL.out.1 b m)), (hI.b10.below K_gb.out).other K_w16 (N _ L10), (hI.b11.below K_gb.out).other K_w16 (N _ L11), HB, Nat.le_trans SZ.out (Nat.le_trans K_gb.out.size K_w16.out.1)⟩
  case body =>
    rintro l pre x a' W hl ⟨r, hr⟩ hI ⟨gb, hgb, BX, rfl⟩ hlt
    have HB := hI.hb
    clear hr
    have hx : 64 * x.val < s.size := by have := x.isLt; unfold nwords at this; omega
    have RC : Aside0 (∀ w, Calls Try.prog 20 #[.string s, .int .i64 (64 * ((x.val : Nat) : Int)), .int .u8 pad] w fun e w' => e = .returned (.tuple #[.agg (blkA (cutF s (64 * ((x.val : Nat) : Int)) pad)), .int .i64 (cutN s (64 * ((x.val : Nat) : Int)))]) ∧ Below w.heap.size w w') := ⟨fun w => quarryref02_Cut.calls s _ pad w hs⟩
    have HX := Aside0.mk hx
    have HLT := Aside0.mk hlt
    have c6 := (hI.bs.out _ PM.out.2.1).cell (i := 0) rfl
    have c7 := (hI.bs.out _ PM.out.2.2.1).cell (i := 0) rfl
    have HS := Aside0.mk hs
    clear hx hlt
    by_cases hk : x.val = pre.length
    · have HKx := Aside0.mk hk
      rw [hk] at BX ⊢
      rw [hk] at RC
      clear hk
      gi_upto_region 6 with (first
        | (gi_at_call 20; refine (CallsIn.inRound l (callsIn_of HF (RC.out _))).mono ?_; rintro e w13 ⟨rfl, hb13⟩; have HK13 := Aside0.mk hb13; have HB13 := HB.step hb13; clear HB hb13; have HB := HB13; clear HB13)
        | ((with_reducible refine gate_dstIn (N := 14) rfl ?_); refine ev_allocIn HB rfl rfl (blkA fun _ => 0) 26 ?hr ?_; (case hr => (rw [← blkA_zero]; go_simp; rfl)); intro gw w14 G_gw GE_gw B_gw HBn K_gw KO_w14; clear HB; have HB := HBn; clear HBn)
        | ((with_reducible refine gate_In (Op.store 26 (.tmp 14) (.tmp 24)) rfl ?_); refine ev_storeIn HB B_gw GE_gw rfl 26 _ _ rfl rfl rfl (size64' _) (by rw [blkA_size, blkA_size]) (blkA_one _) ?_; intro w15 B15 HBn K_w15 KO_w15; clear HB; have HB := HBn; clear HBn))
      have z13 := HK13.out.size
      have NW : ∀ g, g < W.heap.size → g ≠ gw := fun g h => by have := G_gw.out; omega
      have E15 := ((hI.bs.below HK13.out).below K_gw.out).other K_w15 (fun b m => NW _ (Nat.lt_of_lt_of_le (PL.out.1 b m) hI.sz))
      have X15 := ((BX.below HK13.out).below K_gw.out).other K_w15 (NW _ BX.lt)
      have D10 := ((hI.b10.below HK13.out).below K_gw.out).other K_w15 (NW _ hI.b10.lt)
      have D11 := ((hI.b11.below HK13.out).below K_gw.out).other K_w15 (NW _ hI.b11.lt)
      have hsz : W.heap.size ≤ w15.heap.size := Nat.le_trans HK13.out.size (Nat.le_trans K_gw.out.size K_w15.out.1)
      have KO := Aside0.mk (((keepsOthers_below HK13.out).trans KO_w14.out).trans KO_w15.out)
      have c11 := D11.cell (i := 0) rfl
      have c6 := (E15.out _ PM.out.2.1).cell (i := 0) rfl
      clear z13 NW HK13 K_gw K_w15 KO_w14 KO_w15 B_gw G_gw GE_gw
      have hw := w64_mul _ (lt_nwords HLT.out HS.out)
      have hw1 := w64_succ _ (lt_nwords HLT.out HS.out)
      have hge := (ge_false (HKx.out ▸ HX.out : 64 * pre.length < s.size)).1
      have hge2 := (ge_false (HKx.out ▸ HX.out : 64 * pre.length < s.size)).2
      have EQ : ∀ (d : Nat) (W : World), (Op.equalIn (d + 2) 26 (.agg (blkA (cutF s (64 * (pre.length : Int)) pad))) (.agg (blkA (cutF s (64 * (pre.length : Int)) pad)))).run Try.prog W = .ok true W := by
        intro d W
        rw [run_eqArr (P := Try.prog) Try.underlying26 (by kernel_rfl) (by kernel_rfl) Try.underlying5 (cutF s (64 * (pre.length : Int)) pad) (cutF s (64 * (pre.length : Int)) pad) (fun j hj => blkA_get _ hj) (fun j hj => blkA_get _ hj) d W, all_eq_true fun _ _ => rfl]
      gi_upto_region 8 with (first
        | ((with_reducible refine gate_dstIn (N := 37) rfl ?_); (try (refine gate_guardIn (by rfl) ?_; dsimp only)); refine ev_loadIn X15 rfl 26 _ rfl rfl Try.underlying26 (size64' _) ?_)
        | ((with_reducible refine gate_dstIn (N := 38) rfl ?_); (try (refine gate_guardIn (by rfl) ?_; dsimp only)); refine ev_loadIn B15 rfl 26 _ rfl rfl Try.underlying26 (size64' _) ?_))
      gi_upto_region 9 with (first
        | ((with_reducible refine gate_In (Op.store 3 (.tmp 11) (.tmp 42)) rfl ?_); refine ev_store1In (i := 0) HB D11 GE_g11 rfl 3 _ _ rfl rfl (.int .i64 (wrap64 ((pre.length : Int) + 1))) rfl (by simp) (by kernel_rfl) rfl ?_; intro w16 B16 HB16 K_w16 KO_w16))
      rw [hw1] at B16
      have E16 := E15.other K_w16 (fun b m => (PL.out.2 b m).2)
      have D16 := D10.other K_w16 N1011
      have c11 := B16.cell (i := 0) rfl
      have c5 := (E16.out _ PM.out.1).cell (i := 0) rfl
      have c6 := (E16.out _ PM.out.2.1).cell (i := 0) rfl
      have c7 := (E16.out _ PM.out.2.2.1).cell (i := 0) rfl
      have c8 := (E16.out _ PM.out.2.2.2.1).cell (i := 0) rfl
      have c9 := (E16.out _ PM.out.2.2.2.2.1).cell (i := 0) rfl
      have hsz16 : W.heap.size ≤ w16.heap.size := Nat.le_trans hsz K_w16.out.1
      have KO16 := Aside0.mk (KO.out.trans KO_w16.out)
      clear EQ hw hw1 hge hge2 X15 B15 E15 D10 D11 K_w16 KO_w16 KO HB
      by_cases h3 : (pre.length : Int) + 1 = 3
      · have h31 : ((pre.length : Int) + 1 == 3) = true := beq_iff_eq.mpr h3
        clear h3
        rcases d with _ | d
        · gi_upto_region 11 with (fail)
          by_cases hl : (pre.length : Int) + 1 = left
          · have hl1 : ((pre.length : Int) + 1 == left) = true := beq_iff_eq.mpr hl
            clear hl
            gi_wp2_with (first
              | ((with_reducible refine gate_In (Op.store 4 (.tmp 10) (.const (.bool true))) rfl ?_); refine ev_store1In (i := 0) HB16 D16 GE_g10 rfl 4 _ _ rfl rfl _ rfl (by simp) (by kernel_rfl) rfl ?_; intro w20 B20 HB20 K_w20 KO_w20))
            exact ⟨(KO16.out.trans KO_w20.out).from _, rfl, ⟨_, B20, fun _ => rfl⟩, HB20⟩
          · have hl1 : ((pre.length : Int) + 1 == left) = false := beq_eq_false_iff_ne.mpr hl
            clear hl
            gi_wp2
            have hle : (((pre ++ [x]).length : Nat) : Int) = (pre.length : Int) + 1 := by simp
            exact ⟨KO16.out.from _, Keep2.of_blk (hI.bs.out _ PM.out.2.2.2.2.2.1) (hI.bs.out _ PM.out.2.2.2.2.2.2) (E16.out _ PM.out.2.2.2.2.2.1) (E16.out _ PM.out.2.2.2.2.2.2) hsz16, E16, D16, by rw [hle]; exact B16, HB16, Nat.le_trans hI.sz hsz16⟩
        · have hd0 : decide (0 < ((d + 1 : Nat) : Int)) = true := decide_eq_true (by omega)
          have IHc := HIH.out d rfl s pad
          have G := Aside0.mk (IHc (wrap64 (left + 1)) h1 h2 w16 hs (E16.out _ PM.out.2.2.2.2.2.1) (E16.out _ PM.out.2.2.2.2.2.2))
          unfold blocksV at G
          clear IHc
          gi_upto_region 11 with (first
            | (gi_at_call 32; refine (CallsIn.inRound l (callsIn_of HF G.out)).mono ?_; rintro e w17 ⟨rfl, hb17⟩; have HK17 := Aside0.mk hb17; have E17 := E16.below hb17; have D17 := D16.below hb17; have B17 := B16.below hb17; have HB17 := HB16.step hb17; have c11' := B17.cell (i := 0) rfl; have c8' := (E17.out _ PM.out.2.2.2.1).cell (i := 0) rfl; clear hb17 c11 c5 c6 c7 c8 c9))
          have hsz17 : W.heap.size ≤ w17.heap.size := Nat.le_trans hsz16 HK17.out.size
          have KO17 := Aside0.mk (KO16.out.trans (keepsOthers_below HK17.out))
          by_cases hl : (pre.length : Int) + 1 = left
          · have hl1 : ((pre.length : Int) + 1 == left) = true := beq_iff_eq.mpr hl
            clear hl
            gi_wp2_with (first
              | ((with_reducible refine gate_In (Op.store 4 (.tmp 10) (.const (.bool true))) rfl ?_); refine ev_store1In (i := 0) HB17 D17 GE_g10 rfl 4 _ _ rfl rfl _ rfl (by simp) (by kernel_rfl) rfl ?_; intro w20 B20 HB20 K_w20 KO_w20))
            exact ⟨(KO17.out.trans KO_w20.out).from _, rfl, ⟨_, B20, fun _ => rfl⟩, HB20⟩
          · have hl1 : ((pre.length : Int) + 1 == left) = false := beq_eq_false_iff_ne.mpr hl
            clear hl
            gi_wp2
            have hle : (((pre ++ [x]).length : Nat) : Int) = (pre.length : Int) + 1 := by simp
            exact ⟨KO17.out.from _, Keep2.of_blk (hI.bs.out _ PM.out.2.2.2.2.2.1) (hI.bs.out _ PM.out.2.2.2.2.2.2) (E17.out _ PM.out.2.2.2.2.2.1) (E17.out _ PM.out.2.2.2.2.2.2) hsz17, E17, D17, by rw [hle]; exact B17, HB17, Nat.le_trans hI.sz hsz17⟩
      · have h31 : ((pre.length : Int) + 1 == 3) = false := beq_eq_false_iff_ne.mpr h3
        clear h3
        gi_upto_region 11 with (fail)
        by_cases hl : (pre.length : Int) + 1 = left
        · have hl1 : ((pre.length : Int) + 1 == left) = true := beq_iff_eq.mpr hl
          clear hl
          gi_wp2_with (first
            | ((with_reducible refine gate_In (Op.store 4 (.tmp 10) (.const (.bool true))) rfl ?_); refine ev_store1In (i := 0) HB16 D16 GE_g10 rfl 4 _ _ rfl rfl _ rfl (by simp) (by kernel_rfl) rfl ?_; intro w20 B20 HB20 K_w20 KO_w20))
          exact ⟨(KO16.out.trans KO_w20.out).from _, rfl, ⟨_, B20, fun _ => rfl⟩, HB20⟩
        · have hl1 : ((pre.length : Int) + 1 == left) = false := beq_eq_false_iff_ne.mpr hl
          clear hl
          gi_wp2
          have hle : (((pre ++ [x]).length : Nat) : Int) = (pre.length : Int) + 1 := by simp
          exact ⟨KO16.out.from _, Keep2.of_blk (hI.bs.out _ PM.out.2.2.2.2.2.1) (hI.bs.out _ PM.out.2.2.2.2.2.2) (E16.out _ PM.out.2.2.2.2.2.1) (E16.out _ PM.out.2.2.2.2.2.2) hsz16, E16, D16, by rw [hle]; exact B16, HB16, Nat.le_trans hI.sz hsz16⟩
    · have hne : ((64 * ((x.val : Nat) : Int)) != 64 * (pre.length : Int)) = true := bne_iff_ne.mpr (by omega)
      have hw := w64_mul _ (lt_nwords HLT.out HS.out)
      have HKx := Aside0.mk hk
      clear hk
      gi_upto_region 6 with (first
        | (gi_at_call 20; refine (CallsIn.inRound l (callsIn_of HF (RC.out _))).mono ?_; rintro e w13 ⟨rfl, hb13⟩; have HK13 := Aside0.mk hb13; have HB13 := HB.step hb13; clear HB hb13; have HB := HB13; clear HB13)
        | ((with_reducible refine gate_dstIn (N := 14) rfl ?_); refine ev_allocIn HB rfl rfl (blkA fun _ => 0) 26 ?hr ?_; (case hr => (rw [← blkA_zero]; go_simp; rfl)); intro gw w14 G_gw GE_gw B_gw HBn K_gw KO_w14; clear HB; have HB := HBn; clear HBn)
        | ((with_reducible refine gate_In (Op.store 26 (.tmp 14) (.tmp 24)) rfl ?_); refine ev_storeIn HB B_gw GE_gw rfl 26 _ _ rfl rfl rfl (size64' _) (by rw [blkA_size, blkA_size]) (blkA_one _) ?_; intro w15 B15 HBn K_w15 KO_w15; clear HB; have HB := HBn; clear HBn))
      have z13 := HK13.out.size
      have NW : ∀ g, g < W.heap.size → g ≠ gw := fun g h => by have := G_gw.out; omega
      have E15 := ((hI.bs.below HK13.out).below K_gw.out).other K_w15 (fun b m => NW _ (Nat.lt_of_lt_of_le (PL.out.1 b m) hI.sz))
      have X15 := ((BX.below HK13.out).below K_gw.out).other K_w15 (NW _ BX.lt)
      have D10 := ((hI.b10.below HK13.out).below K_gw.out).other K_w15 (NW _ hI.b10.lt)
      have D11 := ((hI.b11.below HK13.out).below K_gw.out).other K_w15 (NW _ hI.b11.lt)
      have hsz : W.heap.size ≤ w15.heap.size := Nat.le_trans HK13.out.size (Nat.le_trans K_gw.out.size K_w15.out.1)
      have KO := Aside0.mk (((keepsOthers_below HK13.out).trans KO_w14.out).trans KO_w15.out)
      have c11 := D11.cell (i := 0) rfl
      have c6 := (E15.out _ PM.out.2.1).cell (i := 0) rfl
      clear z13 NW HK13 K_gw K_w15 KO_w14 KO_w15 B_gw G_gw GE_gw
      gi_wp2_with (first
        | ((with_reducible refine gate_In (Op.store 4 (.tmp 10) (.const (.bool false))) rfl ?_); refine ev_store1In (i := 0) HB D10 GE_g10 rfl 4 _ _ rfl rfl _ rfl (by simp) (by kernel_rfl) rfl ?_; intro w16 B16 HB16 K_w16 KO_w16))
      exact ⟨(KO.out.trans KO_w16.out).from _, rfl, ⟨_, B16, fun hp => absurd (prefix_last hp) HKx.out⟩, HB16⟩
  case done =>
    rintro D ys W hD rfl hI hK
    have HB := hI.hb
    have c11 := hI.b11.cell (i := 0) rfl
    have c6 := (hI.bs.out _ PM.out.2.1).cell (i := 0) rfl
    rw [List.length_finRange] at c11
    obtain ⟨T1, T2, T3⟩ := told_end hs
    have HD := Aside0.mk hD
    have HKD := Aside0.mk hK
    have HS := Aside0.mk hs
    clear hK hD
    by_cases g : nwords s.size = 0
    · have T4 := told_n0 g
      clear g hs
      gi_wp2_with (first
        | ((with_reducible refine gate_In (Op.store 4 (.tmp 10) (.tmp 79)) rfl ?_); refine ev_store1In (i := 0) HB hI.b10 GE_g10 rfl 4 _ _ rfl rfl (.bool true) rfl (by simp) (by kernel_rfl) rfl ?_; intro w20 B20 HB20 K_w20 KO_w20))
      have HK20 := KO_w20.out.same D _ HKD.out rfl
      have hg := grownBy_putObj' w20 D (.deferred none)
      have hle : w.heap.size ≤ D := Nat.le_trans HBW.le HD.out
      have hr2 : ∀ r, some D = some r → ∃ o : Obj, w20.heap[r]? = some o ∧ o.isCells = false := fun r e => by
        cases e
        exact ⟨_, HK20, rfl⟩
      refine ⟨by simp, .inl ⟨_, _, rfl, run_takeDeferred HK20, ?_⟩⟩
      refine ⟨_, results_cell1 rfl _ _ g10 4 _ _ rfl (B20.kept hg hr2) Try.underlying4 rfl, rfl, (HB20.kept hg hle (fun r e => by cases e; exact Nat.le_refl _)).out⟩
    · obtain ⟨T4, T5, T6, T7⟩ := told_n1 g hs
      clear g hs
      gi_wp2_with (first
        | ((with_reducible refine gate_In (Op.store 4 (.tmp 10) (.tmp 79)) rfl ?_); refine ev_store1In (i := 0) HB hI.b10 GE_g10 rfl 4 _ _ rfl rfl (.bool true) rfl (by simp) (by kernel_rfl) rfl ?_; intro w20 B20 HB20 K_w20 KO_w20))
      have HK20 := KO_w20.out.same D _ HKD.out rfl
      have hg := grownBy_putObj' w20 D (.deferred none)
      have hle : w.heap.size ≤ D := Nat.le_trans HBW.le HD.out
      have hr2 : ∀ r, some D = some r → ∃ o : Obj, w20.heap[r]? = some o ∧ o.isCells = false := fun r e => by
        cases e
        exact ⟨_, HK20, rfl⟩
      refine ⟨by simp, .inl ⟨_, _, rfl, run_takeDeferred HK20, ?_⟩⟩
      refine ⟨_, results_cell1 rfl _ _ g10 4 _ _ rfl (B20.kept hg hr2) Try.underlying4 rfl, rfl, (HB20.kept hg hle (fun r e => by cases e; exact Nat.le_refl _)).out⟩
  case stop =>
    rintro D c pre W hD hp ⟨rfl, hX⟩ hK
    obtain ⟨r, b10, hr⟩ := hX.res
    have hr' := hr hp
    subst hr'
    have hg := grownBy_putObj' W D (.deferred none)
    have hle : w.heap.size ≤ D := Nat.le_trans HBW.le hD
    have hr2 : ∀ r, some D = some r → ∃ o : Obj, W.heap[r]? = some o ∧ o.isCells = false := fun r e => by
      cases e
      exact ⟨_, hK, rfl⟩
    gi_wp2
    refine ⟨by simp, .inl ⟨_, _, rfl, run_takeDeferred hK, ?_⟩⟩
    refine ⟨_, results_cell1 rfl _ _ g10 4 _ _ rfl (b10.kept hg hr2) Try.underlying4 rfl, rfl, (hX.hb.kept hg hle (fun r e => by cases e; exact Nat.le_refl _)).out⟩
theorem quarrylaw02_told.goal : ∀ d : Nat, d ≤ 100 → ToldGoal d := by
  intro d
  induction d with
  | zero => exact fun h => quarrylaw02_told.step 0 h (fun d' h' => absurd h' (by omega))
  | succ d ih =>
    intro h
    refine quarrylaw02_told.step (d + 1) h (fun d' h' => ?_)
    have e : d' = d := by omega
    subst e
    exact ih (by omega)
end


/-! ### quarrylaw02_BlockWalks: function 7 -/
/-- Nothing is left to say. -/
def quarrylaw02_BlockWalks.Pure : Prop := True
open Go.Proofs.YtoimelcdhkmceaaQ Go.Proofs.YtoimelcdhkmceaaM in
set_option maxHeartbeats 4000000 in
set_option maxRecDepth 100000 in
theorem quarrylaw02_BlockWalks.walk (_ : quarrylaw02_BlockWalks.Pure) (a0 : ByteArray) (a1 a2 : Int) (w : World) (w0 : a0.size ≤ 140737488351232) (_ : (Lit.int .u8 a1).wf = true) (_ : (Lit.int .i64 a2).wf = true) :
    Calls Try.prog 7 #[.string a0, .int .u8 a1, .int .i64 a2] w fun e w' => e = .returned (.bool true) ∧ Below w.heap.size w w' := by
  have HB := BelowH.refl w
  have W0 := Aside0.mk (show a0.size ≤ 281474976702464 by omega)
  have T0 : ∀ (s : ByteArray) (pad left : Int) (h1 h2 : Nat) (w : World), s.size ≤ 281474976702464 → Blk w h1 #[.string s] 9 → Blk w h2 #[.int .u8 pad] 5 →
      Calls Try.prog 32 #[.func (.func 47) #[] #[.pointer (some ⟨h1, 0, none⟩), .pointer (some ⟨h2, 0, none⟩)], .string s, .int .u8 pad, .int .i64 left, .int .i64 0] w fun e w' => e = .returned (.bool true) ∧ Below w.heap.size w w' := quarrylaw02_told.goal 0 (by decide)
  have T1 : ∀ (s : ByteArray) (pad left : Int) (h1 h2 : Nat) (w : World), s.size ≤ 281474976702464 → Blk w h1 #[.string s] 9 → Blk w h2 #[.int .u8 pad] 5 →
      Calls Try.prog 32 #[.func (.func 47) #[] #[.pointer (some ⟨h1, 0, none⟩), .pointer (some ⟨h2, 0, none⟩)], .string s, .int .u8 pad, .int .i64 left, .int .i64 1] w fun e w' => e = .returned (.bool true) ∧ Below w.heap.size w w' := quarrylaw02_told.goal 1 (by decide)
  have T2 : ∀ (s : ByteArray) (pad left : Int) (h1 h2 : Nat) (w : World), s.size ≤ 281474976702464 → Blk w h1 #[.string s] 9 → Blk w h2 #[.int .u8 pad] 5 →
      Calls Try.prog 32 #[.func (.func 47) #[] #[.pointer (some ⟨h1, 0, none⟩), .pointer (some ⟨h2, 0, none⟩)], .string s, .int .u8 pad, .int .i64 left, .int .i64 2] w fun e w' => e = .returned (.bool true) ∧ Below w.heap.size w w' := quarrylaw02_told.goal 2 (by decide)
  have U0 := Aside0.mk T0
  have U1 := Aside0.mk T1
  have U2 := Aside0.mk T2
  clear w0 T0 T1 T2
  have QF : ∀ (w : World) (f : Fn) (a c : Array Value), (binOp .eql 42 (.func f a c) .nilFunc).run Try.prog w = .ok (.bool false) w := fun w f a c => run_eql_func_nil (ps := #[69]) (rs := #[]) (vd := false) _ (by kernel_rfl) w f a c
  go_enter Try.func7, Try.ntmps7
  go_upto_region 2 with (first
    | (go_at_call 31; refine (block_Blocks.calls _ _ _).mono ?_; rintro e w1 ⟨h1, h2, rfl, GE1, GE2, A1, A2, hb1⟩; have B1 := HB.step hb1.out; have GE1 := Aside0.mk GE1; have GE2 := Aside0.mk GE2; clear hb1))
  go_upto_region 4 with (first
    | (go_at_call 32; refine (U0.out _ 9 0 h1 h2 _ (by decide) A1 A2).mono ?_; rintro e w2 ⟨rfl, hb2⟩; have A3 := A1.below hb2; have A4 := A2.below hb2; have B2 := B1.step hb2; clear hb2))
  clear A1 A2 B1
  go_upto_region 7 with (first
    | (go_at_call 31; refine (block_Blocks.calls _ _ _).mono ?_; rintro e w3 ⟨h3, h4, rfl, GE3, GE4, A5, A6, hb3⟩; have A7 := A3.below hb3.out; have A8 := A4.below hb3.out; have B3 := B2.step hb3.out; have GE3 := Aside0.mk GE3; have GE4 := Aside0.mk GE4; clear hb3))
  clear A3 A4 B2
  go_wp2_with (fail)
  refine (U1.out a0 a1 a2 h3 h4 _ W0.out A5 A6).mono ?_
  rintro e w4 ⟨rfl, hb4⟩; have D5 := A5.below hb4; have D6 := A6.below hb4; have D7 := A7.below hb4; have D8 := A8.below hb4; have C3 := B3.step hb4; clear A5 A6 A7 A8 B3 hb4; have A5 := D5; have A6 := D6; have A7 := D7; have A8 := D8; have B3 := C3; clear D5 D6 D7 D8 C3
  go_wp2_with (fail)
  refine (U0.out a0 a1 0 h3 h4 _ W0.out A5 A6).mono ?_
  rintro e w4 ⟨rfl, hb4⟩; have D5 := A5.below hb4; have D6 := A6.below hb4; have D7 := A7.below hb4; have D8 := A8.below hb4; have C3 := B3.step hb4; clear A5 A6 A7 A8 B3 hb4; have A5 := D5; have A6 := D6; have A7 := D7; have A8 := D8; have B3 := C3; clear D5 D6 D7 D8 C3
  go_wp2_with (fail)
  refine (U0.out _ 9 0 h1 h2 _ (by decide) A7 A8).mono ?_
  rintro e w4 ⟨rfl, hb4⟩; have D5 := A5.below hb4; have D6 := A6.below hb4; have D7 := A7.below hb4; have D8 := A8.below hb4; have C3 := B3.step hb4; clear A5 A6 A7 A8 B3 hb4; have A5 := D5; have A6 := D6; have A7 := D7; have A8 := D8; have B3 := C3; clear D5 D6 D7 D8 C3
  go_wp2_with (fail)
  refine (U2.out a0 a1 2 h3 h4 _ W0.out A5 A6).mono ?_
  rintro e w4 ⟨rfl, hb4⟩; have D5 := A5.below hb4; have D6 := A6.below hb4; have D7 := A7.below hb4; have D8 := A8.below hb4; have C3 := B3.step hb4; clear A5 A6 A7 A8 B3 hb4; have A5 := D5; have A6 := D6; have A7 := D7; have A8 := D8; have B3 := C3; clear D5 D6 D7 D8 C3
  go_wp2_with (fail)
  go_ret
  exact ⟨rfl, B3.out⟩


end Go.Proofs.Ytoimelcdhkmceaa.PW
