-- Written by a program (myprint.py, over the kit's print) for this claim. Not trusted: Lean checks it.
import Derived.Test.YtoimelcdhkmceaaPCx0
namespace Go.Proofs.Ytoimelcdhkmceaa.PC
open Go.RowKit Go.Proofs.YtoimelcdhkmceaaW.PrintWords Go.Proofs.YtoimelcdhkmceaaW.PrintLast Go.Proofs.YtoimelcdhkmceaaW.PrintMore
attribute [local go_sem] max2_int min2_int max_two min_two max_three min_three max_four min_four   -- for this text's walks alone
set_option linter.unusedVariables false
set_option linter.unusedSimpArgs false

/-! ### block_filled: function 45 -/
open Go.Proofs.YtoimelcdhkmceaaQ Go.Proofs.YtoimelcdhkmceaaM in
theorem size64 : (Try.prog.info? 26).map (·.size) = some (blkA fun _ => 0).size := by kernel_rfl
open Go.Proofs.YtoimelcdhkmceaaQ Go.Proofs.YtoimelcdhkmceaaM in
theorem size64' (f : Nat → Int) : (Try.prog.info? 26).map (·.size) = some (blkA f).size := by rw [size64, blkA_size, blkA_size]
open Go.Proofs.YtoimelcdhkmceaaQ Go.Proofs.YtoimelcdhkmceaaM in
set_option maxHeartbeats 4000000 in
set_option maxRecDepth 100000 in
theorem block_filled.calls (x : Int) (w : World) :
    Calls Try.prog 45 #[.int .u8 x] w fun e w' => e = .returned (.agg (blkA fun _ => x)) ∧ Below w.heap.size w w' := by
  have HB := BelowH.refl w
  go_enter Try.func45, Try.ntmps45
  go_wp2_with (first | ((with_reducible refine gate_dst (N := 2) rfl ?_); refine ev_alloc HB rfl (blkA fun _ => 0) 26 ?hr ?_; (case hr => (rw [← blkA_zero]; go_simp; rfl)); intro g0 w1 G_g0 GE_g0 B_g0 HBn K_g0; clear HB; have HB := HBn; clear HBn) | ((with_reducible refine gate_dst (N := 3) rfl ?_); refine ev_alloc HB rfl (blkA fun _ => 0) 26 ?hr ?_; (case hr => (rw [← blkA_zero]; go_simp; rfl)); intro g1 w2 G_g1 GE_g1 B_g1 HBn K_g1; clear HB; have HB := HBn; clear HBn))
  have B0 := B_g0.below K_g1.out
  have NE := Aside0.mk (show g0 ≠ g1 by have := B_g0.lt; have := G_g1.out; omega)
  go_loopw [5] (fun v wr => ∃ i : Nat, i ≤ 64 ∧ v = .int .i64 i ∧ Blk wr g1 (blkA fun j => if j < i then x else 0) 26 ∧ Blk wr g0 (blkA fun _ => 0) 26 ∧ BelowH w wr) (fun v _ => 64 - (intOf v).toNat)
  case atStart => exact ⟨0, by omega, rfl, by simpa using B_g1, B0, HB⟩
  case round =>
    clear B0 B_g1 B_g0 HB
    obtain ⟨i, hi, rfl, B1, B0, HB⟩ := hrel
    by_cases hlt : i < 64
    · have hc := B1.cell (blkA_get _ hlt)
      have hf := B1.frozen i
      go_wp2
      go_roundw
      case rel =>
        refine ⟨i + 1, by omega, by go_num, ?_, B0.far NE.out _ _, HB.set GE_g1.out _ _⟩
        exact (B1.set i (.int .u8 x)).eqA (blkA_set hlt (by simp) (fun j hj => by
          by_cases h : j < i
          · rw [if_pos h, if_pos (by omega)]
          · rw [if_neg h, if_neg (by omega)]))
      case measure => simp [intOf]; omega
    · have E : Blk wr g1 (blkA fun _ => x) 26 := B1.eqA (blkA_congr fun j hj => by rw [if_pos (by omega)])
      clear B1
      go_wp2_with (first | ((with_reducible refine gate_dst (N := 12) rfl ?_); refine ev_load E rfl 26 _ rfl rfl Try.underlying26 (size64' _) ?_) | ((with_reducible refine gate_ (Op.store 26 (.tmp 2) (.tmp 12)) rfl ?_); refine ev_store HB B0 GE_g0 rfl 26 _ _ rfl rfl rfl (size64' _) (by rw [blkA_size, blkA_size]) (blkA_one _) ?_; intro w3 B3 HBn K_w3; clear HB; have HB := HBn; clear HBn))
      refine bodyPost_ret (results_cell_row rfl _ _ g0 26 _ (0, 0) _ rfl B3.out Try.underlying26 rfl (size64' _)) rfl ?_
      exact ⟨rfl, HB.out⟩


/-! ### block_Cut: function 19 -/
open Go.Proofs.YtoimelcdhkmceaaQ Go.Proofs.YtoimelcdhkmceaaM in
set_option maxHeartbeats 4000000 in
set_option maxRecDepth 100000 in
theorem block_Cut.calls_out (s : ByteArray) (at_ pad : Int) (w : World) (h : at_ < 0 ∨ (s.size : Int) ≤ at_) :
    Calls Try.prog 19 #[.string s, .int .i64 at_, .int .u8 pad] w fun e w' => e = .returned (.tuple #[.agg (blkA (cutF s at_ pad)), .int .i64 0]) ∧ Below w.heap.size w w' := by
  have HB := BelowH.refl w
  have E : (blkA fun _ => pad) = blkA (cutF s at_ pad) := blkA_congr fun i _ => by unfold cutF; rw [if_neg (by omega)]
  have HE := Aside0.mk E
  clear E
  rcases h with h | h
  · go_enter Try.func19, Try.ntmps19
    go_wp2_with (first | ((with_reducible refine gate_dst (N := 6) rfl ?_); refine ev_alloc HB rfl (blkA fun _ => 0) 26 ?hr ?_; (case hr => (rw [← blkA_zero]; go_simp; rfl)); intro g0 w1 G_g0 GE_g0 B_g0 HBn K_g0; clear HB; have HB := HBn; clear HBn) | (go_at_call 45; refine (block_filled.calls pad _).mono ?_; rintro e w2 ⟨rfl, hb2⟩; have B2 := B_g0.below hb2; have HB2 := HB.step hb2; clear HB; have HB := HB2; clear HB2 hb2) | ((with_reducible refine gate_ (Op.store 26 (.tmp 6) (.tmp 19)) rfl ?_); refine ev_store HB B2 GE_g0 rfl 26 _ _ rfl rfl rfl (size64' _) (by rw [blkA_size, blkA_size]) (blkA_one _) ?_; intro w3 B3 HBn K_w3; clear HB; have HB := HBn; clear HBn))
    refine bodyPost_ret (results_row_tmp rfl _ _ g0 26 _ _ rfl B3 Try.underlying26 rfl (size64' _)) rfl ?_
    exact ⟨by rw [HE.out]; rfl, HB.out⟩
  · by_cases h0 : at_ < 0
    · omega
    go_enter Try.func19, Try.ntmps19
    go_wp2_with (first | ((with_reducible refine gate_dst (N := 6) rfl ?_); refine ev_alloc HB rfl (blkA fun _ => 0) 26 ?hr ?_; (case hr => (rw [← blkA_zero]; go_simp; rfl)); intro g0 w1 G_g0 GE_g0 B_g0 HBn K_g0; clear HB; have HB := HBn; clear HBn) | (go_at_call 45; refine (block_filled.calls pad _).mono ?_; rintro e w2 ⟨rfl, hb2⟩; have B2 := B_g0.below hb2; have HB2 := HB.step hb2; clear HB; have HB := HB2; clear HB2 hb2) | ((with_reducible refine gate_ (Op.store 26 (.tmp 6) (.tmp 19)) rfl ?_); refine ev_store HB B2 GE_g0 rfl 26 _ _ rfl rfl rfl (size64' _) (by rw [blkA_size, blkA_size]) (blkA_one _) ?_; intro w3 B3 HBn K_w3; clear HB; have HB := HBn; clear HBn))
    refine bodyPost_ret (results_row_tmp rfl _ _ g0 26 _ _ rfl B3 Try.underlying26 rfl (size64' _)) rfl ?_
    exact ⟨by rw [HE.out]; rfl, HB.out⟩
open Go.Proofs.YtoimelcdhkmceaaQ Go.Proofs.YtoimelcdhkmceaaM in
set_option maxHeartbeats 4000000 in
set_option maxRecDepth 100000 in
theorem block_Cut.calls_full (s : ByteArray) (at_ pad : Int) (w : World) (hs : s.size ≤ 281474976702464) (h0 : 0 ≤ at_) (h1 : at_ + 64 ≤ s.size) :
    Calls Try.prog 19 #[.string s, .int .i64 at_, .int .u8 pad] w fun e w' => e = .returned (.tuple #[.agg (blkA (cutF s at_ pad)), .int .i64 64]) ∧ Below w.heap.size w w' := by
  obtain ⟨n, rfl⟩ : ∃ n : Nat, at_ = n := ⟨at_.toNat, by omega⟩
  have HB := BelowH.refl w
  have d1 : ¬ ((n : Int) < 0) := by omega
  have d2 : ¬ ((s.size : Int) ≤ n) := by omega
  have d3 : (64 : Int) ≤ (s.size : Int) - n := by omega
  have H1 := Aside0.mk h1
  have EX := Aside0.mk (show ∀ j : Nat, j < 64 → bt (s.extract n (n + 64)) (j : Int) = cutF s n pad j by
    intro j hj
    unfold cutF
    rw [if_pos (by omega), bt_extract s n (n + 64) j (by omega) (by omega)]
    norm_cast)
  have EZ : (s.extract n (n + 64)).size = 64 := by rw [ByteArray.size_extract]; omega
  have HZ := Aside0.mk EZ
  clear EZ
  go_enter Try.func19, Try.ntmps19
  go_wp2_with (first
    | ((with_reducible refine gate_dst (N := 6) rfl ?_); refine ev_alloc HB rfl (blkA fun _ => 0) 26 ?hr ?_; (case hr => (rw [← blkA_zero]; go_simp; rfl)); intro g0 w1 G_g0 GE_g0 B_g0 HBn K_g0; clear HB; have HB := HBn; clear HBn)
    | ((with_reducible refine gate_dst (N := 30) rfl ?_); refine ev_bytes HB rfl 9 50 _ rfl _ 64 HZ.out rfl Try.underlying9 Try.underlying50 Try.underlying5 ?_; intro g2 cap w2 G_g2 HBn K_g2 C2; clear HB; have HB := HBn; clear HBn)
    | ((with_reducible refine gate_dst (N := 31) rfl ?_); refine ev_arrayAt rfl 26 _ rfl ⟨g2, 0, none⟩ 64 cap 64 5 rfl Try.underlying26 (Nat.le_refl _) ?_)
    | ((with_reducible refine gate_dst (N := 32) rfl ?_); refine ev_load_mid rfl 26 _ rfl g2 0 rfl (blkA (cutF s n pad)) (fun j hj => by rw [blkA_size] at hj; rw [Nat.zero_add, C2.out j hj, blkA_get _ hj, EX.out j hj]) Try.underlying26 (size64' _) ?_; have B2 := B_g0.below K_g2.out)
    | ((with_reducible refine gate_ (Op.store 26 (.tmp 6) (.tmp 32)) rfl ?_); refine ev_store HB B2 GE_g0 rfl 26 _ _ rfl rfl rfl (size64' _) (by rw [blkA_size, blkA_size]) (blkA_one _) ?_; intro w3 B3 HBn K_w3; clear HB; have HB := HBn; clear HBn))
  refine bodyPost_ret (results_row_tmp rfl _ _ g0 26 _ _ rfl B3 Try.underlying26 rfl (size64' _)) rfl ?_
  exact ⟨rfl, HB.out⟩
open Go.Proofs.YtoimelcdhkmceaaQ Go.Proofs.YtoimelcdhkmceaaM in
set_option maxHeartbeats 4000000 in
set_option maxRecDepth 100000 in
theorem block_Cut.calls_part (s : ByteArray) (at_ pad : Int) (w : World) (hs : s.size ≤ 281474976702464) (h0 : 0 ≤ at_) (h1 : at_ < s.size) (h2 : s.size < at_ + 64) :
    Calls Try.prog 19 #[.string s, .int .i64 at_, .int .u8 pad] w fun e w' => e = .returned (.tuple #[.agg (blkA (cutF s at_ pad)), .int .i64 (s.size - at_)]) ∧ Below w.heap.size w w' := by
  obtain ⟨n, rfl⟩ : ∃ n : Nat, at_ = n := ⟨at_.toNat, by omega⟩
  have HB := BelowH.refl w
  have d1 : ¬ ((n : Int) < 0) := by omega
  have d2 : ¬ ((s.size : Int) ≤ n) := by omega
  have d3 : ¬ ((64 : Int) ≤ (s.size : Int) - n) := by omega
  have d4 : (n : Int) ≤ s.size := by omega
  have d5 : n ≤ s.size := by omega
  go_enter Try.func19, Try.ntmps19
  go_wp2_with (first
    | ((with_reducible refine gate_dst (N := 6) rfl ?_); refine ev_alloc HB rfl (blkA fun _ => 0) 26 ?hr ?_; (case hr => (rw [← blkA_zero]; go_simp; rfl)); intro g0 w1 G_g0 GE_g0 B_g0 HBn K_g0; clear HB; have HB := HBn; clear HBn)
    | (go_at_call 45; refine (block_filled.calls pad _).mono ?_; rintro e w2 ⟨rfl, hb2⟩; have B2 := B_g0.below hb2; have HB2 := HB.step hb2; clear HB; have HB := HB2; clear HB2 hb2)
    | ((with_reducible refine gate_dst (N := 8) rfl ?_); refine ev_alloc HB rfl (blkA fun _ => 0) 26 ?hr ?_; (case hr => (rw [← blkA_zero]; go_simp; rfl)); intro g8 w3 G_g8 GE_g8 B_g8 HBn K_g8; clear HB; have HB := HBn; clear HBn)
    | ((with_reducible refine gate_ (Op.store 26 (.tmp 8) (.tmp 34)) rfl ?_); refine ev_store HB B_g8 GE_g8 rfl 26 _ _ rfl rfl rfl (size64' _) (by rw [blkA_size, blkA_size]) (blkA_one _) ?_; intro w4 B8 HBn K_w4; clear HB; have HB := HBn; clear HBn))
  have NE := Aside0.mk (show g0 ≠ g8 by have := B2.lt; have := G_g8.out; omega)
  go_still_tail 4, (by kernel_rfl)
  change wpList _ _ _ _ _ w4.drew
  have B8' := B8.drew
  have HB' := HB.drew
  have B0 := (((B2.below K_g8.out).other K_w4 NE.out).drew)
  have EZ := Aside0.mk (show (s.extract n s.size).size = s.size - n by rw [ByteArray.size_extract]; omega)
  clear HB
  go_wp2_with (first
    | ((with_reducible refine gate_dst (N := 39) rfl ?_); refine ev_copy64 HB' B8' GE_g8 rfl _ _ 50 9 5 rfl _ (s.size - n) EZ.out (by omega) rfl rfl Try.underlying50 (by kernel_rfl) ?_; intro w5 B9 HB K_w5)
    | ((with_reducible refine gate_dst (N := 40) rfl ?_); refine ev_load B9 rfl 26 _ rfl rfl Try.underlying26 (size64' _) ?_)
    | ((with_reducible refine gate_ (Op.store 26 (.tmp 6) (.tmp 40)) rfl ?_); have B1 := B0.other K_w5 NE.out; refine ev_store HB B1 GE_g0 rfl 26 _ _ rfl rfl rfl (size64' _) (by rw [blkA_size, blkA_size]) (blkA_one _) ?_; intro w6 B6 HBn K_w6; clear HB; have HB := HBn; clear HBn))
  have E : (blkA fun j => if j < s.size - n then bt (s.extract n s.size) (j : Int) else pad) = blkA (cutF s n pad) := blkA_congr fun j hj => by
    unfold cutF
    by_cases h : j < s.size - n
    · rw [if_pos h, if_pos (by omega), bt_extract s n s.size j (by omega) (by omega)]
      norm_cast
    · rw [if_neg h, if_neg (by omega)]
  refine bodyPost_ret (results_row_tmp rfl _ _ g0 26 _ _ rfl B6 Try.underlying26 rfl (size64' _)) rfl ?_
  refine ⟨?_, HB.out⟩
  rw [E, show (s.size : Int) - n = ((s.size - n : Nat) : Int) by omega]
  rfl
open Go.Proofs.YtoimelcdhkmceaaQ Go.Proofs.YtoimelcdhkmceaaM in
theorem block_Cut.calls (s : ByteArray) (at_ pad : Int) (w : World) (hs : s.size ≤ 281474976702464) :
    Calls Try.prog 19 #[.string s, .int .i64 at_, .int .u8 pad] w fun e w' => e = .returned (.tuple #[.agg (blkA (cutF s at_ pad)), .int .i64 (cutN s at_)]) ∧ Below w.heap.size w w' := by
  unfold cutN
  by_cases h : at_ < 0 ∨ (s.size : Int) ≤ at_
  · rw [if_pos h]
    exact block_Cut.calls_out s at_ pad w h
  · rw [if_neg h]
    by_cases h2 : 64 ≤ (s.size : Int) - at_
    · rw [if_pos h2]
      exact block_Cut.calls_full s at_ pad w hs (by omega) (by omega)
    · rw [if_neg h2]
      exact block_Cut.calls_part s at_ pad w hs (by omega) (by omega) (by omega)


/-! ### quarryref02_Cut: function 20 -/
open Go.Proofs.YtoimelcdhkmceaaQ Go.Proofs.YtoimelcdhkmceaaM in
set_option maxHeartbeats 4000000 in
set_option maxRecDepth 100000 in
theorem quarryref02_Cut.calls_out (s : ByteArray) (at_ pad : Int) (w : World) (h : at_ < 0 ∨ (s.size : Int) ≤ at_) :
    Calls Try.prog 20 #[.string s, .int .i64 at_, .int .u8 pad] w fun e w' => e = .returned (.tuple #[.agg (blkA (cutF s at_ pad)), .int .i64 0]) ∧ Below w.heap.size w w' := by
  have HB := BelowH.refl w
  have E : (blkA fun _ => pad) = blkA (cutF s at_ pad) := blkA_congr fun i _ => by unfold cutF; rw [if_neg (by omega)]
  have HE := Aside0.mk E
  clear E
  have hd : decide (0 ≤ at_) = false ∨ (decide (0 ≤ at_) = true ∧ decide (at_ < (s.size : Int)) = false) := by
    by_cases h0 : 0 ≤ at_
    · exact .inr ⟨decide_eq_true h0, decide_eq_false (by omega)⟩
    · exact .inl (decide_eq_false h0)
  clear h
  rcases hd with h | ⟨h, h2⟩
  all_goals
    go_enter Try.func20, Try.ntmps20
    go_wp2_with (first | ((with_reducible refine gate_dst (N := 6) rfl ?_); refine ev_alloc HB rfl (blkA fun _ => 0) 26 ?hr ?_; (case hr => (rw [← blkA_zero]; go_simp; rfl)); intro g0 w1 G_g0 GE_g0 B_g0 HBn K_g0; clear HB; have HB := HBn; clear HBn) | ((with_reducible refine gate_dst (N := 8) rfl ?_); refine ev_alloc HB rfl (blkA fun _ => 0) 26 ?hr ?_; (case hr => (rw [← blkA_zero]; go_simp; rfl)); intro g1 w2 G_g1 GE_g1 B_g1 HBn K_g1; clear HB; have HB := HBn; clear HBn))
    have B0 := B_g0.below K_g1.out
    have NE := Aside0.mk (show g0 ≠ g1 by have := B_g0.lt; have := G_g1.out; omega)
    go_loopw [10] (fun v wr => ∃ i : Nat, i ≤ 64 ∧ v = .int .i64 i ∧ Blk wr g1 (blkA fun j => if j < i then pad else 0) 26 ∧ Blk wr g0 (blkA fun _ => 0) 26 ∧ BelowH w wr) (fun v _ => 64 - (intOf v).toNat)
    case atStart => exact ⟨0, by omega, rfl, by simpa using B_g1, B0, HB⟩
    case round =>
      clear B0 B_g1 B_g0 HB
      obtain ⟨i, hi, rfl, B1, B0, HB⟩ := hrel
      by_cases hlt : i < 64
      · have hc := B1.cell (blkA_get _ hlt)
        have hf := B1.frozen i
        have hni : decide ((i : Int) < 0) = false := decide_eq_false (by omega)
        go_wp2
        go_roundw
        case rel =>
          refine ⟨i + 1, by omega, by go_num, ?_, B0.far NE.out _ _, HB.set GE_g1.out _ _⟩
          exact (B1.set i (.int .u8 pad)).eqA (blkA_set hlt (by simp) (fun j hj => by
            by_cases h : j < i
            · rw [if_pos h, if_pos (by omega)]
            · rw [if_neg h, if_neg (by omega)]))
        case measure => simp [intOf]; omega
      · have E : Blk wr g1 (blkA fun _ => pad) 26 := B1.eqA (blkA_congr fun j hj => by rw [if_pos (by omega)])
        clear B1
        go_wp2_with (first | ((with_reducible refine gate_dst (N := 42) rfl ?_); refine ev_load E rfl 26 _ rfl rfl Try.underlying26 (size64' _) ?_) | ((with_reducible refine gate_ (Op.store 26 (.tmp 6) (.tmp 42)) rfl ?_); refine ev_store HB B0 GE_g0 rfl 26 _ _ rfl rfl rfl (size64' _) (by rw [blkA_size, blkA_size]) (blkA_one _) ?_; intro w3 B3 HBn K_w3; clear HB; have HB := HBn; clear HBn))
        refine bodyPost_ret (results_row_tmp rfl _ _ g0 26 _ _ rfl B3 Try.underlying26 rfl (size64' _)) rfl ?_
        exact ⟨by rw [HE.out]; rfl, HB.out⟩
open Go.Proofs.YtoimelcdhkmceaaQ Go.Proofs.YtoimelcdhkmceaaM in
set_option maxHeartbeats 4000000 in
set_option maxRecDepth 100000 in
theorem quarryref02_Cut.calls_in_full (s : ByteArray) (n : Nat) (pad : Int) (w : World) (hs : s.size ≤ 281474976702464) (h1 : n + 64 < s.size) :
    Calls Try.prog 20 #[.string s, .int .i64 (n : Int), .int .u8 pad] w fun e w' => e = .returned (.tuple #[.agg (blkA (cutF s n pad)), .int .i64 (64)]) ∧ Below w.heap.size w w' := by
  have HB := BelowH.refl w
  have d1 : decide (0 ≤ (n : Int)) = true := decide_eq_true (by omega)
  have d2 : decide ((n : Int) < (s.size : Int)) = true := decide_eq_true (by omega)
  have d2' : decide (n < s.size) = true := decide_eq_true (by omega)
  have hdd : wrap64 ((s.size : Int) - (n : Int)) = (s.size : Int) - (n : Int) := by unfold wrap64; omega
  have hd : decide ((64 : Int) < wrap64 ((s.size : Int) - (n : Int))) = true := decide_eq_true (by omega)
  have HM := Aside0.mk (show n + 64 < s.size by omega)
  have HS := Aside0.mk hs
  have HD := Aside0.mk hdd
  clear hdd
  clear h1 hs
  go_enter Try.func20, Try.ntmps20
  go_wp2_with (first | ((with_reducible refine gate_dst (N := 6) rfl ?_); refine ev_alloc HB rfl (blkA fun _ => 0) 26 ?hr ?_; (case hr => (rw [← blkA_zero]; go_simp; rfl)); intro g0 w1 G_g0 GE_g0 B_g0 HBn K_g0; clear HB; have HB := HBn; clear HBn) | ((with_reducible refine gate_dst (N := 8) rfl ?_); refine ev_alloc HB rfl (blkA fun _ => 0) 26 ?hr ?_; (case hr => (rw [← blkA_zero]; go_simp; rfl)); intro g1 w2 G_g1 GE_g1 B_g1 HBn K_g1; clear HB; have HB := HBn; clear HBn))
  have B0 := B_g0.below K_g1.out
  have NE := Aside0.mk (show g0 ≠ g1 by have := B_g0.lt; have := G_g1.out; omega)
  go_loopw [10] (fun v wr => ∃ i : Nat, i ≤ 64 ∧ v = .int .i64 i ∧ Blk wr g1 (blkA fun j => if j < i then cutF s n pad j else 0) 26 ∧ Blk wr g0 (blkA fun _ => 0) 26 ∧ BelowH w wr) (fun v _ => 64 - (intOf v).toNat)
  case atStart => exact ⟨0, by omega, rfl, by simpa using B_g1, B0, HB⟩
  case round =>
    clear B0 B_g1 B_g0 HB
    obtain ⟨i, hi, rfl, B1, B0, HB⟩ := hrel
    by_cases hlt : i < 64
    · have hc := B1.cell (blkA_get _ hlt)
      have hf := B1.frozen i
      have hS : (blkA fun j => if j < i + 1 then cutF s n pad j else 0) = (blkA fun j => if j < i then cutF s n pad j else 0).setIfInBounds i (.int .u8 (cutF s n pad i)) := (blkA_set hlt (by simp) (fun j hj => by
          by_cases h : j < i
          · rw [if_pos h, if_pos (by omega)]
          · rw [if_neg h, if_neg (by omega)])).symm
      have HH := Aside0.mk hS
      clear hS
      have hlm3 : decide ((i : Int) < 64) = true := decide_eq_true (by omega)
      have ha : wrap64 ((n : Int) + (i : Int)) = ((n + i : Nat) : Int) := by have := HM.out; have := HS.out; unfold wrap64; omega
      have hbs : n + i < s.size := by have := HM.out; omega
      have hb : ∀ h : n + i < s.size, ((s[n + i]'h).toNat : Int) = bt s ((n + i : Nat) : Int) := fun h => bt_at s ((n + i : Nat) : Int) h
      go_wp2
      go_roundw
      case rel =>
        refine ⟨i + 1, by omega, by go_num, ?_, (B0.far NE.out _ _).far NE.out _ _, (HB.set GE_g1.out _ _).set GE_g1.out _ _⟩
        refine ((B1.set i _).set i _).eqA ?_
        rw [Array.setIfInBounds_setIfInBounds, HH.out, show cutF s n pad i = bt s ((n : Int) + (i : Int)) by unfold cutF; rw [if_pos (by omega)]]
      case measure => simp [intOf]; omega
    · have E : Blk wr g1 (blkA (cutF s n pad)) 26 := B1.eqA (blkA_congr fun j hj => by rw [if_pos (by omega)])
      clear B1
      go_wp2_with (first | ((with_reducible refine gate_dst (N := 42) rfl ?_); refine ev_load E rfl 26 _ rfl rfl Try.underlying26 (size64' _) ?_) | ((with_reducible refine gate_ (Op.store 26 (.tmp 6) (.tmp 42)) rfl ?_); refine ev_store HB B0 GE_g0 rfl 26 _ _ rfl rfl rfl (size64' _) (by rw [blkA_size, blkA_size]) (blkA_one _) ?_; intro w3 B3 HBn K_w3; clear HB; have HB := HBn; clear HBn))
      refine bodyPost_ret (results_row_tmp rfl _ _ g0 26 _ _ rfl B3 Try.underlying26 rfl (size64' _)) rfl ?_
      exact ⟨rfl, HB.out⟩
open Go.Proofs.YtoimelcdhkmceaaQ Go.Proofs.YtoimelcdhkmceaaM in
set_option maxHeartbeats 4000000 in
set_option maxRecDepth 100000 in
theorem quarryref02_Cut.calls_in_part (s : ByteArray) (n : Nat) (pad : Int) (w : World) (hs : s.size ≤ 281474976702464) (h1 : n < s.size) (h2 : s.size ≤ n + 64) :
    Calls Try.prog 20 #[.string s, .int .i64 (n : Int), .int .u8 pad] w fun e w' => e = .returned (.tuple #[.agg (blkA (cutF s n pad)), .int .i64 ((s.size : Int) - (n : Int))]) ∧ Below w.heap.size w w' := by
  have HB := BelowH.refl w
  have d1 : decide (0 ≤ (n : Int)) = true := decide_eq_true (by omega)
  have d2 : decide ((n : Int) < (s.size : Int)) = true := decide_eq_true (by omega)
  have d2' : decide (n < s.size) = true := decide_eq_true (by omega)
  have hdd : wrap64 ((s.size : Int) - (n : Int)) = (s.size : Int) - (n : Int) := by unfold wrap64; omega
  have hd : decide ((64 : Int) < wrap64 ((s.size : Int) - (n : Int))) = false := decide_eq_false (by omega)
  have HM := Aside0.mk (show n < s.size ∧ s.size ≤ n + 64 by omega)
  have HS := Aside0.mk hs
  have HD := Aside0.mk hdd
  clear hdd
  clear h1 hs h2
  go_enter Try.func20, Try.ntmps20
  go_wp2_with (first | ((with_reducible refine gate_dst (N := 6) rfl ?_); refine ev_alloc HB rfl (blkA fun _ => 0) 26 ?hr ?_; (case hr => (rw [← blkA_zero]; go_simp; rfl)); intro g0 w1 G_g0 GE_g0 B_g0 HBn K_g0; clear HB; have HB := HBn; clear HBn) | ((with_reducible refine gate_dst (N := 8) rfl ?_); refine ev_alloc HB rfl (blkA fun _ => 0) 26 ?hr ?_; (case hr => (rw [← blkA_zero]; go_simp; rfl)); intro g1 w2 G_g1 GE_g1 B_g1 HBn K_g1; clear HB; have HB := HBn; clear HBn))
  have B0 := B_g0.below K_g1.out
  have NE := Aside0.mk (show g0 ≠ g1 by have := B_g0.lt; have := G_g1.out; omega)
  go_loopw [10] (fun v wr => ∃ i : Nat, i ≤ 64 ∧ v = .int .i64 i ∧ Blk wr g1 (blkA fun j => if j < i then cutF s n pad j else 0) 26 ∧ Blk wr g0 (blkA fun _ => 0) 26 ∧ BelowH w wr) (fun v _ => 64 - (intOf v).toNat)
  case atStart => exact ⟨0, by omega, rfl, by simpa using B_g1, B0, HB⟩
  case round =>
    clear B0 B_g1 B_g0 HB
    obtain ⟨i, hi, rfl, B1, B0, HB⟩ := hrel
    by_cases hlt : i < 64
    · have hc := B1.cell (blkA_get _ hlt)
      have hf := B1.frozen i
      have hS : (blkA fun j => if j < i + 1 then cutF s n pad j else 0) = (blkA fun j => if j < i then cutF s n pad j else 0).setIfInBounds i (.int .u8 (cutF s n pad i)) := (blkA_set hlt (by simp) (fun j hj => by
          by_cases h : j < i
          · rw [if_pos h, if_pos (by omega)]
          · rw [if_neg h, if_neg (by omega)])).symm
      have HH := Aside0.mk hS
      clear hS
      have hlm3 : decide ((i : Int) < 64) = true := decide_eq_true (by omega)
      by_cases hlm : n + i < s.size
      · have hlm1 : decide ((i : Int) < wrap64 ((s.size : Int) - (n : Int))) = true := decide_eq_true (by have := HD.out; omega)
        have ha : wrap64 ((n : Int) + (i : Int)) = ((n + i : Nat) : Int) := by have := HM.out; have := HS.out; unfold wrap64; omega
        have hbs : n + i < s.size := by have := HM.out; omega
        have hb : ∀ h : n + i < s.size, ((s[n + i]'h).toNat : Int) = bt s ((n + i : Nat) : Int) := fun h => bt_at s ((n + i : Nat) : Int) h
        go_wp2
        go_roundw
        case rel =>
          refine ⟨i + 1, by omega, by go_num, ?_, (B0.far NE.out _ _).far NE.out _ _, (HB.set GE_g1.out _ _).set GE_g1.out _ _⟩
          refine ((B1.set i _).set i _).eqA ?_
          rw [Array.setIfInBounds_setIfInBounds, HH.out, show cutF s n pad i = bt s ((n : Int) + (i : Int)) by unfold cutF; rw [if_pos (by omega)]]
        case measure => simp [intOf]; omega
      · have hlm1 : decide ((i : Int) < wrap64 ((s.size : Int) - (n : Int))) = false := decide_eq_false (by have := HD.out; omega)
        have hz := Aside0.mk (show ¬ (0 ≤ (n : Int) ∧ (n : Int) + (i : Int) < s.size) by omega)
        go_wp2
        go_roundw
        case rel =>
          refine ⟨i + 1, by omega, by go_num, ?_, B0.far NE.out _ _, HB.set GE_g1.out _ _⟩
          refine (B1.set i _).eqA ?_
          rw [HH.out, show cutF s n pad i = pad by unfold cutF; rw [if_neg hz.out]]
        case measure => simp [intOf]; omega
    · have E : Blk wr g1 (blkA (cutF s n pad)) 26 := B1.eqA (blkA_congr fun j hj => by rw [if_pos (by omega)])
      clear B1
      go_wp2_with (first | ((with_reducible refine gate_dst (N := 42) rfl ?_); refine ev_load E rfl 26 _ rfl rfl Try.underlying26 (size64' _) ?_) | ((with_reducible refine gate_ (Op.store 26 (.tmp 6) (.tmp 42)) rfl ?_); refine ev_store HB B0 GE_g0 rfl 26 _ _ rfl rfl rfl (size64' _) (by rw [blkA_size, blkA_size]) (blkA_one _) ?_; intro w3 B3 HBn K_w3; clear HB; have HB := HBn; clear HBn))
      refine bodyPost_ret (results_row_tmp rfl _ _ g0 26 _ _ rfl B3 Try.underlying26 rfl (size64' _)) rfl ?_
      exact ⟨by rw [HD.out]; rfl, HB.out⟩
open Go.Proofs.YtoimelcdhkmceaaQ Go.Proofs.YtoimelcdhkmceaaM in
theorem quarryref02_Cut.calls (s : ByteArray) (at_ pad : Int) (w : World) (hs : s.size ≤ 281474976702464) :
    Calls Try.prog 20 #[.string s, .int .i64 at_, .int .u8 pad] w fun e w' => e = .returned (.tuple #[.agg (blkA (cutF s at_ pad)), .int .i64 (cutN s at_)]) ∧ Below w.heap.size w w' := by
  unfold cutN
  by_cases h : at_ < 0 ∨ (s.size : Int) ≤ at_
  · rw [if_pos h]
    exact quarryref02_Cut.calls_out s at_ pad w h
  · rw [if_neg h]
    obtain ⟨n, rfl⟩ : ∃ n : Nat, at_ = n := ⟨at_.toNat, by omega⟩
    by_cases h2 : n + 64 < s.size
    · rw [if_pos (by omega)]
      exact quarryref02_Cut.calls_in_full s n pad w hs h2
    · have := quarryref02_Cut.calls_in_part s n pad w hs (by omega) (by omega)
      by_cases h3 : 64 ≤ (s.size : Int) - n
      · rw [if_pos h3]
        rw [show (s.size : Int) - (n : Int) = 64 by omega] at this
        exact this
      · rw [if_neg h3]
        exact this


/-! ### quarrylaw02_BlockCuts: function 5 -/
/-- Nothing is left to say. -/
def quarrylaw02_BlockCuts.Pure : Prop := True
open Go.Proofs.YtoimelcdhkmceaaQ Go.Proofs.YtoimelcdhkmceaaM in
set_option maxHeartbeats 4000000 in
set_option maxRecDepth 100000 in
theorem quarrylaw02_BlockCuts.walk (_ : quarrylaw02_BlockCuts.Pure) (a0 : ByteArray) (a1 a2 : Int) (w : World) (w0 : a0.size ≤ 140737488351232) (_ : (Lit.int .i64 a1).wf = true) (_ : (Lit.int .u8 a2).wf = true) :
    Calls Try.prog 5 #[.string a0, .int .i64 a1, .int .u8 a2] w fun e w' => e = .returned (.bool true) ∧ Below w.heap.size w w' := by
  have HB := BelowH.refl w
  have HN : cutN (⟨#[120, 121, 122]⟩ : ByteArray) 1 = 2 := by decide +kernel
  have F0 : cutF (⟨#[120, 121, 122]⟩ : ByteArray) 1 7 0 = 121 := by decide +kernel
  have F1 : cutF (⟨#[120, 121, 122]⟩ : ByteArray) 1 7 1 = 122 := by decide +kernel
  have F2 : cutF (⟨#[120, 121, 122]⟩ : ByteArray) 1 7 2 = 7 := by decide +kernel
  have F3 : cutF (⟨#[120, 121, 122]⟩ : ByteArray) 1 7 63 = 7 := by decide +kernel
  have W0 := Aside0.mk (show a0.size ≤ 281474976702464 by omega)
  have C1 : ∀ W : World, Calls Try.prog 19 #[.string (⟨#[120, 121, 122]⟩ : ByteArray), .int .i64 1, .int .u8 7] W fun e w' => e = .returned (.tuple #[.agg (blkA (cutF (⟨#[120, 121, 122]⟩ : ByteArray) 1 7)), .int .i64 2]) ∧ Below W.heap.size W w' := by
    intro W
    have := block_Cut.calls (⟨#[120, 121, 122]⟩ : ByteArray) 1 7 W (by decide)
    rw [HN] at this
    exact this
  have EQ : ∀ (d : Nat) (W : World), (Op.equalIn (d + 2) 26 (.agg (blkA (cutF a0 a1 a2))) (.agg (blkA (cutF a0 a1 a2)))).run Try.prog W = .ok true W := by
    intro d W
    rw [run_eqArr (P := Try.prog) Try.underlying26 (by kernel_rfl) (by kernel_rfl) Try.underlying5 (cutF a0 a1 a2) (cutF a0 a1 a2) (fun j hj => blkA_get _ hj) (fun j hj => blkA_get _ hj) d W, all_eq_true fun _ _ => rfl]
  clear HN w0
  go_enter Try.func5, Try.ntmps5
  go_upto_region 2 with (first
    | (go_at_call 19; refine (C1 _).mono ?_; rintro e w2 ⟨rfl, hb2⟩; have HB2 := HB.step hb2; clear HB; have HB := HB2; clear HB2 hb2)
    | ((with_reducible refine gate_dst (N := 7) rfl ?_); refine ev_alloc HB rfl (blkA fun _ => 0) 26 ?hr ?_; (case hr => (rw [← blkA_zero]; go_simp; rfl)); intro g0 w3 G_g0 GE_g0 B_g0 HBn K_g0; clear HB; have HB := HBn; clear HBn)
    | ((with_reducible refine gate_ (Op.store 26 (.tmp 7) (.tmp 14)) rfl ?_); refine ev_store HB B_g0 GE_g0 rfl 26 _ _ rfl rfl rfl (size64' _) (by rw [blkA_size, blkA_size]) (blkA_one _) ?_; intro w4 B0 HBn K_w4; clear HB; have HB := HBn; clear HBn))
  have c0 : w4.cell? ⟨g0, 0, none⟩ = some (.int .u8 121) := F0 ▸ B0.cell (blkA_get _ (show 0 < 64 by decide))
  have c1 : w4.cell? ⟨g0, 1, none⟩ = some (.int .u8 122) := F1 ▸ B0.cell (blkA_get _ (show 1 < 64 by decide))
  have c2 : w4.cell? ⟨g0, 2, none⟩ = some (.int .u8 7) := F2 ▸ B0.cell (blkA_get _ (show 2 < 64 by decide))
  have c3 : w4.cell? ⟨g0, 63, none⟩ = some (.int .u8 7) := F3 ▸ B0.cell (blkA_get _ (show 63 < 64 by decide))
  clear B0 F0 F1 F2 F3 C1
  go_upto_region 4 with (fail)
  clear c0 c1 c2 c3 K_w4 B_g0 K_g0 G_g0 GE_g0
  go_upto_region 6 with (first
    | (go_at_call 19; refine (block_Cut.calls _ _ _ _ W0.out).mono ?_; rintro e w5 ⟨rfl, hb5⟩; have HB5 := HB.step hb5; clear HB; have HB := HB5; clear HB5 hb5)
    | ((with_reducible refine gate_dst (N := 9) rfl ?_); refine ev_alloc HB rfl (blkA fun _ => 0) 26 ?hr ?_; (case hr => (rw [← blkA_zero]; go_simp; rfl)); intro g1 w6 G_g1 GE_g1 B_g1 HBn K_g1; clear HB; have HB := HBn; clear HBn)
    | ((with_reducible refine gate_ (Op.store 26 (.tmp 9) (.tmp 43)) rfl ?_); refine ev_store HB B_g1 GE_g1 rfl 26 _ _ rfl rfl rfl (size64' _) (by rw [blkA_size, blkA_size]) (blkA_one _) ?_; intro w7 B1 HBn K_w7; clear HB; have HB := HBn; clear HBn)
    | (go_at_call 20; refine (quarryref02_Cut.calls _ _ _ _ W0.out).mono ?_; rintro e w8 ⟨rfl, hb8⟩; have HB8 := HB.step hb8; have B1' := B1.below hb8; clear B1 HB; have HB := HB8; clear HB8 hb8)
    | ((with_reducible refine gate_dst (N := 10) rfl ?_); refine ev_alloc HB rfl (blkA fun _ => 0) 26 ?hr ?_; (case hr => (rw [← blkA_zero]; go_simp; rfl)); intro g2 w9 G_g2 GE_g2 B_g2 HBn K_g2; clear HB; have HB := HBn; clear HBn)
    | ((with_reducible refine gate_ (Op.store 26 (.tmp 10) (.tmp 50)) rfl ?_); refine ev_store HB B_g2 GE_g2 rfl 26 _ _ rfl rfl rfl (size64' _) (by rw [blkA_size, blkA_size]) (blkA_one _) ?_; intro w10 B2 HBn K_w10; clear HB; have HB := HBn; clear HBn))
  have B3 := (B1'.below K_g2.out).other K_w10 (by have := B1'.lt; have := G_g2.out; omega)
  clear K_w10 B_g2 K_g2 G_g2 GE_g2 B1' K_w7 B_g1 K_g1 G_g1 GE_g1
  go_wp2_with (first
    | ((with_reducible refine gate_dst (N := 56) rfl ?_); (try (refine gate_guard (by rfl) ?_; dsimp only)); refine ev_load B3 rfl 26 _ rfl rfl Try.underlying26 (size64' _) ?_)
    | ((with_reducible refine gate_dst (N := 57) rfl ?_); (try (refine gate_guard (by rfl) ?_; dsimp only)); refine ev_load B2 rfl 26 _ rfl rfl Try.underlying26 (size64' _) ?_))
  go_ret
  exact ⟨rfl, HB.out⟩


end Go.Proofs.Ytoimelcdhkmceaa.PC
