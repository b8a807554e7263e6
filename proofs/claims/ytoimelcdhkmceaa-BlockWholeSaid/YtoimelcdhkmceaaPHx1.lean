-- Written by a program (myprint.py, over the kit's print) for this claim. Not trusted: Lean checks it.
import Derived.Test.YtoimelcdhkmceaaPHx0
namespace Go.Proofs.Ytoimelcdhkmceaa.PH
open Go.RowKit Go.Proofs.YtoimelcdhkmceaaW.PrintWords Go.Proofs.YtoimelcdhkmceaaW.PrintLast Go.Proofs.YtoimelcdhkmceaaW.PrintMore
attribute [local go_sem] max2_int min2_int max_two min_two max_three min_three max_four min_four   -- for this text's walks alone
set_option linter.unusedVariables false
set_option linter.unusedSimpArgs false

/-! ### block_filled: function 45 -/
open Go.Proofs.YtoimelcdhkmceaaQ Go.Proofs.YtoimelcdhkmceaaM in
set_option maxHeartbeats 4000000 in
set_option maxRecDepth 100000 in
theorem block_filled.calls (x : Int) (w : World) :
    Calls Try.prog 45 #[.int .u8 x] w fun e w' => e = .returned (.agg (blkA fun _ => x)) ∧ Below w.heap.size w w' := by
  have HB := BelowH.refl w
  go_enter Try.func45, Try.ntmps45
  go_wp2_with (first | ((with_reducible refine gate_dst (N := 2) rfl ?_); refine ev_alloc HB rfl (blkA fun _ => 0) 26 ?hr ?_; (case hr => (rw [← blkA_zero]; go_simp; rfl)); intro g0 w1 G_g0 GE_g0 B_g0 HBn K_g0; clear HB; have HB := HBn; clear HBn) | ((with_reducible refine gate_dst (N := 3) rfl ?_); refine ev_alloc HB rfl (blkA fun _ => 0) 26 ?hr ?_; (case hr => (rw [← blkA_zero]; go_simp; rfl)); intro g1 w2 G_g1 GE_g1 B_g1 HBn K_g1; clear HB; have HB := HBn; clear HBn))
  have B0 := B_g0.below K_g1.out
  have NE := Aside0.mk (show g0 ≠ g1 by have := B_g0.lt; have := G_g1.out; omega)
  go_loopw [5] (fun v wr => ∃ i : Nat, i ≤ 64 ∧ v = .int .i64 i ∧ Blk wr g1 (blkA fun j => if j < i then x else 0) 26 ∧ Blk wr g0 (blkA fun _ => 0) 26 ∧ BelowH w wr) (fun v _ => 64 - (intOf v).toNat)
  case atStart => exact ⟨0, by omega, rfl, by simpa using B_g1, B0, HB⟩
  case round =>
    clear B0 B_g1 B_g0 HB
    obtain ⟨i, hi, rfl, B1, B0, HB⟩ := hrel
    by_cases hlt : i < 64
    · have hc := B1.cell (blkA_get _ hlt)
      have hf := B1.frozen i
      go_wp2
      go_roundw
      case rel =>
        refine ⟨i + 1, by omega, by go_num, ?_, B0.far NE.out _ _, HB.set GE_g1.out _ _⟩
        exact (B1.set i (.int .u8 x)).eqA (blkA_set hlt (by simp) (fun j hj => by
          by_cases h : j < i
          · rw [if_pos h, if_pos (by omega)]
          · rw [if_neg h, if_neg (by omega)]))
      case measure => simp [intOf]; omega
    · have E : Blk wr g1 (blkA fun _ => x) 26 := B1.eqA (blkA_congr fun j hj => by rw [if_pos (by omega)])
      clear B1
      go_wp2_with (first | ((with_reducible refine gate_dst (N := 12) rfl ?_); refine ev_load E rfl 26 _ rfl rfl Try.underlying26 (size64' _) ?_) | ((with_reducible refine gate_ (Op.store 26 (.tmp 2) (.tmp 12)) rfl ?_); refine ev_store HB B0 GE_g0 rfl 26 _ _ rfl rfl rfl (size64' _) (by rw [blkA_size, blkA_size]) (blkA_one _) ?_; intro w3 B3 HBn K_w3; clear HB; have HB := HBn; clear HBn))
      refine bodyPost_ret (results_cell_row rfl _ _ g0 26 _ (0, 0) _ rfl B3.out Try.underlying26 rfl (size64' _)) rfl ?_
      exact ⟨rfl, HB.out⟩


/-! ### block_Cut: function 19 -/
open Go.Proofs.YtoimelcdhkmceaaQ Go.Proofs.YtoimelcdhkmceaaM in
set_option maxHeartbeats 4000000 in
set_option maxRecDepth 100000 in
theorem block_Cut.calls_out (s : ByteArray) (at_ pad : Int) (w : World) (h : at_ < 0 ∨ (s.size : Int) ≤ at_) :
    Calls Try.prog 19 #[.string s, .int .i64 at_, .int .u8 pad] w fun e w' => e = .returned (.tuple #[.agg (blkA (cutF s at_ pad)), .int .i64 0]) ∧ Below w.heap.size w w' := by
  have HB := BelowH.refl w
  have E : (blkA fun _ => pad) = blkA (cutF s at_ pad) := blkA_congr fun i _ => by unfold cutF; rw [if_neg (by omega)]
  have HE := Aside0.mk E
  clear E
  rcases h with h | h
  · go_enter Try.func19, Try.ntmps19
    go_wp2_with (first | ((with_reducible refine gate_dst (N := 6) rfl ?_); refine ev_alloc HB rfl (blkA fun _ => 0) 26 ?hr ?_; (case hr => (rw [← blkA_zero]; go_simp; rfl)); intro g0 w1 G_g0 GE_g0 B_g0 HBn K_g0; clear HB; have HB := HBn; clear HBn) | (go_at_call 45; refine (block_filled.calls pad _).mono ?_; rintro e w2 ⟨rfl, hb2⟩; have B2 := B_g0.below hb2; have HB2 := HB.step hb2; clear HB; have HB := HB2; clear HB2 hb2) | ((with_reducible refine gate_ (Op.store 26 (.tmp 6) (.tmp 19)) rfl ?_); refine ev_store HB B2 GE_g0 rfl 26 _ _ rfl rfl rfl (size64' _) (by rw [blkA_size, blkA_size]) (blkA_one _) ?_; intro w3 B3 HBn K_w3; clear HB; have HB := HBn; clear HBn))
    refine bodyPost_ret (results_row_tmp rfl _ _ g0 26 _ _ rfl B3 Try.underlying26 rfl (size64' _)) rfl ?_
    exact ⟨by rw [HE.out]; rfl, HB.out⟩
  · by_cases h0 : at_ < 0
    · omega
    go_enter Try.func19, Try.ntmps19
    go_wp2_with (first | ((with_reducible refine gate_dst (N := 6) rfl ?_); refine ev_alloc HB rfl (blkA fun _ => 0) 26 ?hr ?_; (case hr => (rw [← blkA_zero]; go_simp; rfl)); intro g0 w1 G_g0 GE_g0 B_g0 HBn K_g0; clear HB; have HB := HBn; clear HBn) | (go_at_call 45; refine (block_filled.calls pad _).mono ?_; rintro e w2 ⟨rfl, hb2⟩; have B2 := B_g0.below hb2; have HB2 := HB.step hb2; clear HB; have HB := HB2; clear HB2 hb2) | ((with_reducible refine gate_ (Op.store 26 (.tmp 6) (.tmp 19)) rfl ?_); refine ev_store HB B2 GE_g0 rfl 26 _ _ rfl rfl rfl (size64' _) (by rw [blkA_size, blkA_size]) (blkA_one _) ?_; intro w3 B3 HBn K_w3; clear HB; have HB := HBn; clear HBn))
    refine bodyPost_ret (results_row_tmp rfl _ _ g0 26 _ _ rfl B3 Try.underlying26 rfl (size64' _)) rfl ?_
    exact ⟨by rw [HE.out]; rfl, HB.out⟩
open Go.Proofs.YtoimelcdhkmceaaQ Go.Proofs.YtoimelcdhkmceaaM in
set_option maxHeartbeats 4000000 in
set_option maxRecDepth 100000 in
theorem block_Cut.calls_full (s : ByteArray) (at_ pad : Int) (w : World) (hs : s.size ≤ 281474976702464) (h0 : 0 ≤ at_) (h1 : at_ + 64 ≤ s.size) :
    Calls Try.prog 19 #[.string s, .int .i64 at_, .int .u8 pad] w fun e w' => e = .returned (.tuple #[.agg (blkA (cutF s at_ pad)), .int .i64 64]) ∧ Below w.heap.size w w' := by
  obtain ⟨n, rfl⟩ : ∃ n : Nat, at_ = n := ⟨at_.toNat, by omega⟩
  have HB := BelowH.refl w
  have d1 : ¬ ((n : Int) < 0) := by omega
  have d2 : ¬ ((s.size : Int) ≤ n) := by omega
  have d3 : (64 : Int) ≤ (s.size : Int) - n := by omega
  have H1 := Aside0.mk h1
  have EX := Aside0.mk (show ∀ j : Nat, j < 64 → bt (s.extract n (n + 64)) (j : Int) = cutF s n pad j by
    intro j hj
    unfold cutF
    rw [if_pos (by omega), bt_extract s n (n + 64) j (by omega) (by omega)]
    norm_cast)
  have EZ : (s.extract n (n + 64)).size = 64 := by rw [ByteArray.size_extract]; omega
  have HZ := Aside0.mk EZ
  clear EZ
  go_enter Try.func19, Try.ntmps19
  go_wp2_with (first
    | ((with_reducible refine gate_dst (N := 6) rfl ?_); refine ev_alloc HB rfl (blkA fun _ => 0) 26 ?hr ?_; (case hr => (rw [← blkA_zero]; go_simp; rfl)); intro g0 w1 G_g0 GE_g0 B_g0 HBn K_g0; clear HB; have HB := HBn; clear HBn)
    | ((with_reducible refine gate_dst (N := 30) rfl ?_); refine ev_bytes HB rfl 9 50 _ rfl _ 64 HZ.out rfl Try.underlying9 Try.underlying50 Try.underlying5 ?_; intro g2 cap w2 G_g2 HBn K_g2 C2; clear HB; have HB := HBn; clear HBn)
    | ((with_reducible refine gate_dst (N := 31) rfl ?_); refine ev_arrayAt rfl 26 _ rfl ⟨g2, 0, none⟩ 64 cap 64 5 rfl Try.underlying26 (Nat.le_refl _) ?_)
    | ((with_reducible refine gate_dst (N := 32) rfl ?_); refine ev_load_mid rfl 26 _ rfl g2 0 rfl (blkA (cutF s n pad)) (fun j hj => by rw [blkA_size] at hj; rw [Nat.zero_add, C2.out j hj, blkA_get _ hj, EX.out j hj]) Try.underlying26 (size64' _) ?_; have B2 := B_g0.below K_g2.out)
    | ((with_reducible refine gate_ (Op.store 26 (.tmp 6) (.tmp 32)) rfl ?_); refine ev_store HB B2 GE_g0 rfl 26 _ _ rfl rfl rfl (size64' _) (by rw [blkA_size, blkA_size]) (blkA_one _) ?_; intro w3 B3 HBn K_w3; clear HB; have HB := HBn; clear HBn))
  refine bodyPost_ret (results_row_tmp rfl _ _ g0 26 _ _ rfl B3 Try.underlying26 rfl (size64' _)) rfl ?_
  exact ⟨rfl, HB.out⟩
open Go.Proofs.YtoimelcdhkmceaaQ Go.Proofs.YtoimelcdhkmceaaM in
set_option maxHeartbeats 4000000 in
set_option maxRecDepth 100000 in
theorem block_Cut.calls_part (s : ByteArray) (at_ pad : Int) (w : World) (hs : s.size ≤ 281474976702464) (h0 : 0 ≤ at_) (h1 : at_ < s.size) (h2 : s.size < at_ + 64) :
    Calls Try.prog 19 #[.string s, .int .i64 at_, .int .u8 pad] w fun e w' => e = .returned (.tuple #[.agg (blkA (cutF s at_ pad)), .int .i64 (s.size - at_)]) ∧ Below w.heap.size w w' := by
  obtain ⟨n, rfl⟩ : ∃ n : Nat, at_ = n := ⟨at_.toNat, by omega⟩
  have HB := BelowH.refl w
  have d1 : ¬ ((n : Int) < 0) := by omega
  have d2 : ¬ ((s.size : Int) ≤ n) := by omega
  have d3 : ¬ ((64 : Int) ≤ (s.size : Int) - n) := by omega
  have d4 : (n : Int) ≤ s.size := by omega
  have d5 : n ≤ s.size := by omega
  go_enter Try.func19, Try.ntmps19
  go_wp2_with (first
    | ((with_reducible refine gate_dst (N := 6) rfl ?_); refine ev_alloc HB rfl (blkA fun _ => 0) 26 ?hr ?_; (case hr => (rw [← blkA_zero]; go_simp; rfl)); intro g0 w1 G_g0 GE_g0 B_g0 HBn K_g0; clear HB; have HB := HBn; clear HBn)
    | (go_at_call 45; refine (block_filled.calls pad _).mono ?_; rintro e w2 ⟨rfl, hb2⟩; have B2 := B_g0.below hb2; have HB2 := HB.step hb2; clear HB; have HB := HB2; clear HB2 hb2)
    | ((with_reducible refine gate_dst (N := 8) rfl ?_); refine ev_alloc HB rfl (blkA fun _ => 0) 26 ?hr ?_; (case hr => (rw [← blkA_zero]; go_simp; rfl)); intro g8 w3 G_g8 GE_g8 B_g8 HBn K_g8; clear HB; have HB := HBn; clear HBn)
    | ((with_reducible refine gate_ (Op.store 26 (.tmp 8) (.tmp 34)) rfl ?_); refine ev_store HB B_g8 GE_g8 rfl 26 _ _ rfl rfl rfl (size64' _) (by rw [blkA_size, blkA_size]) (blkA_one _) ?_; intro w4 B8 HBn K_w4; clear HB; have HB := HBn; clear HBn))
  have NE := Aside0.mk (show g0 ≠ g8 by have := B2.lt; have := G_g8.out; omega)
  go_still_tail 4, (by kernel_rfl)
  change wpList _ _ _ _ _ w4.drew
  have B8' := B8.drew
  have HB' := HB.drew
  have B0 := (((B2.below K_g8.out).other K_w4 NE.out).drew)
  have EZ := Aside0.mk (show (s.extract n s.size).size = s.size - n by rw [ByteArray.size_extract]; omega)
  clear HB
  go_wp2_with (first
    | ((with_reducible refine gate_dst (N := 39) rfl ?_); refine ev_copy64 HB' B8' GE_g8 rfl _ _ 50 9 5 rfl _ (s.size - n) EZ.out (by omega) rfl rfl Try.underlying50 (by kernel_rfl) ?_; intro w5 B9 HB K_w5)
    | ((with_reducible refine gate_dst (N := 40) rfl ?_); refine ev_load B9 rfl 26 _ rfl rfl Try.underlying26 (size64' _) ?_)
    | ((with_reducible refine gate_ (Op.store 26 (.tmp 6) (.tmp 40)) rfl ?_); have B1 := B0.other K_w5 NE.out; refine ev_store HB B1 GE_g0 rfl 26 _ _ rfl rfl rfl (size64' _) (by rw [blkA_size, blkA_size]) (blkA_one _) ?_; intro w6 B6 HBn K_w6; clear HB; have HB := HBn; clear HBn))
  have E : (blkA fun j => if j < s.size - n then bt (s.extract n s.size) (j : Int) else pad) = blkA (cutF s n pad) := blkA_congr fun j hj => by
    unfold cutF
    by_cases h : j < s.size - n
    · rw [if_pos h, if_pos (by omega), bt_extract s n s.size j (by omega) (by omega)]
      norm_cast
    · rw [if_neg h, if_neg (by omega)]
  refine bodyPost_ret (results_row_tmp rfl _ _ g0 26 _ _ rfl B6 Try.underlying26 rfl (size64' _)) rfl ?_
  refine ⟨?_, HB.out⟩
  rw [E, show (s.size : Int) - n = ((s.size - n : Nat) : Int) by omega]
  rfl
open Go.Proofs.YtoimelcdhkmceaaQ Go.Proofs.YtoimelcdhkmceaaM in
theorem block_Cut.calls (s : ByteArray) (at_ pad : Int) (w : World) (hs : s.size ≤ 281474976702464) :
    Calls Try.prog 19 #[.string s, .int .i64 at_, .int .u8 pad] w fun e w' => e = .returned (.tuple #[.agg (blkA (cutF s at_ pad)), .int .i64 (cutN s at_)]) ∧ Below w.heap.size w w' := by
  unfold cutN
  by_cases h : at_ < 0 ∨ (s.size : Int) ≤ at_
  · rw [if_pos h]
    exact block_Cut.calls_out s at_ pad w h
  · rw [if_neg h]
    by_cases h2 : 64 ≤ (s.size : Int) - at_
    · rw [if_pos h2]
      exact block_Cut.calls_full s at_ pad w hs (by omega) (by omega)
    · rw [if_neg h2]
      exact block_Cut.calls_part s at_ pad w hs (by omega) (by omega) (by omega)


/-! ### block_Blocks: function 31 -/
open Go.Proofs.YtoimelcdhkmceaaQ Go.Proofs.YtoimelcdhkmceaaM in
set_option maxHeartbeats 4000000 in
set_option maxRecDepth 100000 in
theorem block_Blocks.calls (s : ByteArray) (pad : Int) (w : World) :
    Calls Try.prog 31 #[.string s, .int .u8 pad] w fun e w' => ∃ g1 g2 : Nat, e = .returned (.func (.func 47) #[] #[.pointer (some ⟨g1, 0, none⟩), .pointer (some ⟨g2, 0, none⟩)]) ∧
      w.heap.size ≤ g1 ∧ w.heap.size ≤ g2 ∧ Blk w' g1 #[.string s] 9 ∧ Blk w' g2 #[.int .u8 pad] 5 ∧ BelowH w w' := by
  have HB := BelowH.refl w
  go_enter Try.func31, Try.ntmps31
  go_wp2_with (first | ((with_reducible refine gate_dst (N := 2) rfl ?_); refine ev_alloc HB rfl (#[.string s]) 9 ?hr ?_; (case hr => first | (go_simp; done) | (go_simp; rfl)); intro g1 w1 G_g1 GE_g1 B_g1 HBn K_g1; clear HB; have HB := HBn; clear HBn) | ((with_reducible refine gate_dst (N := 3) rfl ?_); refine ev_alloc HB rfl (#[.int .u8 pad]) 5 ?hr ?_; (case hr => first | (go_simp; done) | (go_simp; rfl)); intro g2 w2 G_g2 GE_g2 B_g2 HBn K_g2; clear HB; have HB := HBn; clear HBn))
  go_ret
  exact ⟨g1, g2, rfl, GE_g1.out, GE_g2.out, B_g1.below K_g2.out, B_g2, HB⟩


/-! ### block_Of: function 21 -/
open Go.Proofs.YtoimelcdhkmceaaQ Go.Proofs.YtoimelcdhkmceaaM in
set_option maxHeartbeats 400000 in
set_option maxRecDepth 100000 in
theorem block_Of.calls (s : ByteArray) (w : World) (hs : s.size ≤ 281474976702464) :
    Calls Try.prog 21 #[.string s] w fun e w' => e = .returned (.agg (clsA (inT s s.size))) ∧ Below w.heap.size w w' := by
  have HB := BelowH.refl w
  have HS := Aside0.mk hs
  clear hs
  go_enter Try.func21, Try.ntmps21
  go_wp2_with (first
    | ((with_reducible refine gate_dst (N := 2) rfl ?_); refine ev_alloc HB rfl (clsA fun _ => false) 33 ?hr ?_; (case hr => rw [← clsA_zero]; go_simp; rfl); intro g0 w1 G_g0 GE_g0 B_g0 HBn K_g0; clear HB; have HB := HBn; clear HBn)
    | ((with_reducible refine gate_dst (N := 3) rfl ?_); refine ev_alloc HB rfl (clsA fun _ => false) 33 ?hr ?_; (case hr => rw [← clsA_zero]; go_simp; rfl); intro g1 w2 G_g1 GE_g1 B_g1 HBn K_g1; clear HB; have HB := HBn; clear HBn))
  have N01 := Aside0.mk (show g0 < g1 by have := B_g0.lt; have := G_g1.out; omega)
  go_loopw [7] (fun v7 wr => ∃ i : Nat, i ≤ s.size ∧ v7 = .int .i64 i ∧ Blk wr g0 (clsA fun _ => false) 33 ∧ Blk wr g1 (clsA (inT s i)) 33 ∧ BelowH w wr) (fun v7 _ => s.size - (intOf v7).toNat)
  case atStart => exact ⟨0, by omega, rfl, B_g0.below K_g1.out, B_g1, HB⟩
  case round =>
    clear B_g0 B_g1 HB
    obtain ⟨i, hi, rfl, B0, B1, HB⟩ := hrel
    by_cases hlt : i < s.size
    · have KI := Aside0.mk hlt
      have hlt' : decide ((i : Int) < (s.size : Int)) = true := decide_eq_true (by omega)
      go_upto_region 5 with (fail)
      obtain ⟨k, hk⟩ : ∃ k : Nat, k = (s[i]'hlt).toNat / 64 := ⟨_, rfl⟩
      obtain ⟨m, hm⟩ : ∃ m : Nat, m = (s[i]'hlt).toNat % 64 := ⟨_, rfl⟩
      have hx : (s[i]'hlt).toNat < 256 := UInt8.toNat_lt _
      have hk1 : (((s[i]'hlt).toNat : Nat) : Int) / 64 = (k : Int) := by omega
      have hk4 : (k : Int) < 4 := by omega
      have hm1 : bits .and .u8 (((s[i]'hlt).toNat : Nat) : Int) 63 = (m : Int) := by rw [bits_and_u8_63 _ hx, hm]
      have hm4 : (m : Int) < 64 := by omega
      have hc := B1.cell (clsA_get _ (show k < 4 by omega))
      have HK := Aside0.mk hk
      have HM := Aside0.mk hm
      clear hk hm hx
      go_still_tail 14, (by kernel_rfl)
      change wpList _ _ _ _ _ wr.drew
      have B1' := B1.drew
      have B0' := B0.drew
      have HB' := HB.drew
      have HV := Aside0.mk (cls_or (p := inT s i) (q := inT s (i + 1)) (k := k) (m := m) (by omega) (inT_step hlt HK.out HM.out))
      clear HB B0 B1 hc hk1 hm1
      go_wp2_with (first
        | ((with_reducible refine gate_ (Op.store 30 (.tmp 24) (.tmp 22)) rfl ?_); refine ev_store1 (i := k) HB' B1' GE_g1 rfl 30 _ _ rfl rfl (.int .u64 (bits .or .u64 (iv (clsW (inT s i) k)) (IntKind.u64.wrap (2 ^ m)))) rfl (by rw [clsA_size]; omega) (by kernel_rfl) rfl ?_; intro w5 B5 HB5 K5))
      go_roundw
      case rel =>
        refine ⟨i + 1, by omega, by rw [w64_up KI.out HS.out], B0'.other K5 (Nat.ne_of_lt N01.out), ?_, HB5⟩
        rw [HV.out, clsA_set (q := inT s (i + 1)) (by omega) rfl (fun x _ hx => (inT_else hlt HK.out hx).symm)] at B5
        exact B5
      case measure =>
        rw [w64_up KI.out HS.out]
        simp [intOf]
        have := KI.out
        omega
    · obtain rfl : i = s.size := by omega
      go_wp2_with (first
        | ((with_reducible refine gate_dst (N := 26) rfl ?_); (try (refine gate_guard (by rfl) ?_; dsimp only)); refine ev_loadS B1 rfl 33 _ rfl rfl Try.underlying33 rfl (sizeC' _) ?_)
        | ((with_reducible refine gate_ (Op.store 33 (.tmp 2) (.tmp 26)) rfl ?_); refine ev_store HB B0 GE_g0 rfl 33 _ _ rfl rfl rfl (sizeC' _) (by rw [clsA_size, clsA_size]) (clsA_one _) ?_; intro w6 B6 HBn K_w6; clear HB; have HB := HBn; clear HBn))
      refine bodyPost_ret (results_cell_row rfl _ _ g0 33 _ (0, 0) _ rfl B6.out Try.underlying33 rfl (sizeC' _)) rfl ?_
      exact ⟨rfl, HB.out⟩


/-! ### block_Mask: function 33 -/
open Go.Proofs.YtoimelcdhkmceaaQ Go.Proofs.YtoimelcdhkmceaaM in
set_option maxHeartbeats 400000 in
set_option maxRecDepth 100000 in
theorem block_Mask.calls (f : Nat → Int) (hf : ∀ i, 0 ≤ f i ∧ f i < 256) (p : Nat → Bool) (w : World) :
    Calls Try.prog 33 #[.agg (blkA f), .agg (clsA p)] w fun e w' => e = .returned (.int .u64 (iv (word fun j => p (f j).toNat))) ∧ Below w.heap.size w w' := by
  have HB := BelowH.refl w
  have HF := Aside0.mk fun i => hf i
  clear hf
  go_enter Try.func33, Try.ntmps33
  go_upto_region 1 with (first
    | ((with_reducible refine gate_dst (N := 2) rfl ?_); refine ev_alloc HB rfl (blkA f) 26 ?hr ?_; (case hr => first | (go_simp; done) | (go_simp; rfl)); intro g0 w1 G_g0 GE_g0 B_g0 HBn K_g0; clear HB; have HB := HBn; clear HBn)
    | ((with_reducible refine gate_dst (N := 3) rfl ?_); refine ev_alloc HB rfl (clsA (p)) 33 ?hr ?_; (case hr => first | (go_simp; done) | (go_simp; rfl)); intro g1 w2 G_g1 GE_g1 B_g1 HBn K_g1; clear HB; have HB := HBn; clear HBn))
  obtain ⟨bz, hbz⟩ : ∃ bz, bz = ((List.range 4).all fun j => iv (clsW p j) == 0) := ⟨_, rfl⟩
  have EQ : ∀ (W : World), (Op.equalIn 10000 31 (.agg (clsA p)) (.agg #[.int .u64 0, .int .u64 0, .int .u64 0, .int .u64 0])).run Try.prog W = .ok bz W := by
    intro W
    rw [hbz]
    exact run_eqArr (P := Try.prog) Try.underlying31 (by kernel_rfl) (by kernel_rfl) Try.underlying30 (fun j => iv (clsW p j)) (fun _ => 0) (fun j hj => clsA_get _ hj) (fun j hj => by
      have : ∀ j : Fin 4, (#[.int .u64 0, .int .u64 0, .int .u64 0, .int .u64 0] : Array Value)[j.val]? = some (.int .u64 0) := by
        intro j
        match j with
        | 0 => rfl
        | 1 => rfl
        | 2 => rfl
        | 3 => rfl
      exact this ⟨j, hj⟩) 9998 W
  cases bz with
  | true =>
    have HN := Aside0.mk (cls_none hbz.symm)
    clear hbz
    go_wp2_with (first
      | ((with_reducible refine gate_dst (N := 9) rfl ?_); refine ev_loadS B_g1 rfl 31 _ rfl rfl Try.underlying31 rfl (size4' _) ?_))
    go_ret
    exact ⟨by rw [word_none fun i _ => HN.out _ (by have := HF.out i; omega)]; rfl, HB.out⟩
  | false =>
    clear hbz
    go_upto_region 3 with (first
      | ((with_reducible refine gate_dst (N := 9) rfl ?_); refine ev_loadS B_g1 rfl 31 _ rfl rfl Try.underlying31 rfl (size4' _) ?_))
    clear EQ
    go_wp2_with (first
      | ((with_reducible refine gate_dst (N := 12) rfl ?_); refine ev_loadS (B_g0.below K_g1.out) rfl 26 _ rfl rfl Try.underlying26 rfl (size64' _) ?_))
    go_loopw [5, 13] (fun v5 v13 wr => ∃ i : Nat, i ≤ 64 ∧ v13 = .int .i64 i ∧ v5 = .int .u64 (iv (word fun j => decide (j < i) && p (f j).toNat)) ∧ Blk wr g1 (clsA p) 33 ∧ BelowH w wr) (fun _ v13 _ => 64 - (intOf v13).toNat)
    case atStart => exact ⟨0, by omega, rfl, by rw [word_none]; simp, B_g1, HB⟩
    case round =>
      clear B_g0 B_g1 HB
      obtain ⟨i, hi, rfl, rfl, B1, HB⟩ := hrel
      by_cases hlt : i < 64
      · obtain ⟨x, hx⟩ : ∃ x : Nat, f i = (x : Int) := ⟨(f i).toNat, by have := HF.out i; omega⟩
        have hx6 : x < 256 := by have := HF.out i; omega
        obtain ⟨k, hk⟩ : ∃ k : Nat, k = x / 64 := ⟨_, rfl⟩
        obtain ⟨m, hm⟩ : ∃ m : Nat, m = x % 64 := ⟨_, rfl⟩
        have hk1 : (x : Int) / 64 = (k : Int) := by omega
        have hk4 : (k : Int) < 4 := by omega
        have hm1 : bits .and .u8 (x : Int) 63 = (m : Int) := by rw [bits_and_u8_63 _ hx6, hm]
        have hm4 : (m : Int) < 64 := by omega
        have hc := B1.cell (clsA_get p (show k < 4 by omega))
        have hfi := blkA_get f hlt
        rw [hx] at hfi
        have IX : ∀ W : World, (Instr.index 26 (.agg (blkA f)) (.int .i64 (i : Int))).run Try.prog W = .ok (.int .u8 (x : Int)) W := fun W => run_index_arr (P := Try.prog) Try.underlying26 (by kernel_rfl) (by kernel_rfl) (by kernel_rfl) hlt hfi .i64 W
        have ST := Aside0.mk (mask_step_at p f hx hk hm hlt)
        have KI := Aside0.mk hlt
        have h1 : (i : Int) < 64 := by omega
        clear hx hx6 hk hm hlt hfi hi
        go_wp2
        go_roundw
        case rel => exact ⟨i + 1, by have := KI.out; omega, by go_num, by rw [ST.out], B1, HB⟩
        case measure =>
          simp [intOf]
          have := KI.out
          omega
      · obtain rfl : i = 64 := by omega
        go_wp2
        go_ret
        exact ⟨by rw [word_done]; rfl, HB.out⟩


/-! ### lanes_Load: function 48 -/
open Go.Proofs.YtoimelcdhkmceaaQ Go.Proofs.YtoimelcdhkmceaaM in
set_option maxHeartbeats 4000000 in
set_option maxRecDepth 100000 in
theorem lanes_Load.calls (f : Nat → Int) (hf : ∀ i, 0 ≤ f i ∧ f i < 256) (w : World) :
    Calls Try.prog 48 #[.agg (arrA 8 f)] w fun e w' => e = .returned (.int .u64 (loadN f 8 : Nat)) ∧ Below w.heap.size w w' := by
  have HB := BelowH.refl w
  have HF := Aside0.mk fun i => hf i
  clear hf
  go_enter Try.func48, Try.ntmps48
  go_wp2_with (first
    | ((with_reducible refine gate_dst (N := 1) rfl ?_); refine ev_alloc HB rfl (arrA 8 f) 71 ?hr ?_; (case hr => first | (go_simp; done) | (go_simp; rfl)); intro g1 w1 G_g1 GE_g1 B_g1 HBn K_g1; clear HB; have HB := HBn; clear HBn))
  go_loopw [3, 6] (fun v3 v6 wr => ∃ i : Nat, i ≤ 8 ∧ v6 = .int .i64 i ∧ v3 = .int .u64 (loadN f i : Nat) ∧ Blk wr g1 (arrA 8 f) 71 ∧ BelowH w wr) (fun _ v6 _ => 8 - (intOf v6).toNat)
  case atStart => exact ⟨0, by omega, rfl, rfl, B_g1, HB⟩
  case round =>
    clear B_g1 HB
    obtain ⟨i, hi, rfl, rfl, B1, HB⟩ := hrel
    by_cases hlt : i < 8
    · have hc := B1.cell (arrA_get 8 f hlt)
      have h1 : (i : Int) < 8 := by omega
      go_wp2
      go_quiet (fail)
      go_wp2
      go_roundw
      case rel =>
        refine ⟨i + 1, by omega, by go_num, ?_, B1.drewN _, HB.drewN _⟩
        rw [load_step f HF.out hlt]
      case measure => simp [intOf]; omega
    · go_wp2
      go_ret
      obtain rfl : i = 8 := by omega
      exact ⟨rfl, HB.out⟩


/-! ### lanes_Fill: function 55 -/
def lanes_Fill.f (a0 : Int) : Option (Int) := some (IntKind.u64.wrap (72340172838076673 * (IntKind.u64.wrap (a0))))
set_option maxHeartbeats 8000000 in
set_option maxRecDepth 100000 in
theorem lanes_Fill.calls (a0 : Int) (r : Int) (w : World) (h : lanes_Fill.f a0 = some r) :
    Calls Try.prog 55 #[.int .u8 a0] w fun e w' => e = .returned (.int .u64 r) ∧ Drawn0 w w' := by
  have H : (some (IntKind.u64.wrap (72340172838076673 * (IntKind.u64.wrap (a0))))) = some r := h
  clear h
  obtain rfl := Option.some.inj H
  go_enter Try.func55, Try.ntmps55
  go_wp2
  go_ret
  exact ⟨by first | rfl | (simp; done) | (simp [*]; done), by repeat (first | exact Drawn0.refl _ | apply Drawn0.step)⟩

/-! ### lanes_tops: function 56 -/
def lanes_tops.f (a0 : Int) : Option (Int) := some (((IntKind.u64.wrap (((Go.bits .and .u64 a0 9259542123273814144) / 128) * 72624976668147840)) / 72057594037927936) % 256)
set_option maxHeartbeats 8000000 in
set_option maxRecDepth 100000 in
theorem lanes_tops.calls (a0 : Int) (r : Int) (w : World) (h : lanes_tops.f a0 = some r) :
    Calls Try.prog 56 #[.int .u64 a0] w fun e w' => e = .returned (.int .u8 r) ∧ Drawn0 w w' := by
  have H : (some (((IntKind.u64.wrap (((Go.bits .and .u64 a0 9259542123273814144) / 128) * 72624976668147840)) / 72057594037927936) % 256)) = some r := h
  clear h
  obtain rfl := Option.some.inj H
  go_enter Try.func56, Try.ntmps56
  go_wp2
  go_ret
  exact ⟨by first | rfl | (simp; done) | (simp [*]; done), by repeat (first | exact Drawn0.refl _ | apply Drawn0.step)⟩

/-! ### lanes_Equal: function 49 -/
open Go.Proofs.YtoimelcdhkmceaaQ Go.Proofs.YtoimelcdhkmceaaM in
set_option maxHeartbeats 4000000 in
set_option maxRecDepth 100000 in
theorem lanes_Equal.calls (f : Nat → Int) (hf : ∀ i, 0 ≤ f i ∧ f i < 256) (c : Int) (h0 : 0 ≤ c) (h1 : c < 256) (w : World) :
    Calls Try.prog 49 #[.int .u64 (loadN f 8 : Nat), .int .u8 c] w fun e w' => e = .returned (.int .u8 (wordN (fun j => decide (f j = c)) 8 : Nat)) ∧ Drawn0 w w' := by
  have E := Aside0.mk (equal_lanes f hf c h0 h1)
  clear hf h0 h1
  obtain ⟨x, hx⟩ : ∃ x : Int, x = ((loadN f 8 : Nat) : Int) := ⟨_, rfl⟩
  rw [← hx] at E ⊢
  clear hx
  go_enter Try.func49, Try.ntmps49
  go_wp2_with (first
    | (go_at_call 55; refine (lanes_Fill.calls c _ _ rfl).mono ?_; rintro e w' ⟨rfl, ⟨nd, rfl⟩⟩)
    | (go_at_call 56; refine (lanes_tops.calls _ _ _ rfl).mono ?_; rintro e w' ⟨rfl, ⟨nd2, rfl⟩⟩))
  go_ret
  refine ⟨?_, ?_⟩
  · rw [← E.out]; rfl
  · repeat (first | exact Drawn0.refl _ | apply Drawn0.step)


/-! ### block_Equal: function 34 -/
open Go.Proofs.YtoimelcdhkmceaaQ Go.Proofs.YtoimelcdhkmceaaM in
theorem size8' (f : Nat → Int) : (Try.prog.info? 71).map (·.size) = some (arrA 8 f).size := by
  rw [arrA_size]
  kernel_rfl
open Go.Proofs.YtoimelcdhkmceaaQ Go.Proofs.YtoimelcdhkmceaaM in
set_option maxHeartbeats 4000000 in
set_option maxRecDepth 100000 in
theorem block_Equal.calls (f : Nat → Int) (hf : ∀ i, 0 ≤ f i ∧ f i < 256) (c : Int) (h0 : 0 ≤ c) (h1 : c < 256) (w : World) :
    Calls Try.prog 34 #[.agg (blkA f), .int .u8 c] w fun e w' => e = .returned (.int .u64 (iv (word fun j => decide (f j = c)))) ∧ Below w.heap.size w w' := by
  have HB := BelowH.refl w
  have HF := Aside0.mk fun i => hf i
  have H0 := Aside0.mk h0
  have H1 := Aside0.mk h1
  clear hf h0 h1
  go_enter Try.func34, Try.ntmps34
  go_wp2_with (first | ((with_reducible refine gate_dst (N := 2) rfl ?_); refine ev_alloc HB rfl (blkA f) 26 ?hr ?_; (case hr => first | (go_simp; done) | (go_simp; rfl)); intro g1 w1 G_g1 GE_g1 B_g1 HBn K_g1; clear HB; have HB := HBn; clear HBn))
  go_loopw [5, 6] (fun v5 v6 wr => ∃ i : Nat, i ≤ 8 ∧ v6 = .int .i64 (8 * (i : Int)) ∧ v5 = .int .u64 (wordN (fun j => decide (f j = c)) (8 * i) : Nat) ∧ Blk wr g1 (blkA f) 26 ∧ BelowH w wr) (fun _ v6 _ => 64 - (intOf v6).toNat)
  case atStart => exact ⟨0, by omega, rfl, rfl, B_g1, HB⟩
  case round =>
    clear B_g1 HB
    obtain ⟨i, hi, rfl, rfl, B1, HB⟩ := hrel
    by_cases hlt : i < 8
    · have k1 : 8 * (i : Int) < 64 := by omega
      have KI := Aside0.mk hlt
      have K2 : Aside0 (∀ j, j < 8 → (blkA f)[8 * i + j]? = some (.int .u8 (f (8 * i + j)))) := ⟨fun j hj => blkA_get f (by omega)⟩
      have K3 : Aside0 (∀ j, 0 ≤ f (8 * i + j) ∧ f (8 * i + j) < 256) := ⟨fun j => HF.out _⟩
      go_wp2_with (first
        | ((with_reducible refine gate_dst (N := 15) rfl ?_); refine ev_sliceArr rfl 26 _ _ _ rfl g1 (8 * i) (8 * i + 8) 64 _ _ 5 rfl rfl rfl (by omega) (by omega) Try.underlying26 (by kernel_rfl) (by omega) (by omega) (by omega) ?_)
        | ((with_reducible refine gate_dst (N := 16) rfl ?_); refine ev_arrayAt rfl 71 _ rfl ⟨g1, 8 * i, none⟩ _ _ 8 5 rfl Try.underlying71 (by omega) ?_)
        | ((with_reducible refine gate_dst (N := 17) rfl ?_); refine ev_load_mid rfl 71 _ rfl g1 (8 * i) rfl (arrA 8 fun j => f (8 * i + j)) (fun j hj => by rw [arrA_size] at hj; rw [blk_cell B1.out, K2.out j hj, arrA_get 8 _ hj]) Try.underlying71 (size8' _) ?_)
        | (go_at_call 48; refine (lanes_Load.calls _ K3.out _).mono ?_; rintro e w2 ⟨rfl, hb2⟩; have B2 := B1.below hb2; have HB2 := HB.step hb2; clear hb2)
        | (go_at_call 49; refine (lanes_Equal.calls _ K3.out c H0.out H1.out _).mono ?_; rintro e w3 ⟨rfl, ⟨nd, rfl⟩⟩))
      go_roundw
      case rel =>
        refine ⟨i + 1, by omega, by simp; omega, ?_, B2.drewN _, HB2.drewN _⟩
        rw [← eight_step _ KI.out]
      case measure => simp [intOf]; omega
    · obtain rfl : i = 8 := by omega
      go_wp2
      go_ret
      exact ⟨by rw [iv_word]; rfl, HB.out⟩


/-! ### quarrylaw02_awake: function 37 -/
section
open Go.Proofs.YtoimelcdhkmceaaQ Go.Proofs.YtoimelcdhkmceaaM
set_option maxHeartbeats 1000000 in
set_option maxRecDepth 100000 in
theorem quarrylaw02_awake.calls (w : World) :
    Calls Try.prog 37 #[] w fun e w' => e = .returned (.bool true) ∧ Below w.heap.size w w' := by
  have HB := BelowH.refl w
  obtain ⟨f, hf⟩ : ∃ f, f = cutF (⟨#[97, 98]⟩ : ByteArray) 0 99 := ⟨_, rfl⟩
  have hr : ∀ i, 0 ≤ f i ∧ f i < 256 := fun i => by rw [hf]; exact cutF_range _ _ 99 (by decide) i
  obtain ⟨t1, ht1⟩ : ∃ t, t = inT (⟨#[97]⟩ : ByteArray) 1 := ⟨_, rfl⟩
  obtain ⟨t2, ht2⟩ : ∃ t, t = inT (⟨#[98, 99]⟩ : ByteArray) 2 := ⟨_, rfl⟩
  have C0 : Aside0 (∀ W, Calls Try.prog 19 #[.string (⟨#[97, 98]⟩ : ByteArray), .int .i64 0, .int .u8 99] W fun e w' => e = .returned (.tuple #[.agg (blkA f), .int .i64 2]) ∧ Below W.heap.size W w') := ⟨fun W => by
    have h := block_Cut.calls (⟨#[97, 98]⟩ : ByteArray) 0 99 W (by decide)
    rw [show cutN (⟨#[97, 98]⟩ : ByteArray) 0 = 2 by decide +kernel, ← hf] at h
    exact h⟩
  have C1 : Aside0 (∀ W, Calls Try.prog 21 #[.string (⟨#[97]⟩ : ByteArray)] W fun e w' => e = .returned (.agg (clsA t1)) ∧ Below W.heap.size W w') := ⟨fun W => ht1 ▸ block_Of.calls (⟨#[97]⟩ : ByteArray) W (by decide)⟩
  have C2 : Aside0 (∀ W, Calls Try.prog 21 #[.string (⟨#[98, 99]⟩ : ByteArray)] W fun e w' => e = .returned (.agg (clsA t2)) ∧ Below W.heap.size W w') := ⟨fun W => ht2 ▸ block_Of.calls (⟨#[98, 99]⟩ : ByteArray) W (by decide)⟩
  have M1 : Aside0 (∀ W, Calls Try.prog 33 #[.agg (blkA f), .agg (clsA t1)] W fun e w' => e = .returned (.int .u64 1) ∧ Below W.heap.size W w') := ⟨fun W => by
    have h := block_Mask.calls f hr t1 W
    rw [show iv (word fun j => t1 (f j).toNat) = 1 by rw [hf, ht1]; decide +kernel] at h
    exact h⟩
  have M2 : Aside0 (∀ W, Calls Try.prog 33 #[.agg (blkA f), .agg (clsA t2)] W fun e w' => e = .returned (.int .u64 18446744073709551614) ∧ Below W.heap.size W w') := ⟨fun W => by
    have h := block_Mask.calls f hr t2 W
    rw [show iv (word fun j => t2 (f j).toNat) = 18446744073709551614 by rw [hf, ht2]; decide +kernel] at h
    exact h⟩
  have E1 : Aside0 (∀ W, Calls Try.prog 34 #[.agg (blkA f), .int .u8 98] W fun e w' => e = .returned (.int .u64 2) ∧ Below W.heap.size W w') := ⟨fun W => by
    have h := block_Equal.calls f hr 98 (by decide) (by decide) W
    rw [show iv (word fun j => decide (f j = 98)) = 2 by rw [hf]; decide +kernel] at h
    exact h⟩
  clear hf hr ht1 ht2
  go_enter Try.func37, Try.ntmps37
  go_upto_region 2 with (first
    | (go_at_call 19; (with_reducible refine (C0.out _).mono ?_); rintro e w5 ⟨rfl, hb5⟩; have HBn := HB.step hb5; clear HB hb5; have HB := HBn; clear HBn)
    | ((with_reducible refine gate_dst (N := 1) rfl ?_); refine ev_alloc HB rfl (blkA fun _ => 0) 26 ?hr ?_; (case hr => (rw [← blkA_zero]; go_simp; rfl)); intro g1 w6 G_g1 GE_g1 B_g1 HBn K_g1; clear HB; have HB := HBn; clear HBn)
    | ((with_reducible refine gate_ (Op.store 26 (.tmp 1) (.tmp 5)) rfl ?_); refine ev_store HB B_g1 GE_g1 rfl 26 _ _ rfl rfl rfl (size64' _) (by rw [blkA_size, blkA_size]) (blkA_one _) ?_; intro w7 s1 HBn K_w7; clear HB; have HB := HBn; clear HBn))
  clear B_g1 K_g1 G_g1 GE_g1 K_w7
  try simp only [Act.put, List.setIfInBounds_toArray, List.set_cons_zero, List.set_cons_succ]
  refine wp_region_noPanic ?_
  refine wp_region_held_drew (S := fun W => Blk W g1 (blkA f) 26 ∧ BelowH w W) (by kernel_rfl) ⟨s1.drew, HB.drew⟩ (fun hS => ?_)
  clear s1 HB
  refine' wpAnyH_take (i := 0) (oi := Oper.mk _ _ _ _ _ _) rfl (by kernel_rfl) (by kernel_rfl) (by kernel_rfl) (fun _ _ _ h => h) (Or.inl ⟨by rfl, ?hy1⟩) hS ?rest1
  case hy1 => (intro w hSw; (try dsimp only at hSw); first | (go_simp; done) | (go_simp; with_reducible rfl))
  try simp only [Act.put, List.setIfInBounds_toArray, List.set_cons_zero, List.set_cons_succ]
  refine' wpAnyH_take (i := 1) (oi := Oper.mk _ _ _ _ _ _) rfl (by kernel_rfl) (by kernel_rfl) (by kernel_rfl) (fun _ _ _ h => h) (Or.inl ⟨by rfl, ?hy2⟩) hS ?rest2
  case hy2 => (intro w hSw; (try dsimp only at hSw); first | (go_simp; done) | (go_simp; with_reducible rfl))
  try simp only [Act.put, List.setIfInBounds_toArray, List.set_cons_zero, List.set_cons_succ]
  refine' wpAnyH_take (i := 2) (oi := Oper.mk _ _ _ _ _ _) rfl (by kernel_rfl) (by kernel_rfl) (by kernel_rfl) (fun _ _ _ h => h) (Or.inl ⟨by rfl, ?hy3⟩) hS ?rest3
  case hy3 => (intro w hSw; (try dsimp only at hSw); first | (go_simp; done) | (go_simp; with_reducible rfl))
  try simp only [Act.put, List.setIfInBounds_toArray, List.set_cons_zero, List.set_cons_succ]
  refine wpAnyH_take (i := 3) (oi := Oper.mk _ _ _ _ _ _) rfl (by kernel_rfl) (by kernel_rfl) (by kernel_rfl) (fun _ _ _ h => h) (rg_load (by rfl) (fun _ hS => hS.1) 26 _ rfl rfl Try.underlying26 rfl (size64' _)) hS ?_
  try simp only [Act.put, List.setIfInBounds_toArray, List.set_cons_zero, List.set_cons_succ]
  refine wpAnyH_ready (rs := [4]) (by kernel_rfl) (by simp) ?_
  refine AllReadyH.cons (o := Oper.mk _ _ _ _ _ _) rfl (fun K hK => ?_) ?_
  · obtain ⟨s1, HB⟩ := hS
    refine rg_call (by rfl) _ _ (.agg (clsA t1)) (by first | (go_simp; done) | (go_simp; rfl)) (C1.out _) ?_
    intro W' hb
    refine hK.out _ _ ⟨s1.below hb.out, HB.step hb.out⟩ (fun hS => ?_)
    clear hK K hb s1 HB
    try simp only [Act.put, List.setIfInBounds_toArray, List.set_cons_zero, List.set_cons_succ]
    refine wpAnyH_ready (rs := [5]) (by kernel_rfl) (by simp) ?_
    refine AllReadyH.cons (o := Oper.mk _ _ _ _ _ _) rfl (fun K hK => ?_) ?_
    · obtain ⟨s1, HB⟩ := hS
      refine rg_call (by rfl) _ _ (.int .u64 1) (by first | (go_simp; done) | (go_simp; rfl)) (M1.out _) ?_
      intro W' hb
      refine hK.out _ _ ⟨s1.below hb.out, HB.step hb.out⟩ (fun hS => ?_)
      clear hK K hb s1 HB
      try simp only [Act.put, List.setIfInBounds_toArray, List.set_cons_zero, List.set_cons_succ]
      refine' wpAnyH_take (i := 6) (oi := Oper.mk _ _ _ _ _ _) rfl (by kernel_rfl) (by kernel_rfl) (by kernel_rfl) (fun _ _ _ h => h) (Or.inl ⟨by rfl, ?hy4⟩) hS ?rest4
      case hy4 => (intro w hSw; (try dsimp only at hSw); first | (go_simp; done) | (go_simp; with_reducible rfl))
      try simp only [Act.put, List.setIfInBounds_toArray, List.set_cons_zero, List.set_cons_succ]
      refine' wpAnyH_take (i := 7) (oi := Oper.mk _ _ _ _ _ _) rfl (by kernel_rfl) (by kernel_rfl) (by kernel_rfl) (fun _ _ _ h => h) (Or.inl ⟨by rfl, ?hy5⟩) hS ?rest5
      case hy5 => (intro w hSw; (try dsimp only at hSw); first | (go_simp; done) | (go_simp; with_reducible rfl))
      try simp only [Act.put, List.setIfInBounds_toArray, List.set_cons_zero, List.set_cons_succ]
      refine' wpAnyH_take (i := 8) (oi := Oper.mk _ _ _ _ _ _) rfl (by kernel_rfl) (by kernel_rfl) (by kernel_rfl) (fun _ _ _ h => h) (Or.inl ⟨by rfl, ?hy6⟩) hS ?rest6
      case hy6 => (intro w hSw; (try dsimp only at hSw); first | (go_simp; done) | (go_simp; with_reducible rfl))
      try simp only [Act.put, List.setIfInBounds_toArray, List.set_cons_zero, List.set_cons_succ]
      refine wpAnyH_take (i := 9) (oi := Oper.mk _ _ _ _ _ _) rfl (by kernel_rfl) (by kernel_rfl) (by kernel_rfl) (fun _ _ _ h => h) (rg_load (by rfl) (fun _ hS => hS.1) 26 _ rfl rfl Try.underlying26 rfl (size64' _)) hS ?_
      try simp only [Act.put, List.setIfInBounds_toArray, List.set_cons_zero, List.set_cons_succ]
      refine wpAnyH_ready (rs := [10]) (by kernel_rfl) (by simp) ?_
      refine AllReadyH.cons (o := Oper.mk _ _ _ _ _ _) rfl (fun K hK => ?_) ?_
      · obtain ⟨s1, HB⟩ := hS
        refine rg_call (by rfl) _ _ (.agg (clsA t2)) (by first | (go_simp; done) | (go_simp; rfl)) (C2.out _) ?_
        intro W' hb
        refine hK.out _ _ ⟨s1.below hb.out, HB.step hb.out⟩ (fun hS => ?_)
        clear hK K hb s1 HB
        try simp only [Act.put, List.setIfInBounds_toArray, List.set_cons_zero, List.set_cons_succ]
        refine wpAnyH_ready (rs := [11]) (by kernel_rfl) (by simp) ?_
        refine AllReadyH.cons (o := Oper.mk _ _ _ _ _ _) rfl (fun K hK => ?_) ?_
        · obtain ⟨s1, HB⟩ := hS
          refine rg_call (by rfl) _ _ (.int .u64 18446744073709551614) (by first | (go_simp; done) | (go_simp; rfl)) (M2.out _) ?_
          intro W' hb
          refine hK.out _ _ ⟨s1.below hb.out, HB.step hb.out⟩ (fun hS => ?_)
          clear hK K hb s1 HB
          try simp only [Act.put, List.setIfInBounds_toArray, List.set_cons_zero, List.set_cons_succ]
          refine' wpAnyH_take (i := 12) (oi := Oper.mk _ _ _ _ _ _) rfl (by kernel_rfl) (by kernel_rfl) (by kernel_rfl) (fun _ _ _ h => h) (Or.inl ⟨by rfl, ?hy7⟩) hS ?rest7
          case hy7 => (intro w hSw; (try dsimp only at hSw); first | (go_simp; done) | (go_simp; with_reducible rfl))
          try simp only [Act.put, List.setIfInBounds_toArray, List.set_cons_zero, List.set_cons_succ]
          refine' wpAnyH_take (i := 13) (oi := Oper.mk _ _ _ _ _ _) rfl (by kernel_rfl) (by kernel_rfl) (by kernel_rfl) (fun _ _ _ h => h) (Or.inl ⟨by rfl, ?hy8⟩) hS ?rest8
          case hy8 => (intro w hSw; (try dsimp only at hSw); first | (go_simp; done) | (go_simp; with_reducible rfl))
          try simp only [Act.put, List.setIfInBounds_toArray, List.set_cons_zero, List.set_cons_succ]
          refine' wpAnyH_take (i := 14) (oi := Oper.mk _ _ _ _ _ _) rfl (by kernel_rfl) (by kernel_rfl) (by kernel_rfl) (fun _ _ _ h => h) (Or.inl ⟨by rfl, ?hy9⟩) hS ?rest9
          case hy9 => (intro w hSw; (try dsimp only at hSw); first | (go_simp; done) | (go_simp; with_reducible rfl))
          try simp only [Act.put, List.setIfInBounds_toArray, List.set_cons_zero, List.set_cons_succ]
          refine wpAnyH_take (i := 15) (oi := Oper.mk _ _ _ _ _ _) rfl (by kernel_rfl) (by kernel_rfl) (by kernel_rfl) (fun _ _ _ h => h) (rg_load (by rfl) (fun _ hS => hS.1) 26 _ rfl rfl Try.underlying26 rfl (size64' _)) hS ?_
          try simp only [Act.put, List.setIfInBounds_toArray, List.set_cons_zero, List.set_cons_succ]
          refine wpAnyH_ready (rs := [16]) (by kernel_rfl) (by simp) ?_
          refine AllReadyH.cons (o := Oper.mk _ _ _ _ _ _) rfl (fun K hK => ?_) ?_
          · obtain ⟨s1, HB⟩ := hS
            refine rg_call (by rfl) _ _ (.int .u64 2) (by first | (go_simp; done) | (go_simp; rfl)) (E1.out _) ?_
            intro W' hb
            refine hK.out _ _ ⟨s1.below hb.out, HB.step hb.out⟩ (fun hS => ?_)
            clear hK K hb s1 HB
            try simp only [Act.put, List.setIfInBounds_toArray, List.set_cons_zero, List.set_cons_succ]
            refine' wpAnyH_take (i := 17) (oi := Oper.mk _ _ _ _ _ _) rfl (by kernel_rfl) (by kernel_rfl) (by kernel_rfl) (fun _ _ _ h => h) (Or.inl ⟨by rfl, ?hy10⟩) hS ?rest10
            case hy10 => (intro w hSw; (try dsimp only at hSw); first | (go_simp; done) | (go_simp; with_reducible rfl))
            try simp only [Act.put, List.setIfInBounds_toArray, List.set_cons_zero, List.set_cons_succ]
            refine' wpAnyH_take (i := 18) (oi := Oper.mk _ _ _ _ _ _) rfl (by kernel_rfl) (by kernel_rfl) (by kernel_rfl) (fun _ _ _ h => h) (Or.inl ⟨by rfl, ?hy11⟩) hS ?rest11
            case hy11 => (intro w hSw; (try dsimp only at hSw); first | (go_simp; done) | (go_simp; with_reducible rfl))
            try simp only [Act.put, List.setIfInBounds_toArray, List.set_cons_zero, List.set_cons_succ]
            refine' wpAnyH_take (i := 19) (oi := Oper.mk _ _ _ _ _ _) rfl (by kernel_rfl) (by kernel_rfl) (by kernel_rfl) (fun _ _ _ h => h) (Or.inl ⟨by rfl, ?hy12⟩) hS ?rest12
            case hy12 => (intro w hSw; (try dsimp only at hSw); first | (go_simp; done) | (go_simp; with_reducible rfl))
            try simp only [Act.put, List.setIfInBounds_toArray, List.set_cons_zero, List.set_cons_succ]
            refine wpAnyH_done (by kernel_rfl) ?_ _
            refine NoPanic.normal ?_
            obtain ⟨s1, HB⟩ := hS
            go_wp2
            go_ret
            exact ⟨rfl, HB.out⟩
          exact AllReadyH.nil
        exact AllReadyH.nil
      exact AllReadyH.nil
    exact AllReadyH.nil
  exact AllReadyH.nil
end


/-! ### block_Blocks_1: function 47 -/
section
open Go.Proofs.YtoimelcdhkmceaaQ Go.Proofs.YtoimelcdhkmceaaM Go.Shelf
attribute [local go_sem] Oper.semAt_some
/-- What Blocks tells of the k-th block. -/
def blkEnc (s : ByteArray) (pad : Int) (k : Nat) : Array Value := #[.int .i64 (64 * (k : Int)), .agg (blkA (cutF s (64 * (k : Int)) pad))]
set_option maxHeartbeats 4000000 in
set_option maxRecDepth 100000 in
theorem block_Blocks_1.walk (F : Fence) (HF : Aside0 (F = Fence.wide)) (n : Nat) (hn : 3 ≤ n) (l g1 g2 : Nat) (s : ByteArray) (pad : Int) (hs : s.size ≤ 281474976702464) (J Jx : List (Fin (nwords s.size)) → World → Prop) (W0 : World)
    (hJ : ∀ pre A B, J pre A → Below A.heap.size A B → J pre B)
    (hY : ∀ pre x W, J pre W → pre.length < nwords s.size → YieldAt F (n - 1) Try.prog l (blkEnc s pad x.val) W fun e W' =>
      (e = .returned (.bool true) ∧ J (pre ++ [x]) W' ∧ Keep2 g1 g2 W W') ∨ (e = .returned (.bool false) ∧ Jx (pre ++ [x]) W'))
    (B1 : Blk W0 g1 #[.string s] 9) (B2 : Blk W0 g2 #[.int .u8 pad] 5) (h0 : J [] W0) :
    CallsIn F n Try.prog 47 #[.func (.yield l) #[] #[], .pointer (some ⟨g1, 0, none⟩), .pointer (some ⟨g2, 0, none⟩)] W0 fun e W' => (∃ v, e = .returned v) ∧
      ((∃ ys, ys = List.finRange (nwords s.size) ∧ J ys W') ∨ (∃ pre, pre <+: List.finRange (nwords s.size) ∧ Jx pre W')) := by
  have HJ := Aside0.mk hJ
  have HY := Aside0.mk hY
  have HJ0 := Aside0.mk h0
  clear hJ hY h0
  have f0 := wide_fn HF 19
  have n1 : 1 ≤ n := by omega
  have n2 : 1 ≤ n - 1 := by omega
  have hro := wide_round HF
  refine callsIn_of_wp Try.func47 rfl (wide_fn HF _) ?_ (wide_round HF)
  simp only [Try.ntmps47, List.size_toArray, List.length_cons, List.length_nil, Nat.reduceAdd, Nat.reduceSub, Array.replicate_succ, Array.replicate_zero, List.push_toArray, List.append_toArray, List.nil_append, List.cons_append]
  gi_wp2
  gi_loopw [4] (fun v wr => ∃ k : Nat, v = .int .i64 (64 * (k : Int)) ∧ Aside0 (k ≤ nwords s.size) ∧ Aside0 (J ((List.finRange (nwords s.size)).take k) wr) ∧ Blk wr g1 #[.string s] 9 ∧ Blk wr g2 #[.int .u8 pad] 5) (fun v _ => 64 * nwords s.size - (intOf v).toNat)
  case atStart => exact ⟨0, rfl, ⟨Nat.zero_le _⟩, HJ0, B1, B2⟩
  case round =>
    clear B1 B2 HJ0
    obtain ⟨k, rfl, HK, HJk, B1, B2⟩ := hrel
    have c1 := B1.cell (i := 0) rfl
    have c2 := B2.cell (i := 0) rfl
    have HB := BelowH.refl wr
    by_cases hlt : 64 * (k : Int) < s.size
    · have K1 : Aside0 (64 * (k : Int) < s.size) := ⟨hlt⟩
      have KN : Aside0 (k < nwords s.size) := ⟨by unfold nwords; omega⟩
      have KT := Aside0.mk (finRange_take (nwords s.size) k KN.out)
      gi_wp2_with (first
        | (gi_at_call 19; refine (callsIn_of HF (block_Cut.calls s (64 * (k : Int)) pad _ hs)).mono ?_; rintro e w3 ⟨rfl, hb3⟩; have D1 := B1.below hb3; have D2 := B2.below hb3; have HB3 := HB.step hb3; clear hb3)
        | ((with_reducible refine gate_dstIn (N := 5) rfl ?_); refine ev_allocIn HB3 rfl rfl (blkA fun _ => 0) 26 ?hr ?_; (case hr => (rw [← blkA_zero]; go_simp; rfl)); intro g5 w4 G_g5 GE_g5 B_g5 HB4 K_g5 KO5; have E1 := D1.below K_g5.out; have E2 := D2.below K_g5.out)
        | ((with_reducible refine gate_In (Op.store 26 (.tmp 5) (.tmp 18)) rfl ?_); refine ev_storeIn HB4 B_g5 GE_g5 rfl 26 _ _ rfl rfl rfl (size64' _) (by rw [blkA_size, blkA_size]) (blkA_one _) ?_; intro w5 B5 HB5 K_w5 KO_w5; have N1 := Aside0.mk (show g1 ≠ g5 by have := D1.lt; have := G_g5.out; omega); have N2 := Aside0.mk (show g2 ≠ g5 by have := D2.lt; have := G_g5.out; omega); have F1 := E1.other K_w5 N1.out; have F2 := E2.other K_w5 N2.out)
        | ((with_reducible refine gate_dstIn (N := 22) rfl ?_); refine ev_loadIn B5 rfl 26 _ rfl rfl Try.underlying26 (size64' _) ?_; have HJ5 := Aside0.mk (HJ.out _ _ _ HJk.out HB5.out); obtain ⟨fn, tmps, assign, body, hy, hR⟩ := HY.out ((List.finRange (nwords s.size)).take k) ⟨k, KN.out⟩ _ HJ5.out (by rw [List.length_take, List.length_finRange]; have := KN.out; omega); have HR := Aside0.mk hR; clear hR; dsimp only [blkEnc] at hy))
      refine HR.out.mono ?_
      rintro e W6 (⟨rfl, hJ6, hk6⟩ | ⟨rfl, hJx6⟩)
      · have G1 : Blk W6 g1 #[.string s] 9 := ⟨hk6.1.trans F1.out⟩
        have G2 : Blk W6 g2 #[.int .u8 pad] 5 := ⟨hk6.2.1.trans F2.out⟩
        have HJ6 := Aside0.mk (show J ((List.finRange (nwords s.size)).take (k + 1)) W6 by rw [KT.out]; exact hJ6)
        clear hJ6 hk6
        gi_wp2
        go_roundw
        case rel => exact ⟨k + 1, by simp; omega, ⟨by unfold nwords; have := K1.out; omega⟩, HJ6, G1, G2⟩
        case measure => simp [intOf, nwords]; have := K1.out; omega
      · have HJ6 := Aside0.mk hJx6
        clear hJx6
        gi_wp2
        refine bodyPost_ret (results_none rfl _ _ _) rfl ?_
        refine ⟨⟨_, rfl⟩, .inr ⟨_, ?_, HJ6.out⟩⟩
        rw [← KT.out]
        exact List.take_prefix _ _
    · have EK : k = nwords s.size := by
        have h1 := HK.out
        unfold nwords at *
        omega
      have HE := Aside0.mk EK
      clear EK
      gi_wp2
      go_end0
      have h := HJk.out
      rw [HE.out, List.take_of_length_le (by rw [List.length_finRange]; exact Nat.le_refl _)] at h
      exact ⟨⟨_, rfl⟩, .inl h⟩
/-- What Blocks hands back tells the blocks, in order. -/
theorem block_Blocks_1.stops (F : Fence) (HF : Aside0 (F = Fence.wide)) (n : Nat) (hn : 3 ≤ n) (g1 g2 : Nat) (s : ByteArray) (pad : Int) (hs : s.size ≤ 281474976702464) (w : World)
    (B1 : Blk w g1 #[.string s] 9) (B2 : Blk w g2 #[.int .u8 pad] 5) :
    SeqStopsK F n Try.prog 47 #[.pointer (some ⟨g1, 0, none⟩), .pointer (some ⟨g2, 0, none⟩)] (fun x : Fin (nwords s.size) => blkEnc s pad x.val) (Keep2 g1 g2) (fun ys => ys = List.finRange (nwords s.size)) (fun pre => pre <+: List.finRange (nwords s.size)) (nwords s.size) w := by
  intro l J Jx W hW hJ _ hY h0
  exact block_Blocks_1.walk F HF n hn l g1 g2 s pad hs J Jx W
    (fun pre A B hA hb => hJ pre A B none hA ⟨hb.os, hb.tape, hb.output, hb.size, fun k hk _ => hb.block k hk⟩ (fun r e => by cases e))
    hY (B1.below hW) (B2.below hW) h0
end


end Go.Proofs.Ytoimelcdhkmceaa.PH
