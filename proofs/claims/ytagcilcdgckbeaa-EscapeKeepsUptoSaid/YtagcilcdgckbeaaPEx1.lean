-- Written by a program (myprint.py, over the kit's print) for this claim. Not trusted: Lean checks it.
import Derived.Test.YtagcilcdgckbeaaPEx0
namespace Go.Proofs.Ytagcilcdgckbeaa.PE
open Go.RowKit Go.Proofs.YtagcilcdgckbeaaW.PrintWords Go.Proofs.YtagcilcdgckbeaaW.PrintLast Go.Proofs.YtagcilcdgckbeaaW.PrintMore
attribute [local go_sem] max2_int min2_int max_two min_two max_three min_three max_four min_four   -- for this text's walks alone
set_option linter.unusedVariables false
set_option linter.unusedSimpArgs false

/-! ### block_filled: function 22 -/
open Go.Proofs.YtagcilcdgckbeaaQ Go.Proofs.YtagcilcdgckbeaaM in
set_option maxHeartbeats 4000000 in
set_option maxRecDepth 100000 in
theorem block_filled.calls (x : Int) (w : World) :
    Calls Try.prog 22 #[.int .u8 x] w fun e w' => e = .returned (.agg (blkA fun _ => x)) ∧ Below w.heap.size w w' := by
  have HB := BelowH.refl w
  go_enter Try.func22, Try.ntmps22
  go_wp2_with (first | ((with_reducible refine gate_dst (N := 2) rfl ?_); refine ev_alloc HB rfl (blkA fun _ => 0) 34 ?hr ?_; (case hr => (rw [← blkA_zero]; go_simp; rfl)); intro g0 w1 G_g0 GE_g0 B_g0 HBn K_g0; clear HB; have HB := HBn; clear HBn) | ((with_reducible refine gate_dst (N := 3) rfl ?_); refine ev_alloc HB rfl (blkA fun _ => 0) 34 ?hr ?_; (case hr => (rw [← blkA_zero]; go_simp; rfl)); intro g1 w2 G_g1 GE_g1 B_g1 HBn K_g1; clear HB; have HB := HBn; clear HBn))
  have B0 := B_g0.below K_g1.out
  have NE := Aside0.mk (show g0 ≠ g1 by have := B_g0.lt; have := G_g1.out; omega)
  go_loopw [5] (fun v wr => ∃ i : Nat, i ≤ 64 ∧ v = .int .i64 i ∧ Blk wr g1 (blkA fun j => if j < i then x else 0) 34 ∧ Blk wr g0 (blkA fun _ => 0) 34 ∧ BelowH w wr) (fun v _ => 64 - (intOf v).toNat)
  case atStart => exact ⟨0, by omega, rfl, by simpa using B_g1, B0, HB⟩
  case round =>
    clear B0 B_g1 B_g0 HB
    obtain ⟨i, hi, rfl, B1, B0, HB⟩ := hrel
    by_cases hlt : i < 64
    · have hc := B1.cell (blkA_get _ hlt)
      have hf := B1.frozen i
      go_wp2
      go_roundw
      case rel =>
        refine ⟨i + 1, by omega, by go_num, ?_, B0.far NE.out _ _, HB.set GE_g1.out _ _⟩
        exact (B1.set i (.int .u8 x)).eqA (blkA_set hlt (by simp) (fun j hj => by
          by_cases h : j < i
          · rw [if_pos h, if_pos (by omega)]
          · rw [if_neg h, if_neg (by omega)]))
      case measure => simp [intOf]; omega
    · have E : Blk wr g1 (blkA fun _ => x) 34 := B1.eqA (blkA_congr fun j hj => by rw [if_pos (by omega)])
      clear B1
      go_wp2_with (first | ((with_reducible refine gate_dst (N := 12) rfl ?_); refine ev_load E rfl 34 _ rfl rfl Try.underlying34 (size64' _) ?_) | ((with_reducible refine gate_ (Op.store 34 (.tmp 2) (.tmp 12)) rfl ?_); refine ev_store HB B0 GE_g0 rfl 34 _ _ rfl rfl rfl (size64' _) (by rw [blkA_size, blkA_size]) (blkA_one _) ?_; intro w3 B3 HBn K_w3; clear HB; have HB := HBn; clear HBn))
      refine bodyPost_ret (results_cell_row rfl _ _ g0 34 _ (0, 0) _ rfl B3.out Try.underlying34 rfl (size64' _)) rfl ?_
      exact ⟨rfl, HB.out⟩


/-! ### block_Cut: function 17 -/
open Go.Proofs.YtagcilcdgckbeaaQ Go.Proofs.YtagcilcdgckbeaaM in
set_option maxHeartbeats 4000000 in
set_option maxRecDepth 100000 in
theorem block_Cut.calls_out (s : ByteArray) (at_ pad : Int) (w : World) (h : at_ < 0 ∨ (s.size : Int) ≤ at_) :
    Calls Try.prog 17 #[.string s, .int .i64 at_, .int .u8 pad] w fun e w' => e = .returned (.tuple #[.agg (blkA (cutF s at_ pad)), .int .i64 0]) ∧ Below w.heap.size w w' := by
  have HB := BelowH.refl w
  have E : (blkA fun _ => pad) = blkA (cutF s at_ pad) := blkA_congr fun i _ => by unfold cutF; rw [if_neg (by omega)]
  have HE := Aside0.mk E
  clear E
  rcases h with h | h
  · go_enter Try.func17, Try.ntmps17
    go_wp2_with (first | ((with_reducible refine gate_dst (N := 6) rfl ?_); refine ev_alloc HB rfl (blkA fun _ => 0) 34 ?hr ?_; (case hr => (rw [← blkA_zero]; go_simp; rfl)); intro g0 w1 G_g0 GE_g0 B_g0 HBn K_g0; clear HB; have HB := HBn; clear HBn) | (go_at_call 22; refine (block_filled.calls pad _).mono ?_; rintro e w2 ⟨rfl, hb2⟩; have B2 := B_g0.below hb2; have HB2 := HB.step hb2; clear HB; have HB := HB2; clear HB2 hb2) | ((with_reducible refine gate_ (Op.store 34 (.tmp 6) (.tmp 19)) rfl ?_); refine ev_store HB B2 GE_g0 rfl 34 _ _ rfl rfl rfl (size64' _) (by rw [blkA_size, blkA_size]) (blkA_one _) ?_; intro w3 B3 HBn K_w3; clear HB; have HB := HBn; clear HBn))
    refine bodyPost_ret (results_row_tmp rfl _ _ g0 34 _ _ rfl B3 Try.underlying34 rfl (size64' _)) rfl ?_
    exact ⟨by rw [HE.out]; rfl, HB.out⟩
  · by_cases h0 : at_ < 0
    · omega
    go_enter Try.func17, Try.ntmps17
    go_wp2_with (first | ((with_reducible refine gate_dst (N := 6) rfl ?_); refine ev_alloc HB rfl (blkA fun _ => 0) 34 ?hr ?_; (case hr => (rw [← blkA_zero]; go_simp; rfl)); intro g0 w1 G_g0 GE_g0 B_g0 HBn K_g0; clear HB; have HB := HBn; clear HBn) | (go_at_call 22; refine (block_filled.calls pad _).mono ?_; rintro e w2 ⟨rfl, hb2⟩; have B2 := B_g0.below hb2; have HB2 := HB.step hb2; clear HB; have HB := HB2; clear HB2 hb2) | ((with_reducible refine gate_ (Op.store 34 (.tmp 6) (.tmp 19)) rfl ?_); refine ev_store HB B2 GE_g0 rfl 34 _ _ rfl rfl rfl (size64' _) (by rw [blkA_size, blkA_size]) (blkA_one _) ?_; intro w3 B3 HBn K_w3; clear HB; have HB := HBn; clear HBn))
    refine bodyPost_ret (results_row_tmp rfl _ _ g0 34 _ _ rfl B3 Try.underlying34 rfl (size64' _)) rfl ?_
    exact ⟨by rw [HE.out]; rfl, HB.out⟩
open Go.Proofs.YtagcilcdgckbeaaQ Go.Proofs.YtagcilcdgckbeaaM in
set_option maxHeartbeats 4000000 in
set_option maxRecDepth 100000 in
theorem block_Cut.calls_full (s : ByteArray) (at_ pad : Int) (w : World) (hs : s.size ≤ 281474976702464) (h0 : 0 ≤ at_) (h1 : at_ + 64 ≤ s.size) :
    Calls Try.prog 17 #[.string s, .int .i64 at_, .int .u8 pad] w fun e w' => e = .returned (.tuple #[.agg (blkA (cutF s at_ pad)), .int .i64 64]) ∧ Below w.heap.size w w' := by
  obtain ⟨n, rfl⟩ : ∃ n : Nat, at_ = n := ⟨at_.toNat, by omega⟩
  have HB := BelowH.refl w
  have d1 : ¬ ((n : Int) < 0) := by omega
  have d2 : ¬ ((s.size : Int) ≤ n) := by omega
  have d3 : (64 : Int) ≤ (s.size : Int) - n := by omega
  have H1 := Aside0.mk h1
  have EX := Aside0.mk (show ∀ j : Nat, j < 64 → bt (s.extract n (n + 64)) (j : Int) = cutF s n pad j by
    intro j hj
    unfold cutF
    rw [if_pos (by omega), bt_extract s n (n + 64) j (by omega) (by omega)]
    norm_cast)
  have EZ : (s.extract n (n + 64)).size = 64 := by rw [ByteArray.size_extract]; omega
  have HZ := Aside0.mk EZ
  clear EZ
  go_enter Try.func17, Try.ntmps17
  go_wp2_with (first
    | ((with_reducible refine gate_dst (N := 6) rfl ?_); refine ev_alloc HB rfl (blkA fun _ => 0) 34 ?hr ?_; (case hr => (rw [← blkA_zero]; go_simp; rfl)); intro g0 w1 G_g0 GE_g0 B_g0 HBn K_g0; clear HB; have HB := HBn; clear HBn)
    | ((with_reducible refine gate_dst (N := 30) rfl ?_); refine ev_bytes HB rfl 9 51 _ rfl _ 64 HZ.out rfl Try.underlying9 Try.underlying51 Try.underlying5 ?_; intro g2 cap w2 G_g2 HBn K_g2 C2; clear HB; have HB := HBn; clear HBn)
    | ((with_reducible refine gate_dst (N := 31) rfl ?_); refine ev_arrayAt rfl 34 _ rfl ⟨g2, 0, none⟩ 64 cap 64 5 rfl Try.underlying34 (Nat.le_refl _) ?_)
    | ((with_reducible refine gate_dst (N := 32) rfl ?_); refine ev_load_mid rfl 34 _ rfl g2 0 rfl (blkA (cutF s n pad)) (fun j hj => by rw [blkA_size] at hj; rw [Nat.zero_add, C2.out j hj, blkA_get _ hj, EX.out j hj]) Try.underlying34 (size64' _) ?_; have B2 := B_g0.below K_g2.out)
    | ((with_reducible refine gate_ (Op.store 34 (.tmp 6) (.tmp 32)) rfl ?_); refine ev_store HB B2 GE_g0 rfl 34 _ _ rfl rfl rfl (size64' _) (by rw [blkA_size, blkA_size]) (blkA_one _) ?_; intro w3 B3 HBn K_w3; clear HB; have HB := HBn; clear HBn))
  refine bodyPost_ret (results_row_tmp rfl _ _ g0 34 _ _ rfl B3 Try.underlying34 rfl (size64' _)) rfl ?_
  exact ⟨rfl, HB.out⟩
open Go.Proofs.YtagcilcdgckbeaaQ Go.Proofs.YtagcilcdgckbeaaM in
set_option maxHeartbeats 4000000 in
set_option maxRecDepth 100000 in
theorem block_Cut.calls_part (s : ByteArray) (at_ pad : Int) (w : World) (hs : s.size ≤ 281474976702464) (h0 : 0 ≤ at_) (h1 : at_ < s.size) (h2 : s.size < at_ + 64) :
    Calls Try.prog 17 #[.string s, .int .i64 at_, .int .u8 pad] w fun e w' => e = .returned (.tuple #[.agg (blkA (cutF s at_ pad)), .int .i64 (s.size - at_)]) ∧ Below w.heap.size w w' := by
  obtain ⟨n, rfl⟩ : ∃ n : Nat, at_ = n := ⟨at_.toNat, by omega⟩
  have HB := BelowH.refl w
  have d1 : ¬ ((n : Int) < 0) := by omega
  have d2 : ¬ ((s.size : Int) ≤ n) := by omega
  have d3 : ¬ ((64 : Int) ≤ (s.size : Int) - n) := by omega
  have d4 : (n : Int) ≤ s.size := by omega
  have d5 : n ≤ s.size := by omega
  go_enter Try.func17, Try.ntmps17
  go_wp2_with (first
    | ((with_reducible refine gate_dst (N := 6) rfl ?_); refine ev_alloc HB rfl (blkA fun _ => 0) 34 ?hr ?_; (case hr => (rw [← blkA_zero]; go_simp; rfl)); intro g0 w1 G_g0 GE_g0 B_g0 HBn K_g0; clear HB; have HB := HBn; clear HBn)
    | (go_at_call 22; refine (block_filled.calls pad _).mono ?_; rintro e w2 ⟨rfl, hb2⟩; have B2 := B_g0.below hb2; have HB2 := HB.step hb2; clear HB; have HB := HB2; clear HB2 hb2)
    | ((with_reducible refine gate_dst (N := 8) rfl ?_); refine ev_alloc HB rfl (blkA fun _ => 0) 34 ?hr ?_; (case hr => (rw [← blkA_zero]; go_simp; rfl)); intro g8 w3 G_g8 GE_g8 B_g8 HBn K_g8; clear HB; have HB := HBn; clear HBn)
    | ((with_reducible refine gate_ (Op.store 34 (.tmp 8) (.tmp 34)) rfl ?_); refine ev_store HB B_g8 GE_g8 rfl 34 _ _ rfl rfl rfl (size64' _) (by rw [blkA_size, blkA_size]) (blkA_one _) ?_; intro w4 B8 HBn K_w4; clear HB; have HB := HBn; clear HBn))
  have NE := Aside0.mk (show g0 ≠ g8 by have := B2.lt; have := G_g8.out; omega)
  go_still_tail 4, (by kernel_rfl)
  change wpList _ _ _ _ _ w4.drew
  have B8' := B8.drew
  have HB' := HB.drew
  have B0 := (((B2.below K_g8.out).other K_w4 NE.out).drew)
  have EZ := Aside0.mk (show (s.extract n s.size).size = s.size - n by rw [ByteArray.size_extract]; omega)
  clear HB
  go_wp2_with (first
    | ((with_reducible refine gate_dst (N := 39) rfl ?_); refine ev_copy64 HB' B8' GE_g8 rfl _ _ 51 9 5 rfl _ (s.size - n) EZ.out (by omega) rfl rfl Try.underlying51 (by kernel_rfl) ?_; intro w5 B9 HB K_w5)
    | ((with_reducible refine gate_dst (N := 40) rfl ?_); refine ev_load B9 rfl 34 _ rfl rfl Try.underlying34 (size64' _) ?_)
    | ((with_reducible refine gate_ (Op.store 34 (.tmp 6) (.tmp 40)) rfl ?_); have B1 := B0.other K_w5 NE.out; refine ev_store HB B1 GE_g0 rfl 34 _ _ rfl rfl rfl (size64' _) (by rw [blkA_size, blkA_size]) (blkA_one _) ?_; intro w6 B6 HBn K_w6; clear HB; have HB := HBn; clear HBn))
  have E : (blkA fun j => if j < s.size - n then bt (s.extract n s.size) (j : Int) else pad) = blkA (cutF s n pad) := blkA_congr fun j hj => by
    unfold cutF
    by_cases h : j < s.size - n
    · rw [if_pos h, if_pos (by omega), bt_extract s n s.size j (by omega) (by omega)]
      norm_cast
    · rw [if_neg h, if_neg (by omega)]
  refine bodyPost_ret (results_row_tmp rfl _ _ g0 34 _ _ rfl B6 Try.underlying34 rfl (size64' _)) rfl ?_
  refine ⟨?_, HB.out⟩
  rw [E, show (s.size : Int) - n = ((s.size - n : Nat) : Int) by omega]
  rfl
open Go.Proofs.YtagcilcdgckbeaaQ Go.Proofs.YtagcilcdgckbeaaM in
theorem block_Cut.calls (s : ByteArray) (at_ pad : Int) (w : World) (hs : s.size ≤ 281474976702464) :
    Calls Try.prog 17 #[.string s, .int .i64 at_, .int .u8 pad] w fun e w' => e = .returned (.tuple #[.agg (blkA (cutF s at_ pad)), .int .i64 (cutN s at_)]) ∧ Below w.heap.size w w' := by
  unfold cutN
  by_cases h : at_ < 0 ∨ (s.size : Int) ≤ at_
  · rw [if_pos h]
    exact block_Cut.calls_out s at_ pad w h
  · rw [if_neg h]
    by_cases h2 : 64 ≤ (s.size : Int) - at_
    · rw [if_pos h2]
      exact block_Cut.calls_full s at_ pad w hs (by omega) (by omega)
    · rw [if_neg h2]
      exact block_Cut.calls_part s at_ pad w hs (by omega) (by omega) (by omega)


/-! ### block_Blocks_1: function 16 -/
section
open Go.Proofs.YtagcilcdgckbeaaQ Go.Proofs.YtagcilcdgckbeaaM Go.Shelf
attribute [local go_sem] Oper.semAt_some
/-- What Blocks tells of the k-th block. -/
def blkEnc (s : ByteArray) (pad : Int) (k : Nat) : Array Value := #[.int .i64 (64 * (k : Int)), .agg (blkA (cutF s (64 * (k : Int)) pad))]
set_option maxHeartbeats 4000000 in
set_option maxRecDepth 100000 in
theorem block_Blocks_1.walk (F : Fence) (HF : Aside0 (F = Fence.wide)) (n : Nat) (hn : 3 ≤ n) (l g1 g2 : Nat) (s : ByteArray) (pad : Int) (hs : s.size ≤ 281474976702464) (J Jx : List (Fin (nwords s.size)) → World → Prop) (W0 : World)
    (hJ : ∀ pre A B, J pre A → Below A.heap.size A B → J pre B)
    (hY : ∀ pre x W, J pre W → pre.length < nwords s.size → YieldAt F (n - 1) Try.prog l (blkEnc s pad x.val) W fun e W' =>
      (e = .returned (.bool true) ∧ J (pre ++ [x]) W' ∧ Keep2 g1 g2 W W') ∨ (e = .returned (.bool false) ∧ Jx (pre ++ [x]) W'))
    (B1 : Blk W0 g1 #[.string s] 9) (B2 : Blk W0 g2 #[.int .u8 pad] 5) (h0 : J [] W0) :
    CallsIn F n Try.prog 16 #[.func (.yield l) #[] #[], .pointer (some ⟨g1, 0, none⟩), .pointer (some ⟨g2, 0, none⟩)] W0 fun e W' => (∃ v, e = .returned v) ∧
      ((∃ ys, ys = List.finRange (nwords s.size) ∧ J ys W') ∨ (∃ pre, pre <+: List.finRange (nwords s.size) ∧ Jx pre W')) := by
  have HJ := Aside0.mk hJ
  have HY := Aside0.mk hY
  have HJ0 := Aside0.mk h0
  clear hJ hY h0
  have f0 := wide_fn HF 17
  have n1 : 1 ≤ n := by omega
  have n2 : 1 ≤ n - 1 := by omega
  have hro := wide_round HF
  refine callsIn_of_wp Try.func16 rfl (wide_fn HF _) ?_ (wide_round HF)
  simp only [Try.ntmps16, List.size_toArray, List.length_cons, List.length_nil, Nat.reduceAdd, Nat.reduceSub, Array.replicate_succ, Array.replicate_zero, List.push_toArray, List.append_toArray, List.nil_append, List.cons_append]
  gi_wp2
  gi_loopw [4] (fun v wr => ∃ k : Nat, v = .int .i64 (64 * (k : Int)) ∧ Aside0 (k ≤ nwords s.size) ∧ Aside0 (J ((List.finRange (nwords s.size)).take k) wr) ∧ Blk wr g1 #[.string s] 9 ∧ Blk wr g2 #[.int .u8 pad] 5) (fun v _ => 64 * nwords s.size - (intOf v).toNat)
  case atStart => exact ⟨0, rfl, ⟨Nat.zero_le _⟩, HJ0, B1, B2⟩
  case round =>
    clear B1 B2 HJ0
    obtain ⟨k, rfl, HK, HJk, B1, B2⟩ := hrel
    have c1 := B1.cell (i := 0) rfl
    have c2 := B2.cell (i := 0) rfl
    have HB := BelowH.refl wr
    by_cases hlt : 64 * (k : Int) < s.size
    · have K1 : Aside0 (64 * (k : Int) < s.size) := ⟨hlt⟩
      have KN : Aside0 (k < nwords s.size) := ⟨by unfold nwords; omega⟩
      have KT := Aside0.mk (finRange_take (nwords s.size) k KN.out)
      gi_wp2_with (first
        | (gi_at_call 17; refine (callsIn_of HF (block_Cut.calls s (64 * (k : Int)) pad _ hs)).mono ?_; rintro e w3 ⟨rfl, hb3⟩; have D1 := B1.below hb3; have D2 := B2.below hb3; have HB3 := HB.step hb3; clear hb3)
        | ((with_reducible refine gate_dstIn (N := 5) rfl ?_); refine ev_allocIn HB3 rfl rfl (blkA fun _ => 0) 34 ?hr ?_; (case hr => (rw [← blkA_zero]; go_simp; rfl)); intro g5 w4 G_g5 GE_g5 B_g5 HB4 K_g5 KO5; have E1 := D1.below K_g5.out; have E2 := D2.below K_g5.out)
        | ((with_reducible refine gate_In (Op.store 34 (.tmp 5) (.tmp 18)) rfl ?_); refine ev_storeIn HB4 B_g5 GE_g5 rfl 34 _ _ rfl rfl rfl (size64' _) (by rw [blkA_size, blkA_size]) (blkA_one _) ?_; intro w5 B5 HB5 K_w5 KO_w5; have N1 := Aside0.mk (show g1 ≠ g5 by have := D1.lt; have := G_g5.out; omega); have N2 := Aside0.mk (show g2 ≠ g5 by have := D2.lt; have := G_g5.out; omega); have F1 := E1.other K_w5 N1.out; have F2 := E2.other K_w5 N2.out)
        | ((with_reducible refine gate_dstIn (N := 22) rfl ?_); refine ev_loadIn B5 rfl 34 _ rfl rfl Try.underlying34 (size64' _) ?_; have HJ5 := Aside0.mk (HJ.out _ _ _ HJk.out HB5.out); obtain ⟨fn, tmps, assign, body, hy, hR⟩ := HY.out ((List.finRange (nwords s.size)).take k) ⟨k, KN.out⟩ _ HJ5.out (by rw [List.length_take, List.length_finRange]; have := KN.out; omega); have HR := Aside0.mk hR; clear hR; dsimp only [blkEnc] at hy))
      refine HR.out.mono ?_
      rintro e W6 (⟨rfl, hJ6, hk6⟩ | ⟨rfl, hJx6⟩)
      · have G1 : Blk W6 g1 #[.string s] 9 := ⟨hk6.1.trans F1.out⟩
        have G2 : Blk W6 g2 #[.int .u8 pad] 5 := ⟨hk6.2.1.trans F2.out⟩
        have HJ6 := Aside0.mk (show J ((List.finRange (nwords s.size)).take (k + 1)) W6 by rw [KT.out]; exact hJ6)
        clear hJ6 hk6
        gi_wp2
        go_roundw
        case rel => exact ⟨k + 1, by simp; omega, ⟨by unfold nwords; have := K1.out; omega⟩, HJ6, G1, G2⟩
        case measure => simp [intOf, nwords]; have := K1.out; omega
      · have HJ6 := Aside0.mk hJx6
        clear hJx6
        gi_wp2
        refine bodyPost_ret (results_none rfl _ _ _) rfl ?_
        refine ⟨⟨_, rfl⟩, .inr ⟨_, ?_, HJ6.out⟩⟩
        rw [← KT.out]
        exact List.take_prefix _ _
    · have EK : k = nwords s.size := by
        have h1 := HK.out
        unfold nwords at *
        omega
      have HE := Aside0.mk EK
      clear EK
      gi_wp2
      go_end0
      have h := HJk.out
      rw [HE.out, List.take_of_length_le (by rw [List.length_finRange]; exact Nat.le_refl _)] at h
      exact ⟨⟨_, rfl⟩, .inl h⟩
/-- What Blocks hands back tells the blocks, in order. -/
theorem block_Blocks_1.stops (F : Fence) (HF : Aside0 (F = Fence.wide)) (n : Nat) (hn : 3 ≤ n) (g1 g2 : Nat) (s : ByteArray) (pad : Int) (hs : s.size ≤ 281474976702464) (w : World)
    (B1 : Blk w g1 #[.string s] 9) (B2 : Blk w g2 #[.int .u8 pad] 5) :
    SeqStopsK F n Try.prog 16 #[.pointer (some ⟨g1, 0, none⟩), .pointer (some ⟨g2, 0, none⟩)] (fun x : Fin (nwords s.size) => blkEnc s pad x.val) (Keep2 g1 g2) (fun ys => ys = List.finRange (nwords s.size)) (fun pre => pre <+: List.finRange (nwords s.size)) (nwords s.size) w := by
  intro l J Jx W hW hJ _ hY h0
  exact block_Blocks_1.walk F HF n hn l g1 g2 s pad hs J Jx W
    (fun pre A B hA hb => hJ pre A B none hA ⟨hb.os, hb.tape, hb.output, hb.size, fun k hk _ => hb.block k hk⟩ (fun r e => by cases e))
    hY (B1.below hW) (B2.below hW) h0
end


/-! ### block_Blocks: function 9 -/
open Go.Proofs.YtagcilcdgckbeaaQ Go.Proofs.YtagcilcdgckbeaaM in
set_option maxHeartbeats 4000000 in
set_option maxRecDepth 100000 in
theorem block_Blocks.calls (s : ByteArray) (pad : Int) (w : World) :
    Calls Try.prog 9 #[.string s, .int .u8 pad] w fun e w' => ∃ g1 g2 : Nat, e = .returned (.func (.func 16) #[] #[.pointer (some ⟨g1, 0, none⟩), .pointer (some ⟨g2, 0, none⟩)]) ∧
      w.heap.size ≤ g1 ∧ w.heap.size ≤ g2 ∧ Blk w' g1 #[.string s] 9 ∧ Blk w' g2 #[.int .u8 pad] 5 ∧ BelowH w w' := by
  have HB := BelowH.refl w
  go_enter Try.func9, Try.ntmps9
  go_wp2_with (first | ((with_reducible refine gate_dst (N := 2) rfl ?_); refine ev_alloc HB rfl (#[.string s]) 9 ?hr ?_; (case hr => first | (go_simp; done) | (go_simp; rfl)); intro g1 w1 G_g1 GE_g1 B_g1 HBn K_g1; clear HB; have HB := HBn; clear HBn) | ((with_reducible refine gate_dst (N := 3) rfl ?_); refine ev_alloc HB rfl (#[.int .u8 pad]) 5 ?hr ?_; (case hr => first | (go_simp; done) | (go_simp; rfl)); intro g2 w2 G_g2 GE_g2 B_g2 HBn K_g2; clear HB; have HB := HBn; clear HBn))
  go_ret
  exact ⟨g1, g2, rfl, GE_g1.out, GE_g2.out, B_g1.below K_g2.out, B_g2, HB⟩


/-! ### lanes_Load: function 18 -/
open Go.Proofs.YtagcilcdgckbeaaQ Go.Proofs.YtagcilcdgckbeaaM in
set_option maxHeartbeats 4000000 in
set_option maxRecDepth 100000 in
theorem lanes_Load.calls (f : Nat → Int) (hf : ∀ i, 0 ≤ f i ∧ f i < 256) (w : World) :
    Calls Try.prog 18 #[.agg (arrA 8 f)] w fun e w' => e = .returned (.int .u64 (loadN f 8 : Nat)) ∧ Below w.heap.size w w' := by
  have HB := BelowH.refl w
  have HF := Aside0.mk fun i => hf i
  clear hf
  go_enter Try.func18, Try.ntmps18
  go_wp2_with (first
    | ((with_reducible refine gate_dst (N := 1) rfl ?_); refine ev_alloc HB rfl (arrA 8 f) 50 ?hr ?_; (case hr => first | (go_simp; done) | (go_simp; rfl)); intro g1 w1 G_g1 GE_g1 B_g1 HBn K_g1; clear HB; have HB := HBn; clear HBn))
  go_loopw [3, 6] (fun v3 v6 wr => ∃ i : Nat, i ≤ 8 ∧ v6 = .int .i64 i ∧ v3 = .int .u64 (loadN f i : Nat) ∧ Blk wr g1 (arrA 8 f) 50 ∧ BelowH w wr) (fun _ v6 _ => 8 - (intOf v6).toNat)
  case atStart => exact ⟨0, by omega, rfl, rfl, B_g1, HB⟩
  case round =>
    clear B_g1 HB
    obtain ⟨i, hi, rfl, rfl, B1, HB⟩ := hrel
    by_cases hlt : i < 8
    · have hc := B1.cell (arrA_get 8 f hlt)
      have h1 : (i : Int) < 8 := by omega
      go_wp2
      go_quiet (fail)
      go_wp2
      go_roundw
      case rel =>
        refine ⟨i + 1, by omega, by go_num, ?_, B1.drewN _, HB.drewN _⟩
        rw [load_step f HF.out hlt]
      case measure => simp [intOf]; omega
    · go_wp2
      go_ret
      obtain rfl : i = 8 := by omega
      exact ⟨rfl, HB.out⟩


/-! ### lanes_Fill: function 23 -/
def lanes_Fill.f (a0 : Int) : Option (Int) := some (IntKind.u64.wrap (72340172838076673 * (IntKind.u64.wrap (a0))))
set_option maxHeartbeats 8000000 in
set_option maxRecDepth 100000 in
theorem lanes_Fill.calls (a0 : Int) (r : Int) (w : World) (h : lanes_Fill.f a0 = some r) :
    Calls Try.prog 23 #[.int .u8 a0] w fun e w' => e = .returned (.int .u64 r) ∧ Drawn0 w w' := by
  have H : (some (IntKind.u64.wrap (72340172838076673 * (IntKind.u64.wrap (a0))))) = some r := h
  clear h
  obtain rfl := Option.some.inj H
  go_enter Try.func23, Try.ntmps23
  go_wp2
  go_ret
  exact ⟨by first | rfl | (simp; done) | (simp [*]; done), by repeat (first | exact Drawn0.refl _ | apply Drawn0.step)⟩

/-! ### lanes_tops: function 24 -/
def lanes_tops.f (a0 : Int) : Option (Int) := some (((IntKind.u64.wrap (((Go.bits .and .u64 a0 9259542123273814144) / 128) * 72624976668147840)) / 72057594037927936) % 256)
set_option maxHeartbeats 8000000 in
set_option maxRecDepth 100000 in
theorem lanes_tops.calls (a0 : Int) (r : Int) (w : World) (h : lanes_tops.f a0 = some r) :
    Calls Try.prog 24 #[.int .u64 a0] w fun e w' => e = .returned (.int .u8 r) ∧ Drawn0 w w' := by
  have H : (some (((IntKind.u64.wrap (((Go.bits .and .u64 a0 9259542123273814144) / 128) * 72624976668147840)) / 72057594037927936) % 256)) = some r := h
  clear h
  obtain rfl := Option.some.inj H
  go_enter Try.func24, Try.ntmps24
  go_wp2
  go_ret
  exact ⟨by first | rfl | (simp; done) | (simp [*]; done), by repeat (first | exact Drawn0.refl _ | apply Drawn0.step)⟩

/-! ### lanes_Equal: function 19 -/
open Go.Proofs.YtagcilcdgckbeaaQ Go.Proofs.YtagcilcdgckbeaaM in
set_option maxHeartbeats 4000000 in
set_option maxRecDepth 100000 in
theorem lanes_Equal.calls (f : Nat → Int) (hf : ∀ i, 0 ≤ f i ∧ f i < 256) (c : Int) (h0 : 0 ≤ c) (h1 : c < 256) (w : World) :
    Calls Try.prog 19 #[.int .u64 (loadN f 8 : Nat), .int .u8 c] w fun e w' => e = .returned (.int .u8 (wordN (fun j => decide (f j = c)) 8 : Nat)) ∧ Drawn0 w w' := by
  have E := Aside0.mk (equal_lanes f hf c h0 h1)
  clear hf h0 h1
  obtain ⟨x, hx⟩ : ∃ x : Int, x = ((loadN f 8 : Nat) : Int) := ⟨_, rfl⟩
  rw [← hx] at E ⊢
  clear hx
  go_enter Try.func19, Try.ntmps19
  go_wp2_with (first
    | (go_at_call 23; refine (lanes_Fill.calls c _ _ rfl).mono ?_; rintro e w' ⟨rfl, ⟨nd, rfl⟩⟩)
    | (go_at_call 24; refine (lanes_tops.calls _ _ _ rfl).mono ?_; rintro e w' ⟨rfl, ⟨nd2, rfl⟩⟩))
  go_ret
  refine ⟨?_, ?_⟩
  · rw [← E.out]; rfl
  · repeat (first | exact Drawn0.refl _ | apply Drawn0.step)


/-! ### block_Equal: function 10 -/
open Go.Proofs.YtagcilcdgckbeaaQ Go.Proofs.YtagcilcdgckbeaaM in
theorem size8' (f : Nat → Int) : (Try.prog.info? 50).map (·.size) = some (arrA 8 f).size := by
  rw [arrA_size]
  kernel_rfl
open Go.Proofs.YtagcilcdgckbeaaQ Go.Proofs.YtagcilcdgckbeaaM in
set_option maxHeartbeats 4000000 in
set_option maxRecDepth 100000 in
theorem block_Equal.calls (f : Nat → Int) (hf : ∀ i, 0 ≤ f i ∧ f i < 256) (c : Int) (h0 : 0 ≤ c) (h1 : c < 256) (w : World) :
    Calls Try.prog 10 #[.agg (blkA f), .int .u8 c] w fun e w' => e = .returned (.int .u64 (iv (word fun j => decide (f j = c)))) ∧ Below w.heap.size w w' := by
  have HB := BelowH.refl w
  have HF := Aside0.mk fun i => hf i
  have H0 := Aside0.mk h0
  have H1 := Aside0.mk h1
  clear hf h0 h1
  go_enter Try.func10, Try.ntmps10
  go_wp2_with (first | ((with_reducible refine gate_dst (N := 2) rfl ?_); refine ev_alloc HB rfl (blkA f) 34 ?hr ?_; (case hr => first | (go_simp; done) | (go_simp; rfl)); intro g1 w1 G_g1 GE_g1 B_g1 HBn K_g1; clear HB; have HB := HBn; clear HBn))
  go_loopw [5, 6] (fun v5 v6 wr => ∃ i : Nat, i ≤ 8 ∧ v6 = .int .i64 (8 * (i : Int)) ∧ v5 = .int .u64 (wordN (fun j => decide (f j = c)) (8 * i) : Nat) ∧ Blk wr g1 (blkA f) 34 ∧ BelowH w wr) (fun _ v6 _ => 64 - (intOf v6).toNat)
  case atStart => exact ⟨0, by omega, rfl, rfl, B_g1, HB⟩
  case round =>
    clear B_g1 HB
    obtain ⟨i, hi, rfl, rfl, B1, HB⟩ := hrel
    by_cases hlt : i < 8
    · have k1 : 8 * (i : Int) < 64 := by omega
      have KI := Aside0.mk hlt
      have K2 : Aside0 (∀ j, j < 8 → (blkA f)[8 * i + j]? = some (.int .u8 (f (8 * i + j)))) := ⟨fun j hj => blkA_get f (by omega)⟩
      have K3 : Aside0 (∀ j, 0 ≤ f (8 * i + j) ∧ f (8 * i + j) < 256) := ⟨fun j => HF.out _⟩
      go_wp2_with (first
        | ((with_reducible refine gate_dst (N := 15) rfl ?_); refine ev_sliceArr rfl 34 _ _ _ rfl g1 (8 * i) (8 * i + 8) 64 _ _ 5 rfl rfl rfl (by omega) (by omega) Try.underlying34 (by kernel_rfl) (by omega) (by omega) (by omega) ?_)
        | ((with_reducible refine gate_dst (N := 16) rfl ?_); refine ev_arrayAt rfl 50 _ rfl ⟨g1, 8 * i, none⟩ _ _ 8 5 rfl Try.underlying50 (by omega) ?_)
        | ((with_reducible refine gate_dst (N := 17) rfl ?_); refine ev_load_mid rfl 50 _ rfl g1 (8 * i) rfl (arrA 8 fun j => f (8 * i + j)) (fun j hj => by rw [arrA_size] at hj; rw [blk_cell B1.out, K2.out j hj, arrA_get 8 _ hj]) Try.underlying50 (size8' _) ?_)
        | (go_at_call 18; refine (lanes_Load.calls _ K3.out _).mono ?_; rintro e w2 ⟨rfl, hb2⟩; have B2 := B1.below hb2; have HB2 := HB.step hb2; clear hb2)
        | (go_at_call 19; refine (lanes_Equal.calls _ K3.out c H0.out H1.out _).mono ?_; rintro e w3 ⟨rfl, ⟨nd, rfl⟩⟩))
      go_roundw
      case rel =>
        refine ⟨i + 1, by omega, by simp; omega, ?_, B2.drewN _, HB2.drewN _⟩
        rw [← eight_step _ KI.out]
      case measure => simp [intOf]; omega
    · obtain rfl : i = 8 := by omega
      go_wp2
      go_ret
      exact ⟨by rw [iv_word]; rfl, HB.out⟩


/-! ### words_Escaped: function 11 -/
def words_Escaped.f (a0 : Int) (a1 : Bool) : Option (Int × Bool) := if a1 = true then (some (Go.bits .xor .u64 (Go.bits .xor .u64 (IntKind.u64.wrap ((Go.bits .or .u64 (IntKind.u64.wrap ((Go.bits .andNot .u64 a0 1) * 2)) 12297829382473034410) - (Go.bits .andNot .u64 a0 1))) 12297829382473034410) (Go.bits .or .u64 a0 1), (((Go.bits .and .u64 (Go.bits .xor .u64 (IntKind.u64.wrap ((Go.bits .or .u64 (IntKind.u64.wrap ((Go.bits .andNot .u64 a0 1) * 2)) 12297829382473034410) - (Go.bits .andNot .u64 a0 1))) 12297829382473034410) a0) / 9223372036854775808) != 0))) else (some (Go.bits .xor .u64 (Go.bits .xor .u64 (IntKind.u64.wrap ((Go.bits .or .u64 (IntKind.u64.wrap ((Go.bits .andNot .u64 a0 0) * 2)) 12297829382473034410) - (Go.bits .andNot .u64 a0 0))) 12297829382473034410) (Go.bits .or .u64 a0 0), (((Go.bits .and .u64 (Go.bits .xor .u64 (IntKind.u64.wrap ((Go.bits .or .u64 (IntKind.u64.wrap ((Go.bits .andNot .u64 a0 0) * 2)) 12297829382473034410) - (Go.bits .andNot .u64 a0 0))) 12297829382473034410) a0) / 9223372036854775808) != 0)))
set_option maxHeartbeats 8000000 in
set_option maxRecDepth 100000 in
theorem words_Escaped.calls (a0 : Int) (a1 : Bool) (r1 : Int) (r2 : Bool) (w : World) (h : words_Escaped.f a0 a1 = some (r1, r2)) :
    Calls Try.prog 11 #[.int .u64 a0, .bool a1] w fun e w' => e = .returned (.tuple #[.int .u64 r1, .bool r2]) ∧ Drawn0 w w' := by
  have H : (if a1 = true then (some (Go.bits .xor .u64 (Go.bits .xor .u64 (IntKind.u64.wrap ((Go.bits .or .u64 (IntKind.u64.wrap ((Go.bits .andNot .u64 a0 1) * 2)) 12297829382473034410) - (Go.bits .andNot .u64 a0 1))) 12297829382473034410) (Go.bits .or .u64 a0 1), (((Go.bits .and .u64 (Go.bits .xor .u64 (IntKind.u64.wrap ((Go.bits .or .u64 (IntKind.u64.wrap ((Go.bits .andNot .u64 a0 1) * 2)) 12297829382473034410) - (Go.bits .andNot .u64 a0 1))) 12297829382473034410) a0) / 9223372036854775808) != 0))) else (some (Go.bits .xor .u64 (Go.bits .xor .u64 (IntKind.u64.wrap ((Go.bits .or .u64 (IntKind.u64.wrap ((Go.bits .andNot .u64 a0 0) * 2)) 12297829382473034410) - (Go.bits .andNot .u64 a0 0))) 12297829382473034410) (Go.bits .or .u64 a0 0), (((Go.bits .and .u64 (Go.bits .xor .u64 (IntKind.u64.wrap ((Go.bits .or .u64 (IntKind.u64.wrap ((Go.bits .andNot .u64 a0 0) * 2)) 12297829382473034410) - (Go.bits .andNot .u64 a0 0))) 12297829382473034410) a0) / 9223372036854775808) != 0)))) = some (r1, r2) := h
  clear h
  by_cases c3 : a1 = true
  · subst c3
    have H1 : (some (Go.bits .xor .u64 (Go.bits .xor .u64 (IntKind.u64.wrap ((Go.bits .or .u64 (IntKind.u64.wrap ((Go.bits .andNot .u64 a0 1) * 2)) 12297829382473034410) - (Go.bits .andNot .u64 a0 1))) 12297829382473034410) (Go.bits .or .u64 a0 1), (((Go.bits .and .u64 (Go.bits .xor .u64 (IntKind.u64.wrap ((Go.bits .or .u64 (IntKind.u64.wrap ((Go.bits .andNot .u64 a0 1) * 2)) 12297829382473034410) - (Go.bits .andNot .u64 a0 1))) 12297829382473034410) a0) / 9223372036854775808) != 0))) = some (r1, r2) := by rw [if_pos rfl] at H; exact H
    clear H
    have H := H1
    clear H1
    simp only [Option.some.injEq, Prod.mk.injEq] at H
    obtain ⟨rfl, rfl⟩ := H
    go_enter Try.func11, Try.ntmps11
    go_wp2
    go_ret2
    exact ⟨by first | rfl | (simp; done) | (simp [*]; done), by repeat (first | exact Drawn0.refl _ | apply Drawn0.step)⟩
  · replace c3 := Bool.eq_false_iff.mpr c3
    subst c3
    have H1 : (some (Go.bits .xor .u64 (Go.bits .xor .u64 (IntKind.u64.wrap ((Go.bits .or .u64 (IntKind.u64.wrap ((Go.bits .andNot .u64 a0 0) * 2)) 12297829382473034410) - (Go.bits .andNot .u64 a0 0))) 12297829382473034410) (Go.bits .or .u64 a0 0), (((Go.bits .and .u64 (Go.bits .xor .u64 (IntKind.u64.wrap ((Go.bits .or .u64 (IntKind.u64.wrap ((Go.bits .andNot .u64 a0 0) * 2)) 12297829382473034410) - (Go.bits .andNot .u64 a0 0))) 12297829382473034410) a0) / 9223372036854775808) != 0))) = some (r1, r2) := by rw [if_neg (show ¬ (false = true) by decide)] at H; exact H
    clear H
    have H := H1
    clear H1
    simp only [Option.some.injEq, Prod.mk.injEq] at H
    obtain ⟨rfl, rfl⟩ := H
    go_enter Try.func11, Try.ntmps11
    go_wp2
    go_ret2
    exact ⟨by first | rfl | (simp; done) | (simp [*]; done), by repeat (first | exact Drawn0.refl _ | apply Drawn0.step)⟩

/-! ### escape_Escaped: function 4 -/
section
open Go.Proofs.YtagcilcdgckbeaaQ Go.Proofs.YtagcilcdgckbeaaM Go.Shelf
theorem words_Escaped.tells (q : Nat → Bool) (c : Bool) : words_Escaped.f (iv (word q)) c = some (iv (word (escW q c)), escW q c 64) := by
  have e1 : (12297829382473034410 : Int) = iv oddsW := by decide
  have e2 : (1 : Int) = iv 1#64 := by decide
  have e3 : (0 : Int) = iv 0#64 := by decide
  have e4 : ∀ v : BitVec 64, iv v / (9223372036854775808 : Int) = iv (v >>> 63) := fun v => shr_iv v 63
  have e5 : ∀ v : BitVec 64, IntKind.u64.wrap (iv v * 2) = iv (v <<< 1) := fun v => wrap_shl v 1
  have e6 : ∀ v w : BitVec 64, (iv v != iv w) = (v != w) := fun v w => by
    rw [Bool.eq_iff_iff, bne_iff_ne, bne_iff_ne, ne_eq, ne_eq, iv_inj]
  have h1 := escaped_word q c
  have h2 := escaped_carry q c
  unfold words_Escaped.f
  cases c
  · simp only [Bool.false_eq_true, if_false] at h1 h2 ⊢
    rw [e1, e3, bits_andNot, e5, bits_or, wrap_sub, bits_xor, bits_or, bits_xor, bits_and, e4, e6, h1, h2]
  · simp only [if_true] at h1 h2 ⊢
    rw [e1, e2, e3, bits_andNot, e5, bits_or, wrap_sub, bits_xor, bits_or, bits_xor, bits_and, e4, e6, h1, h2]

attribute [local go_sem] Oper.semAt_some
/-- Between two blocks. -/
structure EscI (s : ByteArray) (w : World) (L : List (Nat × Array Value × Nat)) (m g3 g4 : Nat) {n : Nat} (pre : List (Fin n)) (W : World) : Prop where mk ::
  bs : Blks L W
  b4 : Blk W g4 #[.bool (foldE s pre).1] 4
  row : ∃ v, Blk W g3 #[.int .i64 s.size, v] 24 ∧ W.ownsRow w.heap.size 35 1 v pre.length ((foldE s pre).2.map (Value.int .u64))
  hb : BelowH w W
  sz : m ≤ W.heap.size
theorem EscI.kept {s : ByteArray} {w W W' : World} {L : List (Nat × Array Value × Nat)} {m g3 g4 n : Nat} {pre : List (Fin n)} (h : EscI s w L m g3 g4 pre W) {B : Nat} (hB : w.heap.size ≤ B) {row : Option Nat} (hg : W.grownBy W' row) (hr : ∀ r, row = some r → B ≤ r ∧ ∃ o : Obj, W.heap[r]? = some o ∧ o.isCells = false) : EscI s w L m g3 g4 pre W' := by
  have hr' : ∀ r, row = some r → ∃ o : Obj, W.heap[r]? = some o ∧ o.isCells = false := fun r e => (hr r e).2
  obtain ⟨v, b3, hrow⟩ := h.row
  exact ⟨h.bs.kept hg hr', h.b4.kept hg hr', ⟨v, b3.kept hg hr', row_kept hrow hg hr'⟩, h.hb.kept hg hB (fun r e => (hr r e).1), Nat.le_trans h.sz hg.size⟩
def escape_Escaped.f (a0 : ByteArray) : Option (Int × List Int) := if a0.size ≤ 281474976702464 then some ((a0.size : Int), wordsOf a0.size (esc a0 false)) else none
set_option maxHeartbeats 4000000 in
set_option maxRecDepth 100000 in
theorem escape_Escaped.walk (s : ByteArray) (w : World) (hs : s.size ≤ 281474976702464) :
    Calls Try.prog 4 #[.string s] w fun e w' => ∃ v1_ : Value, e = .returned (.agg #[.int .i64 s.size, v1_]) ∧ w'.ownsRow w.heap.size 35 1 v1_ (nwords s.size) ((wordsOf s.size (esc s false)).map (Value.int .u64)) ∧ Below w.heap.size w w' := by
  obtain ⟨F, hF⟩ : ∃ F, F = Fence.wide := ⟨_, rfl⟩
  have HF := Aside0.mk hF
  refine (callsIn_wide (n := 9)).1 ?_
  rw [← hF]
  clear hF
  have hro := wide_round HF
  have HB := BelowH.refl w
  have f1 := wide_fn HF 9
  have f2 := wide_fn HF 16
  have f3 := wide_fn HF 10
  have f4 := wide_fn HF 11
  refine callsIn_of_wp_marks Try.func4 rfl (wide_fn HF _) ?_ hro
  simp only [Try.ntmps4, List.size_toArray, List.length_cons, List.length_nil, Nat.reduceAdd, Nat.reduceSub, Array.replicate_succ, Array.replicate_zero, List.push_toArray, List.append_toArray, List.nil_append, List.cons_append]
  gi_wp2_with (first
    | ((with_reducible refine gate_dstIn (N := 1) rfl ?_); refine ev_allocIn HB rfl rfl (#[.string s]) 9 ?hr ?_; (case hr => first | (go_simp; done) | (go_simp; rfl)); intro g1 w1 G_g1 GE_g1 B_g1 HBn K_g1 KO_w1; clear HB; have HB := HBn; clear HBn)
    | ((with_reducible refine gate_dstIn (N := 2) rfl ?_); refine ev_allocIn HB rfl rfl (#[.int .i64 0, .slice none 0 0]) 24 ?hr ?_; (case hr => first | (go_simp; done) | (go_simp; rfl)); intro g2 w2 G_g2 GE_g2 B_g2 HBn K_g2 KO_w2; clear HB; have HB := HBn; clear HBn))
  refine wpIn_scope HF ?_
  have c1 := (B_g1.below K_g2.out).cell (i := 0) rfl
  gi_wp2_with (first
    | ((with_reducible refine gate_dstIn (N := 3) rfl ?_); refine ev_allocIn HB rfl rfl (#[.int .i64 0, .slice none 0 0]) 24 ?hr ?_; (case hr => first | (go_simp; done) | (go_simp; rfl)); intro g3 w3 G_g3 GE_g3 B_g3 HBn K_g3 KO_w3; clear HB; have HB := HBn; clear HBn)
    | ((with_reducible refine gate_In (Op.store 24 (.tmp 3) (.tmp 12)) rfl ?_); refine ev_storeIn HB B_g3 GE_g3 rfl 24 _ _ rfl rfl rfl (by kernel_rfl) rfl (by simp [Value.oneCell']) ?_; intro w4 B3 HBn K_w4 KO_w4; clear HB; have HB := HBn; clear HBn)
    | ((with_reducible refine gate_dstIn (N := 4) rfl ?_); refine ev_allocIn HB rfl rfl (#[.bool false]) 4 ?hr ?_; (case hr => first | (go_simp; done) | (go_simp; rfl)); intro g4 w5 G_g4 GE_g4 B_g4 HBn K_g4 KO_w5; clear HB; have HB := HBn; clear HBn)
    | ((with_reducible refine gate_In (Op.store 4 (.tmp 4) (.const (.bool false))) rfl ?_); refine ev_store1In (i := 0) HB B_g4 GE_g4 rfl 4 _ _ rfl rfl (.bool false) rfl (by simp) (by kernel_rfl) rfl ?_; intro w6 B4 HBn K_w6 KO_w6; clear HB; have HB := HBn; clear HBn))
  refine wpIn_label ?_
  have N13 := Aside0.mk (show g1 < g3 by have := B_g1.lt; have := G_g2.out; have := G_g3.out; have := B_g2.lt; omega)
  have N23 := Aside0.mk (show g2 < g3 by have := G_g3.out; have := B_g2.lt; omega)
  have N34 := Aside0.mk (show g3 < g4 by have := G_g4.out; have := B3.lt; omega)
  have B1 := ((((B_g1.below K_g2.out).below K_g3.out).other K_w4 (Nat.ne_of_lt N13.out)).below K_g4.out).other K_w6 (Nat.ne_of_lt (Nat.lt_trans N13.out N34.out))
  have B2 := (((B_g2.below K_g3.out).other K_w4 (Nat.ne_of_lt N23.out)).below K_g4.out).other K_w6 (Nat.ne_of_lt (Nat.lt_trans N23.out N34.out))
  have D3 := (B3.below K_g4.out).other K_w6 (Nat.ne_of_lt N34.out)
  clear c1 B_g1 B_g2 B_g3 B_g4 B3 K_g1 K_g2 K_g3 K_g4 K_w4 K_w6 KO_w1 KO_w2 KO_w3 KO_w4 KO_w5 KO_w6
  have c1 := B1.cell (i := 0) rfl
  gi_wp2_with (first
    | (gi_at_call 9; refine (callsIn_of HF (block_Blocks.calls s 32 _)).mono ?_; rintro e w7 ⟨h1, h2, rfl, GE1, GE2, A1, A2, HB7⟩))
  obtain ⟨L, hL⟩ : ∃ L : List (Nat × Array Value × Nat), L = [(g1, #[.string s], 9), (g2, #[.int .i64 0, .slice none 0 0], 24), (h1, #[.string s], 9), (h2, #[.int .u8 32], 5)] := ⟨_, rfl⟩
  have CL : Blks L w7 := ⟨by
    rw [hL]
    intro b m
    simp at m
    rcases m with rfl | rfl | rfl | rfl
    · exact B1.below HB7.out
    · exact B2.below HB7.out
    · exact A1
    · exact A2⟩
  have C3 := D3.below HB7.out
  have C4 := B4.below HB7.out
  have L3 := C3.lt
  have L4 := C4.lt
  have LL : ∀ b ∈ L, b.1 < w7.heap.size := fun b m => (CL.out b m).lt
  have LT : ∀ b ∈ L, b.2.2 ≠ 35 := by
    rw [hL]
    intro b m
    simp at m
    rcases m with rfl | rfl | rfl | rfl <;> (dsimp only; decide)
  have LN3 : ∀ b ∈ L, b.1 ≠ g3 := by
    have := D3.lt
    have := N13.out
    have := N23.out
    rw [hL]
    intro b m
    simp at m
    rcases m with rfl | rfl | rfl | rfl <;> (dsimp only; omega)
  have LN4 : ∀ b ∈ L, b.1 ≠ g4 := by
    have := B4.lt
    have := N13.out
    have := N23.out
    have := N34.out
    rw [hL]
    intro b m
    simp at m
    rcases m with rfl | rfl | rfl | rfl <;> (dsimp only; omega)
  have M1 : (g1, #[.string s], 9) ∈ L := by rw [hL]; simp
  have M2 : (g2, #[.int .i64 0, .slice none 0 0], 24) ∈ L := by rw [hL]; simp
  have M3 : (h1, #[.string s], 9) ∈ L := by rw [hL]; simp
  have M4 : (h2, #[.int .u8 32], 5) ∈ L := by rw [hL]; simp
  have HBW := HB.step HB7.out
  have LH1 := A1.lt
  have LH2 := A2.lt
  have N34' := N34.out
  have PL := Aside0.mk (And.intro LL (And.intro LT (And.intro LN3 LN4)))
  have PM := Aside0.mk (And.intro M1 (And.intro M2 (And.intro M3 M4)))
  clear B1 B2 D3 B4 HB7 HB c1 f1 hL LL LT LN3 LN4 M1 M2 M3 M4 N13 N23 N34
  refine wpIn_rangeFunc_ownH hro (by decide) (gf := 16) (lb := #[.pointer (some ⟨h1, 0, none⟩), .pointer (some ⟨h2, 0, none⟩)]) rfl f2 (enters_of Try.func16 (by kernel_rfl) rfl)
    (block_Blocks_1.stops F HF (9 - 1) (by decide) h1 h2 s 32 hs w7 A1 A2) Keep2.trans (fun W l o o' hl ho hc hw => Keep2.putObj LH1 LH2 W l o o' hl ho hc hw) (Below.refl _ _) (fun _ => rfl)
    (EscI s w L w7.heap.size g3 g4) (fun _ _ _ => False)
    (fun pre A B row hs hg hr => hs.kept HBW.le hg hr)
    (fun _ _ _ _ _ hs _ _ => hs)
    ⟨CL, C4, ⟨_, C3, World.ownsRow_nil _ _ _ _⟩, HBW, Nat.le_refl _⟩
    (fun x a' W => ∃ gb, w7.heap.size ≤ gb ∧ Blk W gb (blkA (cutF s (64 * ((x.val : Nat) : Int)) 32)) 34 ∧ a' = { tmps := #[.string s, .pointer (some ⟨g1, 0, none⟩), .pointer (some ⟨g2, 0, none⟩), .pointer (some ⟨g3, 0, none⟩), .pointer (some ⟨g4, 0, none⟩), .int .i64 (64 * ((x.val : Nat) : Int)), .pointer (some ⟨gb, 0, none⟩), undef, undef, undef, .string s, .int .i64 s.size, .agg #[.int .i64 s.size, .slice none 0 0], .string s, .func (.func 16) #[] #[.pointer (some ⟨h1, 0, none⟩), .pointer (some ⟨h2, 0, none⟩)], .int .i64 (64 * ((x.val : Nat) : Int)), .agg (blkA (cutF s (64 * ((x.val : Nat) : Int)) 32)), undef, undef, undef, undef, undef, undef, undef, undef, undef, undef, undef, undef, undef, undef, undef, undef, undef, undef, undef, undef, undef, undef, undef, undef, undef, undef, undef, undef, undef, undef, undef, undef, undef, undef, undef, undef, undef], defers := [] })
    (fun x a' pre A B row hs hg hr => by
      obtain ⟨gb, h1, h2, h3⟩ := hs
      exact ⟨gb, h1, h2.kept hg (fun r e => (hr r e).2), h3⟩)
    ?assign ?body ?done ?stop
  case assign =>
    intro l pre x W K hI hK
    have HB := hI.hb
    have SZ := Aside0.mk hI.sz
    dsimp only [blkEnc]
    gi_wp2_with (first
      | ((with_reducible refine gate_dstIn (N := 6) rfl ?_); refine ev_allocIn HB rfl rfl (blkA fun _ => 0) 34 ?hr ?_; (case hr => (rw [← blkA_zero]; go_simp; rfl)); intro gb w8 G_gb GE_gb B_gb HBn K_gb KO_w8; clear HB; have HB := HBn; clear HBn)
      | ((with_reducible refine gate_In (Op.store 34 (.tmp 6) (.tmp 16)) rfl ?_); refine ev_storeIn HB B_gb GE_gb rfl 34 _ _ rfl rfl rfl (size64' _) (by rw [blkA_size, blkA_size]) (blkA_one _) ?_; intro w9 B9 HBn K_w9 KO_w9; clear HB; have HB := HBn; clear HBn))
    have hKO := KO_w8.out.trans KO_w9.out
    refine hK _ _ (hKO.from _) ?_ ?_ ⟨gb, Nat.le_trans SZ.out G_gb.out, B9, rfl⟩
    · exact (Keep2.below K_gb.out (by have := SZ.out; omega) (by have := SZ.out; omega)).trans (Keep2.other K_w9 (by have := SZ.out; have := G_gb.out; omega) (by have := SZ.out; have := G_gb.out; omega))
    · have N : ∀ g, g < w7.heap.size → g ≠ gb := fun g h => by have := SZ.out; have := G_gb.out; omega
      obtain ⟨v, b3, hrow⟩ := hI.row
      exact ⟨(hI.bs.below K_gb.out).other K_w9 (fun b m => N _ (PL.out.1 b m)), (hI.b4.below K_gb.out).other K_w9 (N _ L4), ⟨v, (b3.below K_gb.out).other K_w9 (N _ L3), row_other (row_below hrow K_gb.out) B_gb (by decide) K_w9⟩, HB, Nat.le_trans SZ.out (Nat.le_trans K_gb.out.size K_w9.out.1)⟩
  case body =>
    rintro l pre x a' W hl ⟨r, hr⟩ hI ⟨gb, hgb, BX, rfl⟩ hlt
    have HB := hI.hb
    obtain ⟨v, b3, hrow⟩ := hI.row
    have RB := Aside0.mk hr
    clear hr
    have hx : 64 * x.val < s.size := by have := x.isLt; unfold nwords at this; omega
    obtain ⟨q, hq⟩ : ∃ q : Nat → Bool, q = fun j => decide (cutF s (64 * ((x.val : Nat) : Int)) 32 j = 92) := ⟨_, rfl⟩
    obtain ⟨c, hc⟩ : ∃ c, c = (foldE s pre).1 := ⟨_, rfl⟩
    have EQ : ∀ w, Calls Try.prog 10 #[.agg (blkA (cutF s (64 * ((x.val : Nat) : Int)) 32)), .int .u8 92] w fun e w' => e = .returned (.int .u64 (iv (word q))) ∧ Below w.heap.size w w' := fun w => by
      rw [hq]
      exact block_Equal.calls _ (fun i => cutF_range s _ 32 (by decide) i) 92 (by decide) (by decide) w
    have b4 := hI.b4
    rw [← hc] at b4
    have HQ := Aside0.mk hq
    have HC := Aside0.mk hc
    have HX := Aside0.mk hx
    have HL : Aside0 ((pre.length + 1) * 8 ≤ 140737488355328) := ⟨by have := nwords_room hs; omega⟩
    clear hq hc hx hlt
    by_cases h0 : iv (word q) = 0 ∧ c = false
    · obtain ⟨h0, rfl⟩ := h0
      have c4 := b4.cell (i := 0) rfl
      have hz : (iv (word q) == 0) = true := by rw [h0]; rfl
      have H0 := Aside0.mk h0
      clear h0
      have c31 := b3.cell (i := 1) rfl
      gi_wp2_with (first
        | ((with_reducible refine gate_dstIn (N := 17) rfl ?_); refine ev_loadIn BX rfl 34 _ rfl rfl Try.underlying34 (size64' _) ?_)
        | (gi_at_call 10; refine (CallsIn.inRound l (callsIn_of HF (EQ _))).mono ?_; rintro e w8 ⟨rfl, hb8⟩; have HK8 := Aside0.mk hb8; have d4 := b4.below hb8; have d3 := b3.below hb8; have e4 := d4.cell (i := 0) rfl; have e31 := d3.cell (i := 1) rfl; have hrow8 := row_below hrow hb8; have HB8 := HB.step hb8; clear hb8)
        | ((with_reducible refine gate_dstIn (N := 27) rfl ?_); refine ev_lit1In HB8 rfl rfl (.int .u64 0) 35 ?hr ?_; (case hr => first | (go_simp; done) | (go_simp; rfl)); intro gl w9 G_gl B_gl HB9 K_gl KO9; have hrow9 := row_below hrow8 K_gl.out; have d3' := d3.below K_gl.out)
        | ((with_reducible refine gate_dstIn (N := 28) rfl ?_); refine ev_append1In HB9 rfl _ _ 22 35 (.int .u64 0) 8 rfl Try.underlying22 (by kernel_rfl) rfl (by decide) v pre.length _ rfl hrow9 gl (.int .u64 0) rfl B_gl rfl HL.out ?_; intro v1 w10 hrow10 HB10 K10 KO10 FV1; obtain ⟨g', cap', rfl⟩ := FV1.out; have f3' := d3'.appended (by decide) hrow9 K10)
        | ((with_reducible refine gate_In (Op.store 22 (.tmp 29) (.tmp 28)) rfl ?_); refine ev_store1In (i := 1) HB10 f3' GE_g3 rfl 22 _ _ rfl rfl _ rfl (by simp) (by kernel_rfl) rfl ?_; intro w11 B11 HB11 K11 KO11))
      have E8 := hI.bs.below HK8.out
      have E9 := E8.below K_gl.out
      have E10 := E9.appended PL.out.2.1 hrow9 K10
      have E11 := E10.other K11 PL.out.2.2.1
      have d49 := d4.below K_gl.out
      have d410 := d49.appended (by decide) hrow9 K10
      have d411 := d410.other K11 (Nat.ne_of_gt N34')
      have hsz : W.heap.size ≤ w11.heap.size := Nat.le_trans HK8.out.size (Nat.le_trans K_gl.out.size (Nat.le_trans K10.out.1 K11.out.1))
      refine ⟨(((keepsOthers_below HK8.out).trans KO9.out).trans (KO10.out.trans KO11.out)).from _, Keep2.of_blk (hI.bs.out _ PM.out.2.2.1) (hI.bs.out _ PM.out.2.2.2) (E11.out _ PM.out.2.2.1) (E11.out _ PM.out.2.2.2) hsz, E11, ?_, ⟨_, B11, ?_⟩, HB11, Nat.le_trans hI.sz hsz⟩
      · rw [foldE_snoc, (zero_step s _ x.val HQ.out H0.out HC.out.symm).1]
        exact d411
      · rw [foldE_snoc, (zero_step s _ x.val HQ.out H0.out HC.out.symm).2, List.length_append, List.map_append]
        exact row_other hrow10 f3' (by decide) K11
    · have hz : ((iv (word q) == 0) && !c) = false := by
        cases c
        · simp at h0
          simp [h0]
        · simp
      have c4 := b4.cell (i := 0) rfl
      have c31 := b3.cell (i := 1) rfl
      have c1 := (hI.bs.out _ PM.out.1).cell (i := 0) rfl
      clear h0
      have WE := Aside0.mk (words_Escaped.tells q c)
      have hs1 : (s.size : Int) ≤ 281474976702464 := by omega
      have HX' := HX.out
      have hx1 : 64 * ((x.val : Nat) : Int) < s.size := by omega
      have LD : ∀ w, (Calls Try.prog 11 #[.int .u64 (iv (word q)), .bool c] w fun e w' => e = .returned (.tuple #[.int .u64 (iv (word (escW q c))), .bool (escW q c 64)]) ∧ Drawn0 w w') := fun w => words_Escaped.calls _ _ _ _ w WE.out
      obtain ⟨cc, hcc⟩ : ∃ cc, cc = escW q c 64 := ⟨_, rfl⟩
      obtain ⟨ww, hww⟩ : ∃ ww, ww = iv (word (escW q c)) := ⟨_, rfl⟩
      rw [← hcc, ← hww] at LD
      have HCC := Aside0.mk hcc
      have HWW := Aside0.mk hww
      clear hcc hww HX' WE
      have LDh := Aside0.mk LD
      clear LD
      have key : (∃ z, (iv (word q) == 0) = z ∧ (z = true → c = true)) := ⟨_, rfl, fun h => by
        cases c
        · simp [h] at hz
        · rfl⟩
      clear hz
      obtain ⟨z, hz0, hzc⟩ := key
      have HZC := Aside0.mk hzc
      clear hzc
      by_cases hfull : (s.size : Int) - 64 * ((x.val : Nat) : Int) < 64
      · have STEP := Aside0.mk (part_step s (foldE s pre) x.val HQ.out HC.out HX.out (by omega))
        rw [← HWW.out] at STEP
        cases z
        · gi_wp2_with (first
            | ((with_reducible refine gate_dstIn (N := 17) rfl ?_); refine ev_loadIn BX rfl 34 _ rfl rfl Try.underlying34 (size64' _) ?_)
            | (gi_at_call 10; refine (CallsIn.inRound l (callsIn_of HF (EQ _))).mono ?_; rintro e w8 ⟨rfl, hb8⟩; have HK8 := Aside0.mk hb8; have E8 := hI.bs.below hb8; have e1 := (E8.out _ PM.out.1).cell (i := 0) rfl; have d4 := b4.below hb8; have d3 := b3.below hb8; have e4 := d4.cell (i := 0) rfl; have e31 := d3.cell (i := 1) rfl; have hrow8 := row_below hrow hb8; have HB8 := HB.step hb8; clear hb8)
            | (gi_at_call 11; refine (CallsIn.inRound l (callsIn_of HF (LDh.out _))).mono ?_; rintro e w9 ⟨rfl, ⟨nd, rfl⟩⟩; have d4n := d4.drewN nd; have HB9 := HB8.drewN nd; have E9 := E8.drewN nd; have d3n := d3.drewN nd; have hrow9 := row_drewN hrow8 nd)
            | ((with_reducible refine gate_In (Op.store 4 (.tmp 4) (.tmp 35)) rfl ?_); refine ev_store1In (i := 0) HB9 d4n GE_g4 rfl 4 _ _ rfl rfl _ rfl (by simp) (by kernel_rfl) rfl ?_; intro w10 B10 HB10 K10 KO10; have E10 := E9.other K10 PL.out.2.2.2; have d310 := d3n.other K10 (Nat.ne_of_lt N34'); have hrow10 := row_other hrow9 d4n (by decide) K10; have e1 := (E10.out _ PM.out.1).cell (i := 0) rfl; have e31 := d310.cell (i := 1) rfl)
            | ((with_reducible refine gate_dstIn (N := 50) rfl ?_); refine ev_lit1In HB10 rfl rfl (.int .u64 (bits BinOp.and IntKind.u64 ww (IntKind.u64.wrap (IntKind.u64.wrap (2 ^ (s.size - 64 * x.val)) - 1)))) 35 ?hr ?_; (case hr => first | (go_simp; done) | (go_simp; rfl)); intro gl w11 G_gl B_gl HB11 K_gl KO11; have E11 := E10.below K_gl.out; have d311 := d310.below K_gl.out; have d411 := B10.below K_gl.out; have hrow11 := row_below hrow10 K_gl.out)
            | ((with_reducible refine gate_dstIn (N := 51) rfl ?_); refine ev_append1In HB11 rfl _ _ 22 35 (.int .u64 0) 8 rfl Try.underlying22 (by kernel_rfl) rfl (by decide) v pre.length _ rfl hrow11 gl (.int .u64 (bits BinOp.and IntKind.u64 ww (IntKind.u64.wrap (IntKind.u64.wrap (2 ^ (s.size - 64 * x.val)) - 1)))) rfl B_gl rfl HL.out ?_; intro v1 w12 hrow12 HB12 K12 KO12 FV1; obtain ⟨g', cap', rfl⟩ := FV1.out; have d312 := d311.appended (by decide) hrow11 K12; have d412 := d411.appended (by decide) hrow11 K12; have E12 := E11.appended PL.out.2.1 hrow11 K12)
            | ((with_reducible refine gate_In (Op.store 22 (.tmp 52) (.tmp 51)) rfl ?_); refine ev_store1In (i := 1) HB12 d312 GE_g3 rfl 22 _ _ rfl rfl _ rfl (by simp) (by kernel_rfl) rfl ?_; intro w13 B13 HB13 K13 KO13; have E13 := E12.other K13 PL.out.2.2.1; have d413 := d412.other K13 (Nat.ne_of_gt N34')))
          have hsz : W.heap.size ≤ w13.heap.size := Nat.le_trans HK8.out.size (Nat.le_trans K10.out.1 (Nat.le_trans K_gl.out.size (Nat.le_trans K12.out.1 K13.out.1)))
          refine ⟨(((((keepsOthers_below HK8.out).trans (keepsOthers_drewN _ nd)).trans KO10.out).trans KO11.out).trans (KO12.out.trans KO13.out)).from _, Keep2.of_blk (hI.bs.out _ PM.out.2.2.1) (hI.bs.out _ PM.out.2.2.2) (E13.out _ PM.out.2.2.1) (E13.out _ PM.out.2.2.2) hsz, E13, ?_, ⟨_, B13, ?_⟩, HB13, Nat.le_trans hI.sz hsz⟩
          · rw [foldE_snoc, STEP.out, ← HCC.out]
            exact d413
          · rw [foldE_snoc, STEP.out, List.length_append, List.map_append]
            exact row_other hrow12 d312 (by decide) K13
        · obtain rfl : c = true := HZC.out rfl
          gi_wp2_with (first
            | ((with_reducible refine gate_dstIn (N := 17) rfl ?_); refine ev_loadIn BX rfl 34 _ rfl rfl Try.underlying34 (size64' _) ?_)
            | (gi_at_call 10; refine (CallsIn.inRound l (callsIn_of HF (EQ _))).mono ?_; rintro e w8 ⟨rfl, hb8⟩; have HK8 := Aside0.mk hb8; have E8 := hI.bs.below hb8; have e1 := (E8.out _ PM.out.1).cell (i := 0) rfl; have d4 := b4.below hb8; have d3 := b3.below hb8; have e4 := d4.cell (i := 0) rfl; have e31 := d3.cell (i := 1) rfl; have hrow8 := row_below hrow hb8; have HB8 := HB.step hb8; clear hb8)
            | (gi_at_call 11; refine (CallsIn.inRound l (callsIn_of HF (LDh.out _))).mono ?_; rintro e w9 ⟨rfl, ⟨nd, rfl⟩⟩; have d4n := d4.drewN nd; have HB9 := HB8.drewN nd; have E9 := E8.drewN nd; have d3n := d3.drewN nd; have hrow9 := row_drewN hrow8 nd)
            | ((with_reducible refine gate_In (Op.store 4 (.tmp 4) (.tmp 35)) rfl ?_); refine ev_store1In (i := 0) HB9 d4n GE_g4 rfl 4 _ _ rfl rfl _ rfl (by simp) (by kernel_rfl) rfl ?_; intro w10 B10 HB10 K10 KO10; have E10 := E9.other K10 PL.out.2.2.2; have d310 := d3n.other K10 (Nat.ne_of_lt N34'); have hrow10 := row_other hrow9 d4n (by decide) K10; have e1 := (E10.out _ PM.out.1).cell (i := 0) rfl; have e31 := d310.cell (i := 1) rfl)
            | ((with_reducible refine gate_dstIn (N := 50) rfl ?_); refine ev_lit1In HB10 rfl rfl (.int .u64 (bits BinOp.and IntKind.u64 ww (IntKind.u64.wrap (IntKind.u64.wrap (2 ^ (s.size - 64 * x.val)) - 1)))) 35 ?hr ?_; (case hr => first | (go_simp; done) | (go_simp; rfl)); intro gl w11 G_gl B_gl HB11 K_gl KO11; have E11 := E10.below K_gl.out; have d311 := d310.below K_gl.out; have d411 := B10.below K_gl.out; have hrow11 := row_below hrow10 K_gl.out)
            | ((with_reducible refine gate_dstIn (N := 51) rfl ?_); refine ev_append1In HB11 rfl _ _ 22 35 (.int .u64 0) 8 rfl Try.underlying22 (by kernel_rfl) rfl (by decide) v pre.length _ rfl hrow11 gl (.int .u64 (bits BinOp.and IntKind.u64 ww (IntKind.u64.wrap (IntKind.u64.wrap (2 ^ (s.size - 64 * x.val)) - 1)))) rfl B_gl rfl HL.out ?_; intro v1 w12 hrow12 HB12 K12 KO12 FV1; obtain ⟨g', cap', rfl⟩ := FV1.out; have d312 := d311.appended (by decide) hrow11 K12; have d412 := d411.appended (by decide) hrow11 K12; have E12 := E11.appended PL.out.2.1 hrow11 K12)
            | ((with_reducible refine gate_In (Op.store 22 (.tmp 52) (.tmp 51)) rfl ?_); refine ev_store1In (i := 1) HB12 d312 GE_g3 rfl 22 _ _ rfl rfl _ rfl (by simp) (by kernel_rfl) rfl ?_; intro w13 B13 HB13 K13 KO13; have E13 := E12.other K13 PL.out.2.2.1; have d413 := d412.other K13 (Nat.ne_of_gt N34')))
          have hsz : W.heap.size ≤ w13.heap.size := Nat.le_trans HK8.out.size (Nat.le_trans K10.out.1 (Nat.le_trans K_gl.out.size (Nat.le_trans K12.out.1 K13.out.1)))
          refine ⟨(((((keepsOthers_below HK8.out).trans (keepsOthers_drewN _ nd)).trans KO10.out).trans KO11.out).trans (KO12.out.trans KO13.out)).from _, Keep2.of_blk (hI.bs.out _ PM.out.2.2.1) (hI.bs.out _ PM.out.2.2.2) (E13.out _ PM.out.2.2.1) (E13.out _ PM.out.2.2.2) hsz, E13, ?_, ⟨_, B13, ?_⟩, HB13, Nat.le_trans hI.sz hsz⟩
          · rw [foldE_snoc, STEP.out, ← HCC.out]
            exact d413
          · rw [foldE_snoc, STEP.out, List.length_append, List.map_append]
            exact row_other hrow12 d312 (by decide) K13
      · have STEP := Aside0.mk (full_step s (foldE s pre) x.val HQ.out HC.out (by omega))
        rw [← HWW.out] at STEP
        cases z
        · gi_wp2_with (first
            | ((with_reducible refine gate_dstIn (N := 17) rfl ?_); refine ev_loadIn BX rfl 34 _ rfl rfl Try.underlying34 (size64' _) ?_)
            | (gi_at_call 10; refine (CallsIn.inRound l (callsIn_of HF (EQ _))).mono ?_; rintro e w8 ⟨rfl, hb8⟩; have HK8 := Aside0.mk hb8; have E8 := hI.bs.below hb8; have e1 := (E8.out _ PM.out.1).cell (i := 0) rfl; have d4 := b4.below hb8; have d3 := b3.below hb8; have e4 := d4.cell (i := 0) rfl; have e31 := d3.cell (i := 1) rfl; have hrow8 := row_below hrow hb8; have HB8 := HB.step hb8; clear hb8)
            | (gi_at_call 11; refine (CallsIn.inRound l (callsIn_of HF (LDh.out _))).mono ?_; rintro e w9 ⟨rfl, ⟨nd, rfl⟩⟩; have d4n := d4.drewN nd; have HB9 := HB8.drewN nd; have E9 := E8.drewN nd; have d3n := d3.drewN nd; have hrow9 := row_drewN hrow8 nd)
            | ((with_reducible refine gate_In (Op.store 4 (.tmp 4) (.tmp 35)) rfl ?_); refine ev_store1In (i := 0) HB9 d4n GE_g4 rfl 4 _ _ rfl rfl _ rfl (by simp) (by kernel_rfl) rfl ?_; intro w10 B10 HB10 K10 KO10; have E10 := E9.other K10 PL.out.2.2.2; have d310 := d3n.other K10 (Nat.ne_of_lt N34'); have hrow10 := row_other hrow9 d4n (by decide) K10; have e1 := (E10.out _ PM.out.1).cell (i := 0) rfl; have e31 := d310.cell (i := 1) rfl)
            | ((with_reducible refine gate_dstIn (N := 50) rfl ?_); refine ev_lit1In HB10 rfl rfl (.int .u64 (ww)) 35 ?hr ?_; (case hr => first | (go_simp; done) | (go_simp; rfl)); intro gl w11 G_gl B_gl HB11 K_gl KO11; have E11 := E10.below K_gl.out; have d311 := d310.below K_gl.out; have d411 := B10.below K_gl.out; have hrow11 := row_below hrow10 K_gl.out)
            | ((with_reducible refine gate_dstIn (N := 51) rfl ?_); refine ev_append1In HB11 rfl _ _ 22 35 (.int .u64 0) 8 rfl Try.underlying22 (by kernel_rfl) rfl (by decide) v pre.length _ rfl hrow11 gl (.int .u64 (ww)) rfl B_gl rfl HL.out ?_; intro v1 w12 hrow12 HB12 K12 KO12 FV1; obtain ⟨g', cap', rfl⟩ := FV1.out; have d312 := d311.appended (by decide) hrow11 K12; have d412 := d411.appended (by decide) hrow11 K12; have E12 := E11.appended PL.out.2.1 hrow11 K12)
            | ((with_reducible refine gate_In (Op.store 22 (.tmp 52) (.tmp 51)) rfl ?_); refine ev_store1In (i := 1) HB12 d312 GE_g3 rfl 22 _ _ rfl rfl _ rfl (by simp) (by kernel_rfl) rfl ?_; intro w13 B13 HB13 K13 KO13; have E13 := E12.other K13 PL.out.2.2.1; have d413 := d412.other K13 (Nat.ne_of_gt N34')))
          have hsz : W.heap.size ≤ w13.heap.size := Nat.le_trans HK8.out.size (Nat.le_trans K10.out.1 (Nat.le_trans K_gl.out.size (Nat.le_trans K12.out.1 K13.out.1)))
          refine ⟨(((((keepsOthers_below HK8.out).trans (keepsOthers_drewN _ nd)).trans KO10.out).trans KO11.out).trans (KO12.out.trans KO13.out)).from _, Keep2.of_blk (hI.bs.out _ PM.out.2.2.1) (hI.bs.out _ PM.out.2.2.2) (E13.out _ PM.out.2.2.1) (E13.out _ PM.out.2.2.2) hsz, E13, ?_, ⟨_, B13, ?_⟩, HB13, Nat.le_trans hI.sz hsz⟩
          · rw [foldE_snoc, STEP.out, ← HCC.out]
            exact d413
          · rw [foldE_snoc, STEP.out, List.length_append, List.map_append]
            exact row_other hrow12 d312 (by decide) K13
        · obtain rfl : c = true := HZC.out rfl
          gi_wp2_with (first
            | ((with_reducible refine gate_dstIn (N := 17) rfl ?_); refine ev_loadIn BX rfl 34 _ rfl rfl Try.underlying34 (size64' _) ?_)
            | (gi_at_call 10; refine (CallsIn.inRound l (callsIn_of HF (EQ _))).mono ?_; rintro e w8 ⟨rfl, hb8⟩; have HK8 := Aside0.mk hb8; have E8 := hI.bs.below hb8; have e1 := (E8.out _ PM.out.1).cell (i := 0) rfl; have d4 := b4.below hb8; have d3 := b3.below hb8; have e4 := d4.cell (i := 0) rfl; have e31 := d3.cell (i := 1) rfl; have hrow8 := row_below hrow hb8; have HB8 := HB.step hb8; clear hb8)
            | (gi_at_call 11; refine (CallsIn.inRound l (callsIn_of HF (LDh.out _))).mono ?_; rintro e w9 ⟨rfl, ⟨nd, rfl⟩⟩; have d4n := d4.drewN nd; have HB9 := HB8.drewN nd; have E9 := E8.drewN nd; have d3n := d3.drewN nd; have hrow9 := row_drewN hrow8 nd)
            | ((with_reducible refine gate_In (Op.store 4 (.tmp 4) (.tmp 35)) rfl ?_); refine ev_store1In (i := 0) HB9 d4n GE_g4 rfl 4 _ _ rfl rfl _ rfl (by simp) (by kernel_rfl) rfl ?_; intro w10 B10 HB10 K10 KO10; have E10 := E9.other K10 PL.out.2.2.2; have d310 := d3n.other K10 (Nat.ne_of_lt N34'); have hrow10 := row_other hrow9 d4n (by decide) K10; have e1 := (E10.out _ PM.out.1).cell (i := 0) rfl; have e31 := d310.cell (i := 1) rfl)
            | ((with_reducible refine gate_dstIn (N := 50) rfl ?_); refine ev_lit1In HB10 rfl rfl (.int .u64 (ww)) 35 ?hr ?_; (case hr => first | (go_simp; done) | (go_simp; rfl)); intro gl w11 G_gl B_gl HB11 K_gl KO11; have E11 := E10.below K_gl.out; have d311 := d310.below K_gl.out; have d411 := B10.below K_gl.out; have hrow11 := row_below hrow10 K_gl.out)
            | ((with_reducible refine gate_dstIn (N := 51) rfl ?_); refine ev_append1In HB11 rfl _ _ 22 35 (.int .u64 0) 8 rfl Try.underlying22 (by kernel_rfl) rfl (by decide) v pre.length _ rfl hrow11 gl (.int .u64 (ww)) rfl B_gl rfl HL.out ?_; intro v1 w12 hrow12 HB12 K12 KO12 FV1; obtain ⟨g', cap', rfl⟩ := FV1.out; have d312 := d311.appended (by decide) hrow11 K12; have d412 := d411.appended (by decide) hrow11 K12; have E12 := E11.appended PL.out.2.1 hrow11 K12)
            | ((with_reducible refine gate_In (Op.store 22 (.tmp 52) (.tmp 51)) rfl ?_); refine ev_store1In (i := 1) HB12 d312 GE_g3 rfl 22 _ _ rfl rfl _ rfl (by simp) (by kernel_rfl) rfl ?_; intro w13 B13 HB13 K13 KO13; have E13 := E12.other K13 PL.out.2.2.1; have d413 := d412.other K13 (Nat.ne_of_gt N34')))
          have hsz : W.heap.size ≤ w13.heap.size := Nat.le_trans HK8.out.size (Nat.le_trans K10.out.1 (Nat.le_trans K_gl.out.size (Nat.le_trans K12.out.1 K13.out.1)))
          refine ⟨(((((keepsOthers_below HK8.out).trans (keepsOthers_drewN _ nd)).trans KO10.out).trans KO11.out).trans (KO12.out.trans KO13.out)).from _, Keep2.of_blk (hI.bs.out _ PM.out.2.2.1) (hI.bs.out _ PM.out.2.2.2) (E13.out _ PM.out.2.2.1) (E13.out _ PM.out.2.2.2) hsz, E13, ?_, ⟨_, B13, ?_⟩, HB13, Nat.le_trans hI.sz hsz⟩
          · rw [foldE_snoc, STEP.out, ← HCC.out]
            exact d413
          · rw [foldE_snoc, STEP.out, List.length_append, List.map_append]
            exact row_other hrow12 d312 (by decide) K13
  case done =>
    rintro D ys W hD rfl hI hK
    obtain ⟨v, b3, hrow⟩ := hI.row
    have b2 := hI.bs.out _ PM.out.2.1
    have HB := hI.hb
    have V1 := Aside0.mk (row_one hrow)
    have HD := Aside0.mk hD
    have HKD := Aside0.mk hK
    clear hK hD
    gi_wp2_with (first
      | ((with_reducible refine gate_dstIn (N := 53) rfl ?_); refine ev_loadSIn b3 rfl 24 _ rfl rfl Try.underlying24 rfl (by kernel_rfl) ?_)
      | ((with_reducible refine gate_In (Op.store 24 (.tmp 2) (.tmp 53)) rfl ?_); refine ev_storeIn HB b2 GE_g2 rfl 24 _ _ rfl rfl rfl (by kernel_rfl) rfl (by simp [Value.oneCell']; exact V1.out) ?_; intro w8 B8 HB8 K8 KO8))
    have HK8 := KO8.out.same D _ HKD.out rfl
    have hrow8 := row_other hrow b2 (by decide) K8
    have hg := grownBy_putObj' w8 D (.deferred none)
    have hr : ∀ r, some D = some r → ∃ o : Obj, w8.heap[r]? = some o ∧ o.isCells = false := fun r e => by
      cases e
      exact ⟨_, HK8, rfl⟩
    have hle : w.heap.size ≤ D := Nat.le_trans HBW.le HD.out
    refine ⟨by simp, .inl ⟨_, _, rfl, run_takeDeferred HK8, ?_⟩⟩
    refine ⟨_, results_cell_row rfl _ _ g2 24 _ (0, 0) _ rfl (B8.kept hg hr).out Try.underlying24 rfl (by kernel_rfl), v, rfl, ?_, (HB8.kept hg hle (fun r e => by cases e; exact Nat.le_refl _)).out⟩
    have h1 := row_kept hrow8 hg hr
    rw [foldE_all, List.length_finRange] at h1
    exact h1
  case stop =>
    rintro D c pre W _ _ h _
    exact h.elim
theorem escape_Escaped.calls (a0 : ByteArray) (r1 : Int) (r2 : List Int) (w : World) (h : escape_Escaped.f a0 = some (r1, r2)) :
    Calls Try.prog 4 #[.string a0] w fun e w' => ∃ v1_ : Value, e = .returned (.agg #[.int .i64 r1, v1_]) ∧ Kd.R (Kd.int .u64) 35 w' w.heap.size (fun _ => True) v1_ r2 ∧ Below w.heap.size w w' := by
  unfold escape_Escaped.f at h
  by_cases hs : a0.size ≤ 281474976702464
  case neg => rw [if_neg hs] at h; cases h
  rw [if_pos hs] at h
  simp only [Option.some.injEq, Prod.mk.injEq] at h
  obtain ⟨rfl, rfl⟩ := h
  refine (escape_Escaped.walk a0 w hs).mono ?_
  rintro e w' ⟨v, rfl, hrow, hb⟩
  refine ⟨v, rfl, Kd.R_of_own ?_ (fun _ _ => trivial), hb⟩
  rw [wordsOf_length]
  exact hrow
end


/-! ### quarryref06_Is: function 12 -/
def quarryref06_Is.l0 : Nat → ByteArray → List Bool → Int → Option (List Bool)
  | 0, _, _, _ => none
  | k + 1, x0, x5, x6 => if x6 < (x0.size : Int) then (if 0 ≤ x6 then (if (bt x0 x6) = 92 then (if x6 < (x5.length : Int) then (if x5.length < 140737488355328 then (quarryref06_Is.l0 k x0 (x5 ++ [!(rdOf false x5 x6)]) (wrap64 (x6 + 1))) else (none)) else (none)) else (if x5.length < 140737488355328 then (quarryref06_Is.l0 k x0 (x5 ++ [false]) (wrap64 (x6 + 1))) else (none))) else (none)) else (some x5)
def quarryref06_Is.f (k : Nat) (a0 : ByteArray) (a1 : Bool) : Option (List Bool) := quarryref06_Is.l0 k a0 (([a1] : List Bool)) 0
theorem quarryref06_Is.mono_l : ∀ k, (∀ y0 y1 y2, LeO (quarryref06_Is.l0 k y0 y1 y2) (quarryref06_Is.l0 (k + 1) y0 y1 y2))
  | 0 => fun _ _ _ r h => by simp [quarryref06_Is.l0] at h
  | k + 1 => by
    have ih0 := quarryref06_Is.mono_l k
    · intro y0 y1 y2
      unfold quarryref06_Is.l0
      repeat' first
      | (with_reducible exact ih0 _ _ _)
      | (with_reducible exact LeO.refl _)
      | (with_reducible exact LeO.none _)
      | (with_reducible refine LeO.ite ?_ ?_)
      | (with_reducible refine LeO.bind ?_ (fun _ => ?_))
      | exact ih0 _ _ _
      | exact LeO.none _
      | refine LeO.ite ?_ ?_
      | refine LeO.bind ?_ (fun _ => ?_)
theorem quarryref06_Is.mono : ∀ a0 a1 k, LeO (quarryref06_Is.f k a0 a1) (quarryref06_Is.f (k + 1) a0 a1) := by
  intro a0 a1 k
  have ih0 := quarryref06_Is.mono_l k
  unfold quarryref06_Is.f
  repeat' first
      | (with_reducible exact ih0 _ _ _)
      | (with_reducible exact LeO.refl _)
      | (with_reducible exact LeO.none _)
      | (with_reducible refine LeO.ite ?_ ?_)
      | (with_reducible refine LeO.bind ?_ (fun _ => ?_))
      | exact ih0 _ _ _
      | exact LeO.none _
      | refine LeO.ite ?_ ?_
      | refine LeO.bind ?_ (fun _ => ?_)
set_option maxHeartbeats 8000000 in
set_option maxRecDepth 100000 in
theorem quarryref06_Is.calls (k : Nat) (a0 : ByteArray) (a1 : Bool) (r : List Bool) (w : World) (h : quarryref06_Is.f k a0 a1 = some r) :
    Calls Try.prog 12 #[.string a0, .bool a1] w fun e w' => ∃ v0_ : Value, e = .returned (v0_) ∧ Kd.R Kd.bool 4 w' w.heap.size (fun _ => True) v0_ r ∧ Below w.heap.size w w' := by
  have HB := Aside0.mk (Below.refl w.heap.size w)
  have H : (quarryref06_Is.l0 k a0 (([a1] : List Bool)) 0) = some r := h
  clear h
  obtain ⟨y101, hy101⟩ : ∃ y_ : List Bool, y_ = (([a1] : List Bool)) := ⟨_, rfl⟩
  replace H : (quarryref06_Is.l0 k a0 y101 0) = some r := by first | (rw [hy101]; with_reducible exact H) | (have H2_ := (Option.bind_some _ _).symm.trans H; rw [hy101]; with_reducible exact H2_) | (have H2_ := (Option.bind_some _ _).symm.trans H; with_reducible exact H2_) | with_reducible exact H | (rw [hy101]; exact H) | exact H
  have Ny101 := Aside0.mk hy101
  clear hy101
  have H' := Aside0.mk H
  clear H
  go_enter Try.func12, Try.ntmps12
  go_wp2_with (first | ((with_reducible refine gate_dst (N := 9) rfl ?_); refine Kd.R_lit Kd.bool _ 4 ?hg (N := 9) ?hd (xs := ([a1] : List Bool)) (inner := [.bool a1]) (ok := fun _ => True) (okp := fun _ => True) ?hr ?hp (fun _ hk => hk) trivial (Below.refl _ _) (Nat.le_refl _) (by simp) ?_; (case hd => rfl); (case hg => rfl); (case hr => first | (go_simp; done) | (go_simp; rfl)); (case hp => exact (Reps.one (show Kd.M Kd.bool _ _ _ a1 [.bool a1] from rfl) (Reps.none _ _))); intro v102 w3 ho4 hb hg_ hnew_; clear hg_ hnew_; (first | rw [← Ny101.out] at ho4 | (simp only [Int.reduceToNat] at ho4; rw [← Ny101.out] at ho4)); have n0_ := Aside0.mk (Kd.R_lower ho4 (below_size (by repeat (first | (with_reducible first | exact HB.out | apply below_alloc | apply pw_below_drewN | apply below_drew1) | exact HB.out)))); have n1_ := Aside0.mk (below_step (by repeat (first | (with_reducible first | exact HB.out | apply below_alloc | apply pw_below_drewN | apply below_drew1) | exact HB.out)) hb); clear HB; have HO103 := n0_; have HB := n1_; clear n0_ n1_; clear hb ho4))
  go_loopg [5, 6] k (fun kq v5 v6 w' => ∃ (x5_1 : List Bool) (x6_1 : Int), v6 = .int .i64 x6_1 ∧ Aside0 (quarryref06_Is.l0 kq a0 x5_1 x6_1 = some r) ∧ Aside0 (kq ≤ k) ∧ Aside0 (Kd.R Kd.bool 4 w' w.heap.size (fun _ => True) v5 x5_1) ∧ Aside0 (Below w.heap.size w w'))
  case atStart => exact ⟨(y101), (0), (by first | rfl | (simp; done) | (simp [*]; done)), H', ⟨Nat.le_refl _⟩, ⟨by (with_reducible repeat (first | apply Kd.R_alloc | apply Kd.R_drewN | apply Kd.R_drew)); exact HO103.out⟩, ⟨by repeat (first | (with_reducible first | exact HB.out | apply below_alloc | apply pw_below_drewN | apply below_drew1) | exact HB.out)⟩⟩
  case round =>
    clear H'
    try clear c1
    try clear p2
    obtain ⟨x5_1, x6_1, rfl, HA, HK1, HO_5, HB⟩ := hrel
    cases gk with
    | zero => exact absurd HA.out (by simp [quarryref06_Is.l0])
    | succ k1 =>
      have H := HA.out
      clear HA
      simp only [quarryref06_Is.l0] at H
      by_cases c5 : x6_1 < (a0.size : Int)
      · rw [if_pos c5] at H
        have c5b0 : decide (x6_1 < (a0.size : Int)) = true := decide_eq_true c5
        clear c5
        by_cases c6 : 0 ≤ x6_1
        · rw [if_pos c6] at H
          have c6b0 : decide (0 ≤ x6_1) = true := decide_eq_true c6
          clear c6
          by_cases c8 : (bt a0 x6_1) = 92
          · rw [if_pos c8] at H
            have c8b0 : ((bt a0 x6_1) == 92) = true := beq_iff_eq.mpr c8
            have c8b1 : ((bt a0 x6_1) != 92) = false := bne_eq_false_iff_eq.mpr c8
            clear c8
            by_cases c9 : x6_1 < (x5_1.length : Int)
            · rw [if_pos c9] at H
              have c9b0 : decide (x6_1 < (x5_1.length : Int)) = true := decide_eq_true c9
              clear c9
              by_cases c10 : x5_1.length < 140737488355328
              · rw [if_pos c10] at H
                have LMc10 := Aside0.mk c10
                clear c10
                obtain ⟨y105, hy105⟩ : ∃ y_ : List Bool, y_ = (x5_1 ++ [!(rdOf false x5_1 x6_1)]) := ⟨_, rfl⟩
                replace H : (quarryref06_Is.l0 k1 a0 y105 (wrap64 (x6_1 + 1))) = some r := by first | (rw [hy105]; with_reducible exact H) | (have H2_ := (Option.bind_some _ _).symm.trans H; rw [hy105]; with_reducible exact H2_) | (have H2_ := (Option.bind_some _ _).symm.trans H; with_reducible exact H2_) | with_reducible exact H | (rw [hy105]; exact H) | exact H
                have Ny105 := Aside0.mk hy105
                clear hy105
                have H' := Aside0.mk H
                clear H
                have p7 : 0 ≤ (x6_1 : Int) := of_decide_eq_true (by first | (with_reducible assumption) | assumption)
                have q7 : x6_1 < (a0.size : Int) := of_decide_eq_true (by first | (with_reducible assumption) | assumption)
                have hx7 := bt_at a0 x6_1
                replace p7 := eq_true p7
                replace q7 := eq_true q7
                obtain ⟨Ao11, co11, eo11⟩ := Kd.R_slice HO_5.out
                subst eo11
                have p104 : 0 ≤ (x6_1 : Int) := of_decide_eq_true (by first | (with_reducible assumption) | assumption)
                have q104 : x6_1 < (x5_1.length : Int) := of_decide_eq_true (by first | (with_reducible assumption) | assumption)
                obtain ⟨ad104, e104, hx104_0⟩ := Kd.at_bool (Kd.R_reads' HO_5.out).2.2 x6_1 p104 q104
                cases e104
                replace p104 := eq_true p104
                replace q104 := eq_true q104
                go_wp2_with (first | ((with_reducible refine gate_builtin (b := .append) (xs := #[.tmp 27, .tmp 29]) rfl ?_); at_builtin; refine Kd.R_append Kd.bool (w0 := w) w.heap.size rfl (.tmp 27) (.tmp 29) 39 4 (.bool false) 1 rfl Try.underlying39 info4 rfl (by decide) (by omega) (.slice (some ad104) x5_1.length co11) x5_1 (!(rdOf false x5_1 x6_1)) [.bool (!(rdOf false x5_1 x6_1))] (fun _ => True) (fun _ => False) rfl rfl ?aP (fun _ hk => hk.elim) ?aF ?aO ?aB ?aS ?aL ?_; (case aP => exact rfl); (case aB => exact (by repeat (first | (with_reducible first | exact HB.out | apply below_alloc | apply pw_below_drewN | apply below_drew1) | exact HB.out))); (case aF => exact (fun _ _ => trivial)); (case aO => exact (by (with_reducible repeat (first | apply Kd.R_alloc | apply Kd.R_drewN | apply Kd.R_drew)); exact HO_5.out)); (case aS => exact (below_size (by repeat (first | (with_reducible first | exact HB.out | apply below_alloc | apply pw_below_drewN | apply below_drew1) | exact HB.out)))); (case aL => have := LMc10.out; omega); intro v106 w12 ho hb hg hat; rw [← Ny105.out] at ho; have n0_ := Aside0.mk (hb); have n1_ := Aside0.mk (ho); clear HB; clear HO_5; have HB := n0_; have HO107 := n1_; clear n0_ n1_; clear ho hb hg hat))
                go_roundg k1
                case measure => have := HK1.out; omega
                case rel => exact ⟨(y105), (wrap64 (x6_1 + 1)), (by first | rfl | (simp; done) | (simp [*]; done)), H', ⟨by have := HK1.out; omega⟩, ⟨by (with_reducible repeat (first | apply Kd.R_alloc | apply Kd.R_drewN | apply Kd.R_drew)); exact HO107.out⟩, ⟨by repeat (first | (with_reducible first | exact HB.out | apply below_alloc | apply pw_below_drewN | apply below_drew1) | exact HB.out)⟩⟩
              · rw [if_neg c10] at H
                exact absurd H (by simp)
            · rw [if_neg c9] at H
              exact absurd H (by simp)
          · rw [if_neg c8] at H
            have c8b0 : ((bt a0 x6_1) == 92) = false := beq_eq_false_iff_ne.mpr c8
            have c8b1 : ((bt a0 x6_1) != 92) = true := bne_iff_ne.mpr c8
            by_cases c13 : x5_1.length < 140737488355328
            · rw [if_pos c13] at H
              have LMc13 := Aside0.mk c13
              clear c13
              obtain ⟨y108, hy108⟩ : ∃ y_ : List Bool, y_ = (x5_1 ++ [false]) := ⟨_, rfl⟩
              replace H : (quarryref06_Is.l0 k1 a0 y108 (wrap64 (x6_1 + 1))) = some r := by first | (rw [hy108]; with_reducible exact H) | (have H2_ := (Option.bind_some _ _).symm.trans H; rw [hy108]; with_reducible exact H2_) | (have H2_ := (Option.bind_some _ _).symm.trans H; with_reducible exact H2_) | with_reducible exact H | (rw [hy108]; exact H) | exact H
              have Ny108 := Aside0.mk hy108
              clear hy108
              have H' := Aside0.mk H
              clear H
              have p7 : 0 ≤ (x6_1 : Int) := of_decide_eq_true (by first | (with_reducible assumption) | assumption)
              have q7 : x6_1 < (a0.size : Int) := of_decide_eq_true (by first | (with_reducible assumption) | assumption)
              have hx7 := bt_at a0 x6_1
              replace p7 := eq_true p7
              replace q7 := eq_true q7
              go_wp2_with (first | ((with_reducible refine gate_builtin (b := .append) (xs := #[.tmp 27, .tmp 29]) rfl ?_); at_builtin; refine Kd.R_append Kd.bool (w0 := w) w.heap.size rfl (.tmp 27) (.tmp 29) 39 4 (.bool false) 1 rfl Try.underlying39 info4 rfl (by decide) (by omega) u5 x5_1 false [.bool false] (fun _ => True) (fun _ => False) rfl rfl ?aP (fun _ hk => hk.elim) ?aF ?aO ?aB ?aS ?aL ?_; (case aP => exact rfl); (case aB => exact (by repeat (first | (with_reducible first | exact HB.out | apply below_alloc | apply pw_below_drewN | apply below_drew1) | exact HB.out))); (case aF => exact (fun _ _ => trivial)); (case aO => exact (by (with_reducible repeat (first | apply Kd.R_alloc | apply Kd.R_drewN | apply Kd.R_drew)); exact HO_5.out)); (case aS => exact (below_size (by repeat (first | (with_reducible first | exact HB.out | apply below_alloc | apply pw_below_drewN | apply below_drew1) | exact HB.out)))); (case aL => have := LMc13.out; omega); intro v109 w14 ho hb hg hat; rw [← Ny108.out] at ho; have n0_ := Aside0.mk (hb); have n1_ := Aside0.mk (ho); clear HB; clear HO_5; have HB := n0_; have HO110 := n1_; clear n0_ n1_; clear ho hb hg hat))
              go_roundg k1
              case measure => have := HK1.out; omega
              case rel => exact ⟨(y108), (wrap64 (x6_1 + 1)), (by first | rfl | (simp; done) | (simp [*]; done)), H', ⟨by have := HK1.out; omega⟩, ⟨by (with_reducible repeat (first | apply Kd.R_alloc | apply Kd.R_drewN | apply Kd.R_drew)); exact HO110.out⟩, ⟨by repeat (first | (with_reducible first | exact HB.out | apply below_alloc | apply pw_below_drewN | apply below_drew1) | exact HB.out)⟩⟩
            · rw [if_neg c13] at H
              exact absurd H (by simp)
        · rw [if_neg c6] at H
          exact absurd H (by simp)
      · rw [if_neg c5] at H
        have c5b0 : decide (x6_1 < (a0.size : Int)) = false := decide_eq_false c5
        clear c5
        obtain rfl := Option.some.inj H
        go_wp2
        go_ret
        exact ⟨_, by first | rfl | (simp [errW_none, errW_some] <;> rfl) | (simp [*, errW_none, errW_some] <;> rfl), by (with_reducible repeat (first | apply Kd.R_alloc | apply Kd.R_drewN | apply Kd.R_drew)); exact HO_5.out, by repeat (first | (with_reducible first | exact HB.out | apply below_alloc | apply pw_below_drewN | apply below_drew1) | exact HB.out)⟩

/-! ### quarryref04_need: function 20 -/
def quarryref04_need.f (a0 : Int) : Option (Int) := if (Int.tmod a0 64) = 0 then (some (wrap64 (Int.tdiv a0 64))) else (some (wrap64 ((wrap64 (Int.tdiv a0 64)) + 1)))
set_option maxHeartbeats 8000000 in
set_option maxRecDepth 100000 in
theorem quarryref04_need.calls (a0 : Int) (r : Int) (w : World) (h : quarryref04_need.f a0 = some r) :
    Calls Try.prog 20 #[.int .i64 a0] w fun e w' => e = .returned (.int .i64 r) ∧ Drawn0 w w' := by
  have H : (if (Int.tmod a0 64) = 0 then (some (wrap64 (Int.tdiv a0 64))) else (some (wrap64 ((wrap64 (Int.tdiv a0 64)) + 1)))) = some r := h
  clear h
  by_cases c2 : (Int.tmod a0 64) = 0
  · rw [if_pos c2] at H
    have c2b0 : ((Int.tmod a0 64) == 0) = true := beq_iff_eq.mpr c2
    have c2b1 : ((Int.tmod a0 64) != 0) = false := bne_eq_false_iff_eq.mpr c2
    clear c2
    obtain rfl := Option.some.inj H
    go_enter Try.func20, Try.ntmps20
    go_wp2
    go_ret
    exact ⟨by first | rfl | (simp; done) | (simp [*]; done), by repeat (first | exact Drawn0.refl _ | apply Drawn0.step)⟩
  · rw [if_neg c2] at H
    have c2b0 : ((Int.tmod a0 64) == 0) = false := beq_eq_false_iff_ne.mpr c2
    have c2b1 : ((Int.tmod a0 64) != 0) = true := bne_iff_ne.mpr c2
    obtain rfl := Option.some.inj H
    go_enter Try.func20, Try.ntmps20
    go_wp2
    go_ret
    exact ⟨by first | rfl | (simp; done) | (simp [*]; done), by repeat (first | exact Drawn0.refl _ | apply Drawn0.step)⟩

/-! ### quarryref04_Of: function 13 -/
mutual
def quarryref04_Of.l0 : Nat → List Bool → Int → Int → List Int → Option (Int × List Int)
  | 0, _, _, _, _ => none
  | k + 1, x0, x4, x113000, x113001 => (quarryref04_need.f (x0.length : Int)).bind fun t113 => (if x4 < t113 then (quarryref04_Of.l1 k x0 x4 0 63 x113000 x113001) else (some (x113000, x113001)))
def quarryref04_Of.l1 : Nat → List Bool → Int → Int → Int → Int → List Int → Option (Int × List Int)
  | 0, _, _, _, _, _, _ => none
  | k + 1, x0, x4, x5, x6, x113000, x113001 => if x6 ≥ 0 then (if (wrap64 ((wrap64 (64 * x4)) + x6)) < (x0.length : Int) then (if 0 ≤ (wrap64 ((wrap64 (64 * x4)) + x6)) then (if rdOf false x0 (wrap64 ((wrap64 (64 * x4)) + x6)) = true then (quarryref04_Of.l1 k x0 x4 (IntKind.u64.wrap ((IntKind.u64.wrap (2 * x5)) + 1)) (wrap64 (x6 - 1)) x113000 x113001) else (quarryref04_Of.l1 k x0 x4 (IntKind.u64.wrap (2 * x5)) (wrap64 (x6 - 1)) x113000 x113001)) else (none)) else (quarryref04_Of.l1 k x0 x4 (IntKind.u64.wrap (2 * x5)) (wrap64 (x6 - 1)) x113000 x113001)) else (if x113001.length < 17592186044416 then (quarryref04_Of.l0 k x0 (wrap64 (x4 + 1)) x113000 (x113001 ++ [x5])) else (none))
end
def quarryref04_Of.f (k : Nat) (l0 : List Bool) : Option (Int × List Int) := quarryref04_Of.l0 k l0 0 (l0.length : Int) ([] : List Int)
theorem quarryref04_Of.mono_l : ∀ k, (∀ y0 y1 y2 y3, LeO (quarryref04_Of.l0 k y0 y1 y2 y3) (quarryref04_Of.l0 (k + 1) y0 y1 y2 y3)) ∧ (∀ y0 y1 y2 y3 y4 y5, LeO (quarryref04_Of.l1 k y0 y1 y2 y3 y4 y5) (quarryref04_Of.l1 (k + 1) y0 y1 y2 y3 y4 y5))
  | 0 => ⟨fun _ _ _ _ r h => by simp [quarryref04_Of.l0] at h, fun _ _ _ _ _ _ r h => by simp [quarryref04_Of.l1] at h⟩
  | k + 1 => by
    obtain ⟨ih0, ih1⟩ := quarryref04_Of.mono_l k
    refine ⟨?_, ?_⟩
    · intro y0 y1 y2 y3
      unfold quarryref04_Of.l0
      repeat' first
      | (with_reducible exact ih0 _ _ _ _)
      | (with_reducible exact ih1 _ _ _ _ _ _)
      | (with_reducible exact LeO.refl _)
      | (with_reducible exact LeO.none _)
      | (with_reducible refine LeO.ite ?_ ?_)
      | (with_reducible refine LeO.bind ?_ (fun _ => ?_))
      | exact ih0 _ _ _ _
      | exact ih1 _ _ _ _ _ _
      | exact LeO.none _
      | refine LeO.ite ?_ ?_
      | refine LeO.bind ?_ (fun _ => ?_)
    · intro y0 y1 y2 y3 y4 y5
      unfold quarryref04_Of.l1
      repeat' first
      | (with_reducible exact ih0 _ _ _ _)
      | (with_reducible exact ih1 _ _ _ _ _ _)
      | (with_reducible exact LeO.refl _)
      | (with_reducible exact LeO.none _)
      | (with_reducible refine LeO.ite ?_ ?_)
      | (with_reducible refine LeO.bind ?_ (fun _ => ?_))
      | exact ih0 _ _ _ _
      | exact ih1 _ _ _ _ _ _
      | exact LeO.none _
      | refine LeO.ite ?_ ?_
      | refine LeO.bind ?_ (fun _ => ?_)
theorem quarryref04_Of.mono : ∀ a0 k, LeO (quarryref04_Of.f k a0) (quarryref04_Of.f (k + 1) a0) := by
  intro a0 k
  obtain ⟨ih0, ih1⟩ := quarryref04_Of.mono_l k
  unfold quarryref04_Of.f
  repeat' first
      | (with_reducible exact ih0 _ _ _ _)
      | (with_reducible exact ih1 _ _ _ _ _ _)
      | (with_reducible exact LeO.refl _)
      | (with_reducible exact LeO.none _)
      | (with_reducible refine LeO.ite ?_ ?_)
      | (with_reducible refine LeO.bind ?_ (fun _ => ?_))
      | exact ih0 _ _ _ _
      | exact ih1 _ _ _ _ _ _
      | exact LeO.none _
      | refine LeO.ite ?_ ?_
      | refine LeO.bind ?_ (fun _ => ?_)
set_option maxHeartbeats 8000000 in
set_option maxRecDepth 100000 in
theorem quarryref04_Of.calls (k : Nat) (A0 : Option Addr) (c0 : Nat) (l0 : List Bool) (r1 : Int) (r2 : List Int) (w : World) (hr0 : Kd.C Kd.bool w A0 l0.length l0) (hc0 : l0.length ≤ c0) (h : quarryref04_Of.f k l0 = some (r1, r2)) :
    Calls Try.prog 13 #[.slice A0 l0.length c0] w fun e w' => ∃ v1_ : Value, e = .returned (.agg #[.int .i64 r1, v1_]) ∧ Kd.R (Kd.int .u64) 35 w' w.heap.size (fun _ => True) v1_ r2 ∧ Below w.heap.size w w' := by
  have hu24 := Try.underlying24
  have HR0 := Aside0.mk hr0
  have HC0 := Aside0.mk hc0
  clear hr0 hc0
  have HB := Aside0.mk (Below.refl w.heap.size w)
  have H : (quarryref04_Of.l0 k l0 0 (l0.length : Int) ([] : List Int)) = some (r1, r2) := h
  clear h
  have H' := Aside0.mk H
  clear H
  go_enter Try.func13, Try.ntmps13
  go_wp2_with (first | ((with_reducible refine gate_dst (N := 2) rfl ?_); refine box_event ?hg (N := 2) ?hd (cs := #[.int .i64 0, .slice none 0 0]) (t := 24) ?hr ?_; (case hd => rfl); (case hg => rfl); (case hr => first | (go_simp; done) | (go_simp; rfl)); intro gb111 hg w2 hbox hb; have n0_ := Aside0.mk (below_step (by repeat (first | (with_reducible first | exact HB.out | apply below_alloc | apply pw_below_drewN | apply below_drew1) | exact HB.out)) hb); have n1_ := Aside0.mk (hbox); have n2_ := Aside0.mk ((by rw [hg]; exact (below_size (by repeat (first | (with_reducible first | exact HB.out | apply below_alloc | apply pw_below_drewN | apply below_drew1) | exact HB.out))) : w.heap.size ≤ gb111)); have n3_ := Aside0.mk ((by rw [hg]; exact (below_size (by repeat (first | (with_reducible first | exact HB.out | apply below_alloc | apply pw_below_drewN | apply below_drew1) | exact HB.out))) : w.heap.size ≤ gb111)); clear HB; have HB := n0_; have BK111 := n1_; have GW111 := n2_; have GE111 := n3_; clear n0_ n1_ n2_ n3_; clear hb hbox hg) | ((with_reducible refine gate_dst (N := 3) rfl ?_); refine box_event ?hg (N := 3) ?hd (cs := #[.int .i64 0, .slice none 0 0]) (t := 24) ?hr ?_; (case hd => rfl); (case hg => rfl); (case hr => first | (go_simp; done) | (go_simp; rfl)); intro gb112 hg w3 hbox hb; have n0_ := Aside0.mk (blk_below (g := gb111) (o := .cells #[.int .i64 0, .slice none 0 0] 24 (0, 0)) (by (with_reducible repeat (first | refine blk_drewN ?_ _ | refine blk_drew ?_ | refine blk_alloc ?_ _)); exact BK111.out) hb); have n1_ := Aside0.mk (below_step (by repeat (first | (with_reducible first | exact HB.out | apply below_alloc | apply pw_below_drewN | apply below_drew1 | refine below_set ?_ GE111.out) | exact HB.out)) hb); have n2_ := Aside0.mk (hbox); have n3_ := Aside0.mk ((by rw [hg]; exact (below_size (by repeat (first | (with_reducible first | exact HB.out | apply below_alloc | apply pw_below_drewN | apply below_drew1 | refine below_set ?_ GE111.out) | exact HB.out))) : w.heap.size ≤ gb112)); have n4_ := Aside0.mk ((by rw [hg]; exact (below_size (by repeat (first | (with_reducible first | exact HB.out | apply below_alloc | apply pw_below_drewN | apply below_drew1 | refine below_set ?_ GE111.out) | exact HB.out))) : w.heap.size ≤ gb112)); have n5_ := Aside0.mk ((by rw [hg]; exact Nat.ne_of_lt (blk_lt (g := gb111) (o := .cells #[.int .i64 0, .slice none 0 0] 24 (0, 0)) (by (with_reducible repeat (first | refine blk_drewN ?_ _ | refine blk_drew ?_ | refine blk_alloc ?_ _)); exact BK111.out)) : gb111 ≠ gb112)); have n6_ := Aside0.mk ((by rw [hg]; exact Nat.ne_of_gt (blk_lt (g := gb111) (o := .cells #[.int .i64 0, .slice none 0 0] 24 (0, 0)) (by (with_reducible repeat (first | refine blk_drewN ?_ _ | refine blk_drew ?_ | refine blk_alloc ?_ _)); exact BK111.out)) : gb112 ≠ gb111)); clear BK111; clear HB; have BK111 := n0_; have HB := n1_; have BK112 := n2_; have GW112 := n3_; have GE112 := n4_; have NB111_112 := n5_; have NB112_111 := n6_; clear n0_ n1_ n2_ n3_ n4_ n5_ n6_; clear hb hbox hg; have hnb4 := NB112_111.out; have hnc4 := NB111_112.out; have hcz5_0 : w3.cell? ⟨gb112, 0, none⟩ = some (.int .i64 0) := (blk_cell BK112.out 0).trans rfl; have hcz5_1 : w3.cell? ⟨gb112, 1, none⟩ = some (.slice none 0 0) := (blk_cell BK112.out 1).trans rfl; have hfz5_0 := blk_frozen BK112.out 0; have hfz5_1 := blk_frozen BK112.out 1))
  go_loopg [4] k (fun kq v4 w' => ∃ (x4_1 : Int) (x113001_1 : List Int) (u113001 : Value), v4 = .int .i64 x4_1 ∧ Aside0 (quarryref04_Of.l0 kq l0 x4_1 (l0.length : Int) x113001_1 = some (r1, r2)) ∧ Aside0 (kq ≤ k) ∧ Aside0 (Kd.R (Kd.int .u64) 35 w' w.heap.size (fun _ => True) u113001 x113001_1) ∧ Aside0 (w'.heap[gb111]? = some (.cells #[.int .i64 0, (.slice none 0 0)] 24 (0, 0))) ∧ Aside0 (w'.heap[gb112]? = some (.cells #[.int .i64 (l0.length : Int), u113001] 24 (0, 0))) ∧ Aside0 (Below w.heap.size w w'))
  case atStart => exact ⟨(0), (([] : List Int)), (.slice none 0 0), (by first | rfl | (simp; done) | (simp [*]; done)), H', ⟨Nat.le_refl _⟩, ⟨by first | exact Kd.R_nil _ _ _ _ _ | exact Kd.N_nil _ _ _ _ _ | exact Kd.V_nil _ _ _ _ _ | exact Kd.Q_nil _ _ _ _ _ | exact Kd.S_nil _ _ _ _ _⟩, ⟨by (with_reducible repeat (first | refine blk_drewN ?_ _ | refine blk_drew ?_ | refine blk_alloc ?_ _)); refine blk_far ?_ NB111_112.out _; (with_reducible repeat (first | refine blk_drewN ?_ _ | refine blk_drew ?_ | refine blk_alloc ?_ _)); refine blk_far ?_ NB111_112.out _; (with_reducible repeat (first | refine blk_drewN ?_ _ | refine blk_drew ?_ | refine blk_alloc ?_ _)); exact BK111.out⟩, ⟨by (with_reducible repeat (first | refine blk_drewN ?_ _ | refine blk_drew ?_ | refine blk_alloc ?_ _)); refine blk_put (cs := #[.int .i64 (l0.length : Int), .slice none 0 0]) ?_ 1 _ rfl; (with_reducible repeat (first | refine blk_drewN ?_ _ | refine blk_drew ?_ | refine blk_alloc ?_ _)); refine blk_put (cs := #[.int .i64 0, .slice none 0 0]) ?_ 0 _ rfl; (with_reducible repeat (first | refine blk_drewN ?_ _ | refine blk_drew ?_ | refine blk_alloc ?_ _)); exact BK112.out⟩, ⟨by repeat (first | (with_reducible first | exact HB.out | apply below_alloc | apply pw_below_drewN | apply below_drew1 | refine below_set ?_ GE111.out | refine below_set ?_ GE112.out) | exact HB.out)⟩⟩
  case round =>
    clear H'
    try clear c1
    try clear p2
    try clear c4
    try clear hcz5_0
    try clear hcz5_1
    try clear hfz5_0
    try clear hfz5_1
    obtain ⟨x4_1, x113001_1, u113001, rfl, HA, HK1, HO_113001, BK111, BK112, HB⟩ := hrel
    cases gk with
    | zero => exact absurd HA.out (by simp [quarryref04_Of.l0])
    | succ k1 =>
      have H := HA.out
      clear HA
      simp only [quarryref04_Of.l0] at H
      replace H := Option.bind_eq_some_iff.mp H
      obtain ⟨t113, A60, H⟩ := H
      replace H : (if x4_1 < t113 then (quarryref04_Of.l1 k1 l0 x4_1 0 63 (l0.length : Int) x113001_1) else (some ((l0.length : Int), x113001_1))) = some (r1, r2) := H
      have A6 := Aside0.mk A60
      clear A60
      by_cases c7 : x4_1 < t113
      · rw [if_pos c7] at H
        have c7b0 : decide (x4_1 < t113) = true := decide_eq_true c7
        clear c7
        have H' := Aside0.mk H
        clear H
        go_wp2_with (first | ((with_reducible refine gate_callee (f := 20) rfl ?_); refine goesL_ (some 13) rfl rfl Try.func20 (by kernel_rfl) rfl #[.int .i64 (l0.length : Int)] rfl (by (try simp only [List.map_toArray, List.map_cons, List.map_nil]); first | done | rfl | (simp only [List.length_drop, List.length_take]; rfl)) ?_; (with_reducible refine (quarryref04_need.calls (l0.length : Int) t113 _ A6.out).mono ?_); rintro e w' ⟨rfl, ⟨nd, rfl⟩⟩; refine ⟨_, rfl, ?_⟩))
        go_loopg [5, 6] k1 (fun kq v5 v6 w' => ∃ (x5_2 : Int) (x6_2 : Int), v5 = .int .u64 x5_2 ∧ v6 = .int .i64 x6_2 ∧ Aside0 (quarryref04_Of.l1 kq l0 x4_1 x5_2 x6_2 (l0.length : Int) x113001_1 = some (r1, r2)) ∧ Aside0 (kq ≤ k1) ∧ Aside0 (Kd.R (Kd.int .u64) 35 w' w.heap.size (fun _ => True) u113001 x113001_1) ∧ Aside0 (w'.heap[gb111]? = some (.cells #[.int .i64 0, (.slice none 0 0)] 24 (0, 0))) ∧ Aside0 (w'.heap[gb112]? = some (.cells #[.int .i64 (l0.length : Int), u113001] 24 (0, 0))) ∧ Aside0 (Below w.heap.size w w'))
        case atStart => exact ⟨(0), (63), (by first | rfl | (simp; done) | (simp [*]; done)), (by first | rfl | (simp; done) | (simp [*]; done)), H', ⟨Nat.le_refl _⟩, ⟨by (with_reducible repeat (first | apply Kd.R_alloc | apply Kd.R_drewN | apply Kd.R_drew)); exact HO_113001.out⟩, ⟨by (with_reducible repeat (first | refine blk_drewN ?_ _ | refine blk_drew ?_ | refine blk_alloc ?_ _)); exact BK111.out⟩, ⟨by (with_reducible repeat (first | refine blk_drewN ?_ _ | refine blk_drew ?_ | refine blk_alloc ?_ _)); exact BK112.out⟩, ⟨by repeat (first | (with_reducible first | exact HB.out | apply below_alloc | apply pw_below_drewN | apply below_drew1 | refine below_set ?_ GE111.out | refine below_set ?_ GE112.out) | exact HB.out)⟩⟩
        case round =>
          clear H'
          try clear c1
          try clear c2
          try clear p2
          try clear c4
          try clear c7
          try clear c7b0
          try clear hcz5_0
          try clear hcz5_1
          try clear hfz5_0
          try clear hfz5_1
          try clear p2
          obtain ⟨x5_2, x6_2, rfl, rfl, HA, HK2, HO_113001, BK111, BK112, HB⟩ := hrel
          cases gk with
          | zero => exact absurd HA.out (by simp [quarryref04_Of.l1])
          | succ k2 =>
            have H := HA.out
            clear HA
            simp only [quarryref04_Of.l1] at H
            by_cases c8 : x6_2 ≥ 0
            · rw [if_pos c8] at H
              have c8b0 : decide (0 ≤ x6_2) = true := decide_eq_true c8
              clear c8
              by_cases c9 : (wrap64 ((wrap64 (64 * x4_1)) + x6_2)) < (l0.length : Int)
              · rw [if_pos c9] at H
                have c9b0 : decide ((wrap64 ((wrap64 (64 * x4_1)) + x6_2)) < (l0.length : Int)) = true := decide_eq_true c9
                clear c9
                obtain ⟨ji10, hji10⟩ : ∃ j_ : Int, (wrap64 ((wrap64 (64 * x4_1)) + x6_2)) = j_ := ⟨_, rfl⟩
                replace H : (if 0 ≤ (ji10) then (if rdOf false l0 (ji10) = true then (quarryref04_Of.l1 k2 l0 x4_1 (IntKind.u64.wrap ((IntKind.u64.wrap (2 * x5_2)) + 1)) (wrap64 (x6_2 - 1)) (l0.length : Int) x113001_1) else (quarryref04_Of.l1 k2 l0 x4_1 (IntKind.u64.wrap (2 * x5_2)) (wrap64 (x6_2 - 1)) (l0.length : Int) x113001_1)) else (none)) = some (r1, r2) := by first | (rw [hji10] at H; exact H) | (simp only [hji10] at H ⊢; exact H)
                (try rw [hji10] at c9b0)
                have hji10w : (IntKind.i64.wrap ((wrap64 (64 * x4_1)) + x6_2)) = ji10 := (i64_w _).trans hji10
                by_cases c11 : 0 ≤ (ji10)
                · rw [if_pos c11] at H
                  have c11b0 : decide (0 ≤ (ji10)) = true := decide_eq_true c11
                  clear c11
                  obtain ⟨bq12, hbq12⟩ : ∃ b_ : Bool, b_ = (rdOf false l0 (ji10)) := ⟨_, rfl⟩
                  replace H : (if bq12 = true then (quarryref04_Of.l1 k2 l0 x4_1 (IntKind.u64.wrap ((IntKind.u64.wrap (2 * x5_2)) + 1)) (wrap64 (x6_2 - 1)) (l0.length : Int) x113001_1) else (quarryref04_Of.l1 k2 l0 x4_1 (IntKind.u64.wrap (2 * x5_2)) (wrap64 (x6_2 - 1)) (l0.length : Int) x113001_1)) = some (r1, r2) := by rw [← hbq12] at H; exact H
                  have Nbq12 := Aside0.mk hbq12
                  clear hbq12
                  by_cases c13 : bq12 = true
                  · subst c13
                    have H1 : (quarryref04_Of.l1 k2 l0 x4_1 (IntKind.u64.wrap ((IntKind.u64.wrap (2 * x5_2)) + 1)) (wrap64 (x6_2 - 1)) (l0.length : Int) x113001_1) = some (r1, r2) := by rw [if_pos rfl] at H; exact H
                    clear H
                    have H := H1
                    clear H1
                    have H' := Aside0.mk H
                    clear H
                    have p114 : 0 ≤ ((ji10) : Int) := of_decide_eq_true (by first | (with_reducible assumption) | assumption)
                    have q114 : (ji10) < (l0.length : Int) := of_decide_eq_true (by first | (with_reducible assumption) | assumption)
                    obtain ⟨ad114, e114, hx114_0⟩ := Kd.at_bool HR0.out (ji10) p114 q114
                    (try rw [← Nbq12.out] at hx114_0)
                    cases e114
                    replace hx114_0 := (HB.out.cell (World.block_lt_of_cell? w _ hx114_0)).trans hx114_0
                    replace p114 := eq_true p114
                    replace q114 := eq_true q114
                    go_wp2
                    go_roundg k2
                    case measure => have := HK1.out; have := HK2.out; omega
                    case rel => exact ⟨(IntKind.u64.wrap ((IntKind.u64.wrap (2 * x5_2)) + 1)), (wrap64 (x6_2 - 1)), (by first | rfl | (simp; done) | (simp [*]; done)), (by first | rfl | (simp; done) | (simp [*]; done)), H', ⟨by have := HK1.out; have := HK2.out; omega⟩, ⟨by (with_reducible repeat (first | apply Kd.R_alloc | apply Kd.R_drewN | apply Kd.R_drew)); exact HO_113001.out⟩, ⟨by (with_reducible repeat (first | refine blk_drewN ?_ _ | refine blk_drew ?_ | refine blk_alloc ?_ _)); exact BK111.out⟩, ⟨by (with_reducible repeat (first | refine blk_drewN ?_ _ | refine blk_drew ?_ | refine blk_alloc ?_ _)); exact BK112.out⟩, ⟨by repeat (first | (with_reducible first | exact HB.out | apply below_alloc | apply pw_below_drewN | apply below_drew1 | refine below_set ?_ GE111.out | refine below_set ?_ GE112.out) | exact HB.out)⟩⟩
                  · replace c13 := Bool.eq_false_iff.mpr c13
                    subst c13
                    have H1 : (quarryref04_Of.l1 k2 l0 x4_1 (IntKind.u64.wrap (2 * x5_2)) (wrap64 (x6_2 - 1)) (l0.length : Int) x113001_1) = some (r1, r2) := by rw [if_neg (show ¬ (false = true) by decide)] at H; exact H
                    clear H
                    have H := H1
                    clear H1
                    have H' := Aside0.mk H
                    clear H
                    have p114 : 0 ≤ ((ji10) : Int) := of_decide_eq_true (by first | (with_reducible assumption) | assumption)
                    have q114 : (ji10) < (l0.length : Int) := of_decide_eq_true (by first | (with_reducible assumption) | assumption)
                    obtain ⟨ad114, e114, hx114_0⟩ := Kd.at_bool HR0.out (ji10) p114 q114
                    (try rw [← Nbq12.out] at hx114_0)
                    cases e114
                    replace hx114_0 := (HB.out.cell (World.block_lt_of_cell? w _ hx114_0)).trans hx114_0
                    replace p114 := eq_true p114
                    replace q114 := eq_true q114
                    go_wp2
                    go_roundg k2
                    case measure => have := HK1.out; have := HK2.out; omega
                    case rel => exact ⟨(IntKind.u64.wrap (2 * x5_2)), (wrap64 (x6_2 - 1)), (by first | rfl | (simp; done) | (simp [*]; done)), (by first | rfl | (simp; done) | (simp [*]; done)), H', ⟨by have := HK1.out; have := HK2.out; omega⟩, ⟨by (with_reducible repeat (first | apply Kd.R_alloc | apply Kd.R_drewN | apply Kd.R_drew)); exact HO_113001.out⟩, ⟨by (with_reducible repeat (first | refine blk_drewN ?_ _ | refine blk_drew ?_ | refine blk_alloc ?_ _)); exact BK111.out⟩, ⟨by (with_reducible repeat (first | refine blk_drewN ?_ _ | refine blk_drew ?_ | refine blk_alloc ?_ _)); exact BK112.out⟩, ⟨by repeat (first | (with_reducible first | exact HB.out | apply below_alloc | apply pw_below_drewN | apply below_drew1 | refine below_set ?_ GE111.out | refine below_set ?_ GE112.out) | exact HB.out)⟩⟩
                · rw [if_neg c11] at H
                  exact absurd H (by simp)
              · rw [if_neg c9] at H
                have c9b0 : decide ((wrap64 ((wrap64 (64 * x4_1)) + x6_2)) < (l0.length : Int)) = false := decide_eq_false c9
                clear c9
                have H' := Aside0.mk H
                clear H
                go_wp2
                go_roundg k2
                case measure => have := HK1.out; have := HK2.out; omega
                case rel => exact ⟨(IntKind.u64.wrap (2 * x5_2)), (wrap64 (x6_2 - 1)), (by first | rfl | (simp; done) | (simp [*]; done)), (by first | rfl | (simp; done) | (simp [*]; done)), H', ⟨by have := HK1.out; have := HK2.out; omega⟩, ⟨by (with_reducible repeat (first | apply Kd.R_alloc | apply Kd.R_drewN | apply Kd.R_drew)); exact HO_113001.out⟩, ⟨by (with_reducible repeat (first | refine blk_drewN ?_ _ | refine blk_drew ?_ | refine blk_alloc ?_ _)); exact BK111.out⟩, ⟨by (with_reducible repeat (first | refine blk_drewN ?_ _ | refine blk_drew ?_ | refine blk_alloc ?_ _)); exact BK112.out⟩, ⟨by repeat (first | (with_reducible first | exact HB.out | apply below_alloc | apply pw_below_drewN | apply below_drew1 | refine below_set ?_ GE111.out | refine below_set ?_ GE112.out) | exact HB.out)⟩⟩
            · rw [if_neg c8] at H
              have c8b0 : decide (0 ≤ x6_2) = false := decide_eq_false c8
              clear c8
              by_cases c14 : x113001_1.length < 17592186044416
              · rw [if_pos c14] at H
                have LMc14 := Aside0.mk c14
                clear c14
                obtain ⟨y115, hy115⟩ : ∃ y_ : List Int, y_ = (x113001_1 ++ [x5_2]) := ⟨_, rfl⟩
                replace H : (quarryref04_Of.l0 k2 l0 (wrap64 (x4_1 + 1)) (l0.length : Int) y115) = some (r1, r2) := by first | (rw [hy115]; with_reducible exact H) | (have H2_ := (Option.bind_some _ _).symm.trans H; rw [hy115]; with_reducible exact H2_) | (have H2_ := (Option.bind_some _ _).symm.trans H; with_reducible exact H2_) | with_reducible exact H | (rw [hy115]; exact H) | exact H
                have Ny115 := Aside0.mk hy115
                clear hy115
                have H' := Aside0.mk H
                clear H
                have hnb15 := NB112_111.out
                have hnc15 := NB111_112.out
                have hcz16_0 : wr.cell? ⟨gb112, 0, none⟩ = some (.int .i64 (l0.length : Int)) := (blk_cell BK112.out 0).trans rfl
                have hcz16_1 : wr.cell? ⟨gb112, 1, none⟩ = some (u113001) := (blk_cell BK112.out 1).trans rfl
                have hfz16_0 := blk_frozen BK112.out 0
                have hfz16_1 := blk_frozen BK112.out 1
                go_wp2_with (first | ((with_reducible refine gate_builtin (b := .append) (xs := #[.tmp 42, .tmp 44]) rfl ?_); at_builtin; refine Kd.R_append (Kd.int .u64) (w0 := w) w.heap.size rfl (.tmp 42) (.tmp 44) 22 35 (.int .u64 0) 8 rfl Try.underlying22 info35 rfl (by decide) (by omega) u113001 x113001_1 x5_2 [.int .u64 x5_2] (fun _ => True) (fun _ => False) rfl rfl ?aP (fun _ hk => hk.elim) ?aF ?aO ?aB ?aS ?aL ?_; (case aP => exact rfl); (case aB => exact (by repeat (first | (with_reducible first | exact HB.out | apply below_alloc | apply pw_below_drewN | apply below_drew1 | refine below_set ?_ GE111.out | refine below_set ?_ GE112.out) | exact HB.out))); (case aF => exact (fun _ _ => trivial)); (case aO => exact (by (with_reducible repeat (first | apply Kd.R_alloc | apply Kd.R_drewN | apply Kd.R_drew)); exact HO_113001.out)); (case aS => exact (below_size (by repeat (first | (with_reducible first | exact HB.out | apply below_alloc | apply pw_below_drewN | apply below_drew1 | refine below_set ?_ GE111.out | refine below_set ?_ GE112.out) | exact HB.out)))); (case aL => have := LMc14.out; omega); intro v116 w17 ho hb hg hat; rw [← Ny115.out] at ho; have n0_ := Aside0.mk (blk_grown (g := gb111) (o := .cells #[.int .i64 0, .slice none 0 0] 24 (0, 0)) (by (with_reducible repeat (first | refine blk_drewN ?_ _ | refine blk_drew ?_ | refine blk_alloc ?_ _)); exact BK111.out) hg (Kd.R_ne HO_113001.out BK111.out (by decide))); have n1_ := Aside0.mk (blk_grown (g := gb112) (o := .cells #[.int .i64 (l0.length : Int), u113001] 24 (0, 0)) (by (with_reducible repeat (first | refine blk_drewN ?_ _ | refine blk_drew ?_ | refine blk_alloc ?_ _)); exact BK112.out) hg (Kd.R_ne HO_113001.out BK112.out (by decide))); have n2_ := Aside0.mk (hb); have n3_ := Aside0.mk (ho); clear BK111; clear BK112; clear HB; clear HO_113001; have BK111 := n0_; have BK112 := n1_; have HB := n2_; have HO117 := n3_; clear n0_ n1_ n2_ n3_; clear ho hb hg hat; obtain ⟨Ao18, co18, eo18⟩ := Kd.R_slice HO117.out; subst eo18; have hcz19_0 : w17.cell? ⟨gb112, 0, none⟩ = some (.int .i64 (l0.length : Int)) := (blk_cell BK112.out 0).trans rfl; have hcz19_1 : w17.cell? ⟨gb112, 1, none⟩ = some (u113001) := (blk_cell BK112.out 1).trans rfl; have hfz19_0 := blk_frozen BK112.out 0; have hfz19_1 := blk_frozen BK112.out 1))
                go_roundg k2
                case measure => have := HK1.out; have := HK2.out; omega
                case rel => exact ⟨(wrap64 (x4_1 + 1)), (y115), (.slice Ao18 y115.length co18), (by first | rfl | (simp; done) | (simp [*]; done)), H', ⟨by have := HK1.out; have := HK2.out; omega⟩, ⟨by (with_reducible repeat (first | apply Kd.R_alloc | apply Kd.R_drewN | apply Kd.R_drew)); exact Kd.R_mono (Kd.R_far (p := ⟨gb112, 1, none⟩) (Kd.R_types HO117.out BK112.out (by decide)) (fun _ hk => hk.2) (.slice Ao18 y115.length co18)) (fun _ hk => trivial)⟩, ⟨by (with_reducible repeat (first | refine blk_drewN ?_ _ | refine blk_drew ?_ | refine blk_alloc ?_ _)); refine blk_far ?_ NB111_112.out _; (with_reducible repeat (first | refine blk_drewN ?_ _ | refine blk_drew ?_ | refine blk_alloc ?_ _)); exact BK111.out⟩, ⟨by (with_reducible repeat (first | refine blk_drewN ?_ _ | refine blk_drew ?_ | refine blk_alloc ?_ _)); refine blk_put (cs := #[.int .i64 (l0.length : Int), u113001]) ?_ 1 _ rfl; (with_reducible repeat (first | refine blk_drewN ?_ _ | refine blk_drew ?_ | refine blk_alloc ?_ _)); exact BK112.out⟩, ⟨by repeat (first | (with_reducible first | exact HB.out | apply below_alloc | apply pw_below_drewN | apply below_drew1 | refine below_set ?_ GE111.out | refine below_set ?_ GE112.out) | exact HB.out)⟩⟩
              · rw [if_neg c14] at H
                exact absurd H (by simp)
      · rw [if_neg c7] at H
        have c7b0 : decide (x4_1 < t113) = false := decide_eq_false c7
        clear c7
        simp only [Option.some.injEq, Prod.mk.injEq] at H
        obtain ⟨rfl, rfl⟩ := H
        go_wp2_with (first | ((with_reducible refine gate_callee (f := 20) rfl ?_); refine goesL_ (some 13) rfl rfl Try.func20 (by kernel_rfl) rfl #[.int .i64 (l0.length : Int)] rfl (by (try simp only [List.map_toArray, List.map_cons, List.map_nil]); first | done | rfl | (simp only [List.length_drop, List.length_take]; rfl)) ?_; (with_reducible refine (quarryref04_need.calls (l0.length : Int) t113 _ A6.out).mono ?_); rintro e w' ⟨rfl, ⟨nd, rfl⟩⟩; refine ⟨_, rfl, ?_⟩; (try (rw [drewN_self wr]; generalize hq_ : World.drewN wr _ = wr; have n0_ : Aside0 (Kd.R (Kd.int .u64) 35 wr w.heap.size (fun _ => True) u113001 x113001_1) := ⟨by rw [← hq_]; exact (by (with_reducible repeat (first | apply Kd.R_alloc | apply Kd.R_drewN | apply Kd.R_drew)); exact HO_113001.out)⟩; have n1_ : Aside0 (wr.heap[gb111]? = some (.cells #[.int .i64 0, .slice none 0 0] 24 (0, 0))) := ⟨by rw [← hq_]; exact (by (with_reducible repeat (first | refine blk_drewN ?_ _ | refine blk_drew ?_ | refine blk_alloc ?_ _)); exact BK111.out)⟩; have n2_ : Aside0 (wr.heap[gb112]? = some (.cells #[.int .i64 (l0.length : Int), u113001] 24 (0, 0))) := ⟨by rw [← hq_]; exact (by (with_reducible repeat (first | refine blk_drewN ?_ _ | refine blk_drew ?_ | refine blk_alloc ?_ _)); exact BK112.out)⟩; have n3_ : Aside0 (Below w.heap.size w wr) := ⟨by rw [← hq_]; exact (by repeat (first | (with_reducible first | exact HB.out | apply below_alloc | apply pw_below_drewN | apply below_drew1 | refine below_set ?_ GE111.out | refine below_set ?_ GE112.out) | exact HB.out))⟩; clear HO_113001 BK111 BK112 HB hq_; have HO_113001 := n0_; have BK111 := n1_; have BK112 := n2_; have HB := n3_; clear n0_ n1_ n2_ n3_)); have hnb20 := NB112_111.out; have hnc20 := NB111_112.out; have hcz21_0 : wr.cell? ⟨gb112, 0, none⟩ = some (.int .i64 (l0.length : Int)) := (blk_cell BK112.out 0).trans rfl; have hcz21_1 : wr.cell? ⟨gb112, 1, none⟩ = some (u113001) := (blk_cell BK112.out 1).trans rfl; have hfz21_0 := blk_frozen BK112.out 0; have hfz21_1 := blk_frozen BK112.out 1; have hcz22_0 : wr.cell? ⟨gb111, 0, none⟩ = some (.int .i64 0) := (blk_cell BK111.out 0).trans rfl; have hcz22_1 : wr.cell? ⟨gb111, 1, none⟩ = some (.slice none 0 0) := (blk_cell BK111.out 1).trans rfl; have hfz22_0 := blk_frozen BK111.out 0; have hfz22_1 := blk_frozen BK111.out 1; obtain ⟨Ao23, co23, eo23⟩ := Kd.R_slice HO_113001.out; subst eo23))
        refine bodyPost_ret (results_cell_row rfl _ _ gb111 24 #[.int .i64 (l0.length : Int), .slice Ao23 x113001_1.length co23] (0, 0) _ rfl (by (with_reducible repeat (first | refine blk_drewN ?_ _ | refine blk_drew ?_ | refine blk_alloc ?_ _)); refine blk_put (cs := #[.int .i64 (l0.length : Int), .slice none 0 0]) ?_ 1 _ rfl; (with_reducible repeat (first | refine blk_drewN ?_ _ | refine blk_drew ?_ | refine blk_alloc ?_ _)); refine blk_put (cs := #[.int .i64 0, .slice none 0 0]) ?_ 0 _ rfl; (with_reducible repeat (first | refine blk_drewN ?_ _ | refine blk_drew ?_ | refine blk_alloc ?_ _)); exact BK111.out) Try.underlying24 rfl (by kernel_rfl)) rfl ?_
        exact ⟨_, by first | rfl | (simp [errW_none, errW_some] <;> rfl) | (simp [*, errW_none, errW_some] <;> rfl), by (with_reducible repeat (first | apply Kd.R_alloc | apply Kd.R_drewN | apply Kd.R_drew)); exact Kd.R_mono (Kd.R_far (p := ⟨gb111, 1, none⟩) (Kd.R_far (p := ⟨gb111, 0, none⟩) (Kd.R_types HO_113001.out BK111.out (by decide)) (fun _ hk => hk.2) (.int .i64 (l0.length : Int))) (fun _ hk => hk.2) (.slice Ao23 x113001_1.length co23)) (fun _ hk => trivial), by repeat (first | (with_reducible first | exact HB.out | apply below_alloc | apply pw_below_drewN | apply below_drew1 | refine below_set ?_ GE111.out | refine below_set ?_ GE112.out) | exact HB.out)⟩

/-! ### quarryref06_Escaped: function 5 -/
def quarryref06_Escaped.f (k : Nat) (a0 : ByteArray) : Option (Int × List Int) := (quarryref06_Is.f k a0 false).bind fun t119 => (if 0 ≤ (a0.size : Int) then (if (a0.size : Int) ≤ (t119.length : Int) then ((quarryref04_Of.f k (t119.take ((a0.size : Int) : Int).toNat)).bind fun bt126 => (some (bt126.1, bt126.2))) else (none)) else (none))
theorem quarryref06_Escaped.mono : ∀ a0 k, LeO (quarryref06_Escaped.f k a0) (quarryref06_Escaped.f (k + 1) a0) := by
  intro a0 k
  unfold quarryref06_Escaped.f
  repeat' first
      | (with_reducible exact quarryref04_Of.mono _ _)
      | (with_reducible exact quarryref06_Is.mono _ _ _)
      | (with_reducible exact LeO.refl _)
      | (with_reducible exact LeO.none _)
      | (with_reducible refine LeO.ite ?_ ?_)
      | (with_reducible refine LeO.bind ?_ (fun _ => ?_))
      | exact quarryref04_Of.mono _ _
      | exact quarryref06_Is.mono _ _ _
      | exact LeO.none _
      | refine LeO.ite ?_ ?_
      | refine LeO.bind ?_ (fun _ => ?_)
set_option maxHeartbeats 8000000 in
set_option maxRecDepth 100000 in
theorem quarryref06_Escaped.calls (k : Nat) (a0 : ByteArray) (r1 : Int) (r2 : List Int) (w : World) (h : quarryref06_Escaped.f k a0 = some (r1, r2)) :
    Calls Try.prog 5 #[.string a0] w fun e w' => ∃ v1_ : Value, e = .returned (.agg #[.int .i64 r1, v1_]) ∧ Kd.R (Kd.int .u64) 35 w' w.heap.size (fun _ => True) v1_ r2 ∧ Below w.heap.size w w' := by
  have hu24 := Try.underlying24
  have HB := Aside0.mk (Below.refl w.heap.size w)
  have H : ((quarryref06_Is.f k a0 false).bind fun t119 => (if 0 ≤ (a0.size : Int) then (if (a0.size : Int) ≤ (t119.length : Int) then ((quarryref04_Of.f k (t119.take ((a0.size : Int) : Int).toNat)).bind fun bt126 => (some (bt126.1, bt126.2))) else (none)) else (none))) = some (r1, r2) := h
  clear h
  replace H := Option.bind_eq_some_iff.mp H
  obtain ⟨t119, A20, H⟩ := H
  replace H : (if 0 ≤ (a0.size : Int) then (if (a0.size : Int) ≤ (t119.length : Int) then ((quarryref04_Of.f k (t119.take ((a0.size : Int) : Int).toNat)).bind fun bt126 => (some (bt126.1, bt126.2))) else (none)) else (none)) = some (r1, r2) := H
  have A2 := Aside0.mk A20
  clear A20
  by_cases c3 : 0 ≤ (a0.size : Int)
  · rw [if_pos c3] at H
    have c3b0 := eq_true c3
    have c3b1 : decide (0 ≤ (a0.size : Int)) = true := decide_eq_true c3
    clear c3
    by_cases c4 : (a0.size : Int) ≤ (t119.length : Int)
    · rw [if_pos c4] at H
      have c4b0 := eq_true c4
      have c4b1 : decide ((a0.size : Int) ≤ (t119.length : Int)) = true := decide_eq_true c4
      clear c4
      obtain ⟨y122, hy122⟩ : ∃ y_ : List Bool, y_ = (t119.take ((a0.size : Int) : Int).toNat) := ⟨_, rfl⟩
      replace H : ((quarryref04_Of.f k y122).bind fun bt126 => (some (bt126.1, bt126.2))) = some (r1, r2) := by first | (rw [hy122]; with_reducible exact H) | (have H2_ := (Option.bind_some _ _).symm.trans H; rw [hy122]; with_reducible exact H2_) | (have H2_ := (Option.bind_some _ _).symm.trans H; with_reducible exact H2_) | with_reducible exact H | (rw [hy122]; exact H) | exact H
      have Ny122 := Aside0.mk hy122
      clear hy122
      replace H := Option.bind_eq_some_iff.mp H
      obtain ⟨⟨t126, t127⟩, A50, H⟩ := H
      replace H : (some (t126, t127)) = some (r1, r2) := H
      have A5 := Aside0.mk A50
      clear A50
      simp only [Option.some.injEq, Prod.mk.injEq] at H
      obtain ⟨rfl, rfl⟩ := H
      go_enter Try.func5, Try.ntmps5
      go_wp2_with (first | ((with_reducible refine gate_dst (N := 2) rfl ?_); refine box_event ?hg (N := 2) ?hd (cs := #[.int .i64 0, .slice none 0 0]) (t := 24) ?hr ?_; (case hd => rfl); (case hg => rfl); (case hr => first | (go_simp; done) | (go_simp; rfl)); intro gb118 hg w6 hbox hb; have n0_ := Aside0.mk (below_step (by repeat (first | (with_reducible first | exact HB.out | apply below_alloc | apply pw_below_drewN | apply below_drew1) | exact HB.out)) hb); have n1_ := Aside0.mk (hbox); have n2_ := Aside0.mk ((by rw [hg]; exact (below_size (by repeat (first | (with_reducible first | exact HB.out | apply below_alloc | apply pw_below_drewN | apply below_drew1) | exact HB.out))) : w.heap.size ≤ gb118)); have n3_ := Aside0.mk ((by rw [hg]; exact (below_size (by repeat (first | (with_reducible first | exact HB.out | apply below_alloc | apply pw_below_drewN | apply below_drew1) | exact HB.out))) : w.heap.size ≤ gb118)); clear HB; have HB := n0_; have BK118 := n1_; have GW118 := n2_; have GE118 := n3_; clear n0_ n1_ n2_ n3_; clear hb hbox hg) | ((with_reducible refine gate_callee (f := 12) rfl ?_); refine goesL_ (some 5) rfl rfl Try.func12 (by kernel_rfl) rfl #[.string a0, .bool false] rfl (by (try simp only [List.map_toArray, List.map_cons, List.map_nil]); first | done | rfl | (simp only [List.length_drop, List.length_take]; rfl)) ?_; (with_reducible refine (quarryref06_Is.calls k a0 false t119 _ A2.out).mono ?_); rintro e w7 ⟨v120, rfl, ho0, hb⟩; refine ⟨_, rfl, ?_⟩; have n0_ := Aside0.mk (Kd.R_lower ho0 (below_size (by repeat (first | (with_reducible first | exact HB.out | apply below_alloc | apply pw_below_drewN | apply below_drew1 | refine below_set ?_ GE118.out) | exact HB.out)))); have n1_ := Aside0.mk (blk_below (g := gb118) (o := .cells #[.int .i64 0, .slice none 0 0] 24 (0, 0)) (by (with_reducible repeat (first | refine blk_drewN ?_ _ | refine blk_drew ?_ | refine blk_alloc ?_ _)); exact BK118.out) hb); have n2_ := Aside0.mk (below_step (by repeat (first | (with_reducible first | exact HB.out | apply below_alloc | apply pw_below_drewN | apply below_drew1 | refine below_set ?_ GE118.out) | exact HB.out)) hb); clear BK118; clear HB; have HO121 := n0_; have BK118 := n1_; have HB := n2_; clear n0_ n1_ n2_; (try clear hb); (try clear hb2); (try clear hk); (try clear hi); (try clear ho0); obtain ⟨Ao9, co9, eo9⟩ := Kd.R_slice HO121.out; subst eo9; have q8 : ((a0.size : Int) : Int) ≤ ((t119.length : Int) : Int) := of_decide_eq_true (by first | (with_reducible assumption) | assumption); obtain ⟨i08, hi08, _, hsz8, _⟩ := info_parts info4; have hroom8 : t119.length ≤ co9 := (Kd.R_reads' HO121.out).2.1; have hC8 : Kd.C Kd.bool _ Ao9 t119.length t119 := (Kd.R_reads' HO121.out).2.2; have hcut8 := cut_to (P := Try.prog) 39 4 .i64 Try.underlying39 hi08 Ao9 t119.length co9 (a0.size : Int) (of_decide_eq_true (by first | (with_reducible assumption) | assumption)) q8 hroom8; have hr8 := Kd.C_take (m := ((a0.size : Int) : Int).toNat) hC8 (by omega); have hy8 : y122.length = ((a0.size : Int) : Int).toNat := (by rw [Ny122.out, List.length_take]; omega); rw [← Ny122.out] at hr8; rw [← hy8] at hcut8; have HR125 := Aside0.mk hr8; have HC125 := Aside0.mk (show y122.length ≤ co9 from by omega); clear hr8 hC8 hroom8 hi08 hsz8; have KY8 := Aside0.mk hy8; clear hy8; have KL8 := Aside0.mk (show ((a0.size : Int) : Int).toNat ≤ t119.length from by omega); replace q8 := eq_true q8) | ((with_reducible refine gate_callee (f := 13) rfl ?_); refine goesL_ (some 10) rfl rfl Try.func13 (by kernel_rfl) rfl #[.slice Ao9 y122.length co9] rfl (by (try simp only [List.map_toArray, List.map_cons, List.map_nil]); first | done | rfl | (simp only [List.length_drop, List.length_take]; rfl)) ?_; (with_reducible refine (quarryref04_Of.calls k _ _ y122 t126 t127 _ ?side1 ?side2 A5.out).mono ?_); (case side1 => repeat (first | exact (by repeat (first | (with_reducible exact HR125.out) | (with_reducible refine Kd.C_alloc ?_ _) | (with_reducible refine Kd.C_drewN ?_ _) | (with_reducible refine Kd.C_drew ?_) | exact HR125.out)) | (with_reducible refine Kd.C_alloc ?_ _) | (with_reducible refine Kd.C_drewN ?_ _) | (with_reducible refine Kd.C_drew ?_))); (case side2 => exact HC125.out); rintro e w10 ⟨v128, rfl, ho0, hb⟩; refine ⟨_, rfl, ?_⟩; have n0_ := Aside0.mk (Kd.R_below (by (with_reducible repeat (first | apply Kd.R_alloc | apply Kd.R_drewN | apply Kd.R_drew)); exact HO121.out) hb); have n1_ := Aside0.mk (Kd.R_lower ho0 (below_size (by repeat (first | (with_reducible first | exact HB.out | apply below_alloc | apply pw_below_drewN | apply below_drew1 | refine below_set ?_ GE118.out) | exact HB.out)))); have n2_ := Aside0.mk (blk_below (g := gb118) (o := .cells #[.int .i64 0, .slice none 0 0] 24 (0, 0)) (by (with_reducible repeat (first | refine blk_drewN ?_ _ | refine blk_drew ?_ | refine blk_alloc ?_ _)); exact BK118.out) hb); have n3_ := Aside0.mk (Kd.C_below (by repeat (first | (with_reducible exact HR125.out) | (with_reducible refine Kd.C_alloc ?_ _) | (with_reducible refine Kd.C_drewN ?_ _) | (with_reducible refine Kd.C_drew ?_) | exact HR125.out)) hb); have n4_ := Aside0.mk (below_step (by repeat (first | (with_reducible first | exact HB.out | apply below_alloc | apply pw_below_drewN | apply below_drew1 | refine below_set ?_ GE118.out) | exact HB.out)) hb); clear HO121; clear BK118; clear HR125; clear HB; have HO121 := n0_; have HO129 := n1_; have BK118 := n2_; have HR125 := n3_; have HB := n4_; clear n0_ n1_ n2_ n3_ n4_; (try clear hb); (try clear hb2); (try clear hk); (try clear hi); (try clear ho0); have hcz11_0 : w10.cell? ⟨gb118, 0, none⟩ = some (.int .i64 0) := (blk_cell BK118.out 0).trans rfl; have hcz11_1 : w10.cell? ⟨gb118, 1, none⟩ = some (.slice none 0 0) := (blk_cell BK118.out 1).trans rfl; have hfz11_0 := blk_frozen BK118.out 0; have hfz11_1 := blk_frozen BK118.out 1; obtain ⟨Ao12, co12, eo12⟩ := Kd.R_slice HO129.out; subst eo12))
      refine bodyPost_ret (results_cell_row rfl _ _ gb118 24 #[.int .i64 t126, .slice Ao12 t127.length co12] (0, 0) _ rfl (by (with_reducible repeat (first | refine blk_drewN ?_ _ | refine blk_drew ?_ | refine blk_alloc ?_ _)); refine blk_put (cs := #[.int .i64 t126, .slice none 0 0]) ?_ 1 _ rfl; (with_reducible repeat (first | refine blk_drewN ?_ _ | refine blk_drew ?_ | refine blk_alloc ?_ _)); refine blk_put (cs := #[.int .i64 0, .slice none 0 0]) ?_ 0 _ rfl; (with_reducible repeat (first | refine blk_drewN ?_ _ | refine blk_drew ?_ | refine blk_alloc ?_ _)); exact BK118.out) Try.underlying24 rfl (by kernel_rfl)) rfl ?_
      exact ⟨_, by first | rfl | (simp [errW_none, errW_some] <;> rfl) | (simp [*, errW_none, errW_some] <;> rfl), by (with_reducible repeat (first | apply Kd.R_alloc | apply Kd.R_drewN | apply Kd.R_drew)); exact Kd.R_mono (Kd.R_far (p := ⟨gb118, 1, none⟩) (Kd.R_far (p := ⟨gb118, 0, none⟩) (Kd.R_types HO129.out BK118.out (by decide)) (fun _ hk => hk.2) (.int .i64 t126)) (fun _ hk => hk.2) (.slice Ao12 t127.length co12)) (fun _ hk => trivial), by repeat (first | (with_reducible first | exact HB.out | apply below_alloc | apply pw_below_drewN | apply below_drew1 | refine below_set ?_ GE118.out) | exact HB.out)⟩
    · rw [if_neg c4] at H
      exact absurd H (by simp)
  · rw [if_neg c3] at H
    exact absurd H (by simp)

/-! ### quarryref00_SameBits: function 6 -/
mutual
def quarryref00_SameBits.j0 : Nat → Bool → Int → List Int → Int → List Int → Option (Bool)
  | 0, _, _, _, _, _ => none
  | k + 1, x19, x131000, x131001, x132000, x132001 => if x19 = true then (some false) else (quarryref00_SameBits.l0 k 0 x131000 x131001 x132000 x132001)
def quarryref00_SameBits.l0 : Nat → Int → Int → List Int → Int → List Int → Option (Bool)
  | 0, _, _, _, _, _ => none
  | k + 1, x5, x131000, x131001, x132000, x132001 => if x5 < (x131001.length : Int) then (if 0 ≤ x5 then (if x5 < (x132001.length : Int) then (if (rd x131001 x5) = (rd x132001 x5) then (quarryref00_SameBits.l0 k (wrap64 (x5 + 1)) x131000 x131001 x132000 x132001) else (some false)) else (none)) else (none)) else (some true)
end
def quarryref00_SameBits.f (k : Nat) (a0_0 : Int) (l0_1 : List Int) (a1_0 : Int) (l1_1 : List Int) : Option (Bool) := if a0_0 = a1_0 then (quarryref00_SameBits.j0 k ((l0_1.length : Int) != (l1_1.length : Int)) a0_0 l0_1 a1_0 l1_1) else (quarryref00_SameBits.j0 k true a0_0 l0_1 a1_0 l1_1)
theorem quarryref00_SameBits.mono_l : ∀ k, (∀ y0 y1 y2 y3 y4, LeO (quarryref00_SameBits.j0 k y0 y1 y2 y3 y4) (quarryref00_SameBits.j0 (k + 1) y0 y1 y2 y3 y4)) ∧ (∀ y0 y1 y2 y3 y4, LeO (quarryref00_SameBits.l0 k y0 y1 y2 y3 y4) (quarryref00_SameBits.l0 (k + 1) y0 y1 y2 y3 y4))
  | 0 => ⟨fun _ _ _ _ _ r h => by simp [quarryref00_SameBits.j0] at h, fun _ _ _ _ _ r h => by simp [quarryref00_SameBits.l0] at h⟩
  | k + 1 => by
    obtain ⟨ih0, ih1⟩ := quarryref00_SameBits.mono_l k
    refine ⟨?_, ?_⟩
    · intro y0 y1 y2 y3 y4
      unfold quarryref00_SameBits.j0
      repeat' first
      | (with_reducible exact ih0 _ _ _ _ _)
      | (with_reducible exact ih1 _ _ _ _ _)
      | (with_reducible exact LeO.refl _)
      | (with_reducible exact LeO.none _)
      | (with_reducible refine LeO.ite ?_ ?_)
      | (with_reducible refine LeO.bind ?_ (fun _ => ?_))
      | exact ih0 _ _ _ _ _
      | exact ih1 _ _ _ _ _
      | exact LeO.none _
      | refine LeO.ite ?_ ?_
      | refine LeO.bind ?_ (fun _ => ?_)
    · intro y0 y1 y2 y3 y4
      unfold quarryref00_SameBits.l0
      repeat' first
      | (with_reducible exact ih0 _ _ _ _ _)
      | (with_reducible exact ih1 _ _ _ _ _)
      | (with_reducible exact LeO.refl _)
      | (with_reducible exact LeO.none _)
      | (with_reducible refine LeO.ite ?_ ?_)
      | (with_reducible refine LeO.bind ?_ (fun _ => ?_))
      | exact ih0 _ _ _ _ _
      | exact ih1 _ _ _ _ _
      | exact LeO.none _
      | refine LeO.ite ?_ ?_
      | refine LeO.bind ?_ (fun _ => ?_)
theorem quarryref00_SameBits.mono : ∀ a0 a1 a2 a3 k, LeO (quarryref00_SameBits.f k a0 a1 a2 a3) (quarryref00_SameBits.f (k + 1) a0 a1 a2 a3) := by
  intro a0 a1 a2 a3 k
  obtain ⟨ih0, ih1⟩ := quarryref00_SameBits.mono_l k
  unfold quarryref00_SameBits.f
  repeat' first
      | (with_reducible exact ih0 _ _ _ _ _)
      | (with_reducible exact ih1 _ _ _ _ _)
      | (with_reducible exact LeO.refl _)
      | (with_reducible exact LeO.none _)
      | (with_reducible refine LeO.ite ?_ ?_)
      | (with_reducible refine LeO.bind ?_ (fun _ => ?_))
      | exact ih0 _ _ _ _ _
      | exact ih1 _ _ _ _ _
      | exact LeO.none _
      | refine LeO.ite ?_ ?_
      | refine LeO.bind ?_ (fun _ => ?_)
set_option maxHeartbeats 8000000 in
set_option maxRecDepth 100000 in
theorem quarryref00_SameBits.calls (k : Nat) (a0_0 : Int) (A0_1 : Option Addr) (c0_1 : Nat) (l0_1 : List Int) (a1_0 : Int) (A1_1 : Option Addr) (c1_1 : Nat) (l1_1 : List Int) (r : Bool) (w : World) (hr0_1 : Kd.C (Kd.int .u64) w A0_1 l0_1.length l0_1) (hc0_1 : l0_1.length ≤ c0_1) (hr1_1 : Kd.C (Kd.int .u64) w A1_1 l1_1.length l1_1) (hc1_1 : l1_1.length ≤ c1_1) (h : quarryref00_SameBits.f k a0_0 l0_1 a1_0 l1_1 = some r) :
    Calls Try.prog 6 #[.agg #[.int .i64 a0_0, .slice A0_1 l0_1.length c0_1], .agg #[.int .i64 a1_0, .slice A1_1 l1_1.length c1_1]] w fun e w' => e = .returned (.bool r) ∧ Below w.heap.size w w' := by
  have hu24 := Try.underlying24
  have HR0_1 := Aside0.mk hr0_1
  have HC0_1 := Aside0.mk hc0_1
  clear hr0_1 hc0_1
  have HR1_1 := Aside0.mk hr1_1
  have HC1_1 := Aside0.mk hc1_1
  clear hr1_1 hc1_1
  have HB := Aside0.mk (Below.refl w.heap.size w)
  have H : (if a0_0 = a1_0 then (quarryref00_SameBits.j0 k ((l0_1.length : Int) != (l1_1.length : Int)) a0_0 l0_1 a1_0 l1_1) else (quarryref00_SameBits.j0 k true a0_0 l0_1 a1_0 l1_1)) = some r := h
  clear h
  have HC3 := Aside0.mk H
  clear H
  go_enter Try.func6, Try.ntmps6
  go_upto_region 1 with (first | ((with_reducible refine gate_dst (N := 2) rfl ?_); (try (refine gate_guard (by rfl) ?_; dsimp only)); refine box_event ?hg (N := 2) ?hd (cs := #[.int .i64 a0_0, .slice A0_1 l0_1.length c0_1]) (t := 24) ?hr ?_; (case hd => rfl); (case hg => rfl); (case hr => first | (go_simp; done) | (go_simp; rfl)); intro gb130 hg w4 hbox hb; have n0_ := Aside0.mk (below_step (by repeat (first | (with_reducible first | exact HB.out | apply below_alloc | apply pw_below_drewN | apply below_drew1) | exact HB.out)) hb); have n1_ := Aside0.mk (hbox); have n2_ := Aside0.mk ((by rw [hg]; exact (below_size (by repeat (first | (with_reducible first | exact HB.out | apply below_alloc | apply pw_below_drewN | apply below_drew1) | exact HB.out))) : w.heap.size ≤ gb130)); have n3_ := Aside0.mk ((by rw [hg]; exact (below_size (by repeat (first | (with_reducible first | exact HB.out | apply below_alloc | apply pw_below_drewN | apply below_drew1) | exact HB.out))) : w.heap.size ≤ gb130)); clear HB; have HB := n0_; have BK130 := n1_; have GW130 := n2_; have GE130 := n3_; clear n0_ n1_ n2_ n3_; clear hb hbox hg) | ((with_reducible refine gate_dst (N := 3) rfl ?_); (try (refine gate_guard (by rfl) ?_; dsimp only)); refine box_event ?hg (N := 3) ?hd (cs := #[.int .i64 a1_0, .slice A1_1 l1_1.length c1_1]) (t := 24) ?hr ?_; (case hd => rfl); (case hg => rfl); (case hr => first | (go_simp; done) | (go_simp; rfl)); intro gb131 hg w5 hbox hb; have n0_ := Aside0.mk (blk_below (g := gb130) (o := .cells #[.int .i64 a0_0, .slice A0_1 l0_1.length c0_1] 24 (0, 0)) (by (with_reducible repeat (first | refine blk_drewN ?_ _ | refine blk_drew ?_ | refine blk_alloc ?_ _)); exact BK130.out) hb); have n1_ := Aside0.mk (below_step (by repeat (first | (with_reducible first | exact HB.out | apply below_alloc | apply pw_below_drewN | apply below_drew1 | refine below_set ?_ GE130.out) | exact HB.out)) hb); have n2_ := Aside0.mk (hbox); have n3_ := Aside0.mk ((by rw [hg]; exact (below_size (by repeat (first | (with_reducible first | exact HB.out | apply below_alloc | apply pw_below_drewN | apply below_drew1 | refine below_set ?_ GE130.out) | exact HB.out))) : w.heap.size ≤ gb131)); have n4_ := Aside0.mk ((by rw [hg]; exact (below_size (by repeat (first | (with_reducible first | exact HB.out | apply below_alloc | apply pw_below_drewN | apply below_drew1 | refine below_set ?_ GE130.out) | exact HB.out))) : w.heap.size ≤ gb131)); have n5_ := Aside0.mk ((by rw [hg]; exact Nat.ne_of_lt (blk_lt (g := gb130) (o := .cells #[.int .i64 a0_0, .slice A0_1 l0_1.length c0_1] 24 (0, 0)) (by (with_reducible repeat (first | refine blk_drewN ?_ _ | refine blk_drew ?_ | refine blk_alloc ?_ _)); exact BK130.out)) : gb130 ≠ gb131)); have n6_ := Aside0.mk ((by rw [hg]; exact Nat.ne_of_gt (blk_lt (g := gb130) (o := .cells #[.int .i64 a0_0, .slice A0_1 l0_1.length c0_1] 24 (0, 0)) (by (with_reducible repeat (first | refine blk_drewN ?_ _ | refine blk_drew ?_ | refine blk_alloc ?_ _)); exact BK130.out)) : gb131 ≠ gb130)); clear BK130; clear HB; have BK130 := n0_; have HB := n1_; have BK131 := n2_; have GW131 := n3_; have GE131 := n4_; have NB130_131 := n5_; have NB131_130 := n6_; clear n0_ n1_ n2_ n3_ n4_ n5_ n6_; clear hb hbox hg))
  repeat (go_quiet (first | ((with_reducible refine gate_dst (N := 2) rfl ?_); (try (refine gate_guard (by rfl) ?_; dsimp only)); refine box_event ?hg (N := 2) ?hd (cs := #[.int .i64 a0_0, .slice A0_1 l0_1.length c0_1]) (t := 24) ?hr ?_; (case hd => rfl); (case hg => rfl); (case hr => first | (go_simp; done) | (go_simp; rfl)); intro gb130 hg w4 hbox hb; have n0_ := Aside0.mk (below_step (by repeat (first | (with_reducible first | exact HB.out | apply below_alloc | apply pw_below_drewN | apply below_drew1) | exact HB.out)) hb); have n1_ := Aside0.mk (hbox); have n2_ := Aside0.mk ((by rw [hg]; exact (below_size (by repeat (first | (with_reducible first | exact HB.out | apply below_alloc | apply pw_below_drewN | apply below_drew1) | exact HB.out))) : w.heap.size ≤ gb130)); have n3_ := Aside0.mk ((by rw [hg]; exact (below_size (by repeat (first | (with_reducible first | exact HB.out | apply below_alloc | apply pw_below_drewN | apply below_drew1) | exact HB.out))) : w.heap.size ≤ gb130)); clear HB; have HB := n0_; have BK130 := n1_; have GW130 := n2_; have GE130 := n3_; clear n0_ n1_ n2_ n3_; clear hb hbox hg) | ((with_reducible refine gate_dst (N := 3) rfl ?_); (try (refine gate_guard (by rfl) ?_; dsimp only)); refine box_event ?hg (N := 3) ?hd (cs := #[.int .i64 a1_0, .slice A1_1 l1_1.length c1_1]) (t := 24) ?hr ?_; (case hd => rfl); (case hg => rfl); (case hr => first | (go_simp; done) | (go_simp; rfl)); intro gb131 hg w5 hbox hb; have n0_ := Aside0.mk (blk_below (g := gb130) (o := .cells #[.int .i64 a0_0, .slice A0_1 l0_1.length c0_1] 24 (0, 0)) (by (with_reducible repeat (first | refine blk_drewN ?_ _ | refine blk_drew ?_ | refine blk_alloc ?_ _)); exact BK130.out) hb); have n1_ := Aside0.mk (below_step (by repeat (first | (with_reducible first | exact HB.out | apply below_alloc | apply pw_below_drewN | apply below_drew1 | refine below_set ?_ GE130.out) | exact HB.out)) hb); have n2_ := Aside0.mk (hbox); have n3_ := Aside0.mk ((by rw [hg]; exact (below_size (by repeat (first | (with_reducible first | exact HB.out | apply below_alloc | apply pw_below_drewN | apply below_drew1 | refine below_set ?_ GE130.out) | exact HB.out))) : w.heap.size ≤ gb131)); have n4_ := Aside0.mk ((by rw [hg]; exact (below_size (by repeat (first | (with_reducible first | exact HB.out | apply below_alloc | apply pw_below_drewN | apply below_drew1 | refine below_set ?_ GE130.out) | exact HB.out))) : w.heap.size ≤ gb131)); have n5_ := Aside0.mk ((by rw [hg]; exact Nat.ne_of_lt (blk_lt (g := gb130) (o := .cells #[.int .i64 a0_0, .slice A0_1 l0_1.length c0_1] 24 (0, 0)) (by (with_reducible repeat (first | refine blk_drewN ?_ _ | refine blk_drew ?_ | refine blk_alloc ?_ _)); exact BK130.out)) : gb130 ≠ gb131)); have n6_ := Aside0.mk ((by rw [hg]; exact Nat.ne_of_gt (blk_lt (g := gb130) (o := .cells #[.int .i64 a0_0, .slice A0_1 l0_1.length c0_1] 24 (0, 0)) (by (with_reducible repeat (first | refine blk_drewN ?_ _ | refine blk_drew ?_ | refine blk_alloc ?_ _)); exact BK130.out)) : gb131 ≠ gb130)); clear BK130; clear HB; have BK130 := n0_; have HB := n1_; have BK131 := n2_; have GW131 := n3_; have GE131 := n4_; have NB130_131 := n5_; have NB131_130 := n6_; clear n0_ n1_ n2_ n3_ n4_ n5_ n6_; clear hb hbox hg)); go_upto_region 1 with (first | ((with_reducible refine gate_dst (N := 2) rfl ?_); (try (refine gate_guard (by rfl) ?_; dsimp only)); refine box_event ?hg (N := 2) ?hd (cs := #[.int .i64 a0_0, .slice A0_1 l0_1.length c0_1]) (t := 24) ?hr ?_; (case hd => rfl); (case hg => rfl); (case hr => first | (go_simp; done) | (go_simp; rfl)); intro gb130 hg w4 hbox hb; have n0_ := Aside0.mk (below_step (by repeat (first | (with_reducible first | exact HB.out | apply below_alloc | apply pw_below_drewN | apply below_drew1) | exact HB.out)) hb); have n1_ := Aside0.mk (hbox); have n2_ := Aside0.mk ((by rw [hg]; exact (below_size (by repeat (first | (with_reducible first | exact HB.out | apply below_alloc | apply pw_below_drewN | apply below_drew1) | exact HB.out))) : w.heap.size ≤ gb130)); have n3_ := Aside0.mk ((by rw [hg]; exact (below_size (by repeat (first | (with_reducible first | exact HB.out | apply below_alloc | apply pw_below_drewN | apply below_drew1) | exact HB.out))) : w.heap.size ≤ gb130)); clear HB; have HB := n0_; have BK130 := n1_; have GW130 := n2_; have GE130 := n3_; clear n0_ n1_ n2_ n3_; clear hb hbox hg) | ((with_reducible refine gate_dst (N := 3) rfl ?_); (try (refine gate_guard (by rfl) ?_; dsimp only)); refine box_event ?hg (N := 3) ?hd (cs := #[.int .i64 a1_0, .slice A1_1 l1_1.length c1_1]) (t := 24) ?hr ?_; (case hd => rfl); (case hg => rfl); (case hr => first | (go_simp; done) | (go_simp; rfl)); intro gb131 hg w5 hbox hb; have n0_ := Aside0.mk (blk_below (g := gb130) (o := .cells #[.int .i64 a0_0, .slice A0_1 l0_1.length c0_1] 24 (0, 0)) (by (with_reducible repeat (first | refine blk_drewN ?_ _ | refine blk_drew ?_ | refine blk_alloc ?_ _)); exact BK130.out) hb); have n1_ := Aside0.mk (below_step (by repeat (first | (with_reducible first | exact HB.out | apply below_alloc | apply pw_below_drewN | apply below_drew1 | refine below_set ?_ GE130.out) | exact HB.out)) hb); have n2_ := Aside0.mk (hbox); have n3_ := Aside0.mk ((by rw [hg]; exact (below_size (by repeat (first | (with_reducible first | exact HB.out | apply below_alloc | apply pw_below_drewN | apply below_drew1 | refine below_set ?_ GE130.out) | exact HB.out))) : w.heap.size ≤ gb131)); have n4_ := Aside0.mk ((by rw [hg]; exact (below_size (by repeat (first | (with_reducible first | exact HB.out | apply below_alloc | apply pw_below_drewN | apply below_drew1 | refine below_set ?_ GE130.out) | exact HB.out))) : w.heap.size ≤ gb131)); have n5_ := Aside0.mk ((by rw [hg]; exact Nat.ne_of_lt (blk_lt (g := gb130) (o := .cells #[.int .i64 a0_0, .slice A0_1 l0_1.length c0_1] 24 (0, 0)) (by (with_reducible repeat (first | refine blk_drewN ?_ _ | refine blk_drew ?_ | refine blk_alloc ?_ _)); exact BK130.out)) : gb130 ≠ gb131)); have n6_ := Aside0.mk ((by rw [hg]; exact Nat.ne_of_gt (blk_lt (g := gb130) (o := .cells #[.int .i64 a0_0, .slice A0_1 l0_1.length c0_1] 24 (0, 0)) (by (with_reducible repeat (first | refine blk_drewN ?_ _ | refine blk_drew ?_ | refine blk_alloc ?_ _)); exact BK130.out)) : gb131 ≠ gb130)); clear BK130; clear HB; have BK130 := n0_; have HB := n1_; have BK131 := n2_; have GW131 := n3_; have GE131 := n4_; have NB130_131 := n5_; have NB131_130 := n6_; clear n0_ n1_ n2_ n3_ n4_ n5_ n6_; clear hb hbox hg)))
  (try simp only [Act.put, List.setIfInBounds_toArray, List.set_cons_zero, List.set_cons_succ])
  go_cut [19] (fun v19 wc => ∃ (kq : Nat) (x19_2 : Bool), v19 = .bool x19_2 ∧ Aside0 (quarryref00_SameBits.j0 kq x19_2 a0_0 l0_1 a1_0 l1_1 = some r) ∧ Aside0 (kq ≤ k) ∧ Aside0 (wc.heap[gb130]? = some (.cells #[.int .i64 a0_0, (.slice A0_1 l0_1.length c0_1)] 24 (0, 0))) ∧ Aside0 (wc.heap[gb131]? = some (.cells #[.int .i64 a1_0, (.slice A1_1 l1_1.length c1_1)] 24 (0, 0))) ∧ Aside0 (Below w.heap.size w wc))
  case first =>
    have H := HC3.out
    clear HC3
    by_cases c6 : a0_0 = a1_0
    · rw [if_pos c6] at H
      have c6b0 : (a0_0 == a1_0) = true := beq_iff_eq.mpr c6
      have c6b1 : (a0_0 != a1_0) = false := bne_eq_false_iff_eq.mpr c6
      clear c6
      (first | rw [c6b0] | (simp only [i64_w, i32_w]; rw [c6b0]) | skip)
      have H' := Aside0.mk H
      clear H
      have hnb7 := NB130_131.out
      have hnc7 := NB131_130.out
      have hcz8_0 : w5.cell? ⟨gb130, 0, none⟩ = some (.int .i64 a0_0) := (blk_cell BK130.out 0).trans rfl
      have hcz8_1 : w5.cell? ⟨gb130, 1, none⟩ = some (.slice A0_1 l0_1.length c0_1) := (blk_cell BK130.out 1).trans rfl
      have hfz8_0 := blk_frozen BK130.out 0
      have hfz8_1 := blk_frozen BK130.out 1
      have hcz9_0 : w5.cell? ⟨gb131, 0, none⟩ = some (.int .i64 a1_0) := (blk_cell BK131.out 0).trans rfl
      have hcz9_1 : w5.cell? ⟨gb131, 1, none⟩ = some (.slice A1_1 l1_1.length c1_1) := (blk_cell BK131.out 1).trans rfl
      have hfz9_0 := blk_frozen BK131.out 0
      have hfz9_1 := blk_frozen BK131.out 1
      go_wp2
      repeat (go_quiet (fail); try go_wp2)
      go_meet
      case rel => exact ⟨_, (((l0_1.length : Int) != (l1_1.length : Int))), (by first | rfl | (simp; done) | (simp [*]; done)), H', ⟨by first | omega | exact Nat.le_refl _⟩, ⟨by (with_reducible repeat (first | refine blk_drewN ?_ _ | refine blk_drew ?_ | refine blk_alloc ?_ _)); exact BK130.out⟩, ⟨by (with_reducible repeat (first | refine blk_drewN ?_ _ | refine blk_drew ?_ | refine blk_alloc ?_ _)); exact BK131.out⟩, ⟨by repeat (first | (with_reducible first | exact HB.out | apply below_alloc | apply pw_below_drewN | apply below_drew1 | refine below_set ?_ GE130.out | refine below_set ?_ GE131.out) | exact HB.out)⟩⟩
    · rw [if_neg c6] at H
      have c6b0 : (a0_0 == a1_0) = false := beq_eq_false_iff_ne.mpr c6
      have c6b1 : (a0_0 != a1_0) = true := bne_iff_ne.mpr c6
      (first | rw [c6b0] | (simp only [i64_w, i32_w]; rw [c6b0]) | skip)
      have H' := Aside0.mk H
      clear H
      have hnb10 := NB130_131.out
      have hnc10 := NB131_130.out
      have hcz11_0 : w5.cell? ⟨gb130, 0, none⟩ = some (.int .i64 a0_0) := (blk_cell BK130.out 0).trans rfl
      have hcz11_1 : w5.cell? ⟨gb130, 1, none⟩ = some (.slice A0_1 l0_1.length c0_1) := (blk_cell BK130.out 1).trans rfl
      have hfz11_0 := blk_frozen BK130.out 0
      have hfz11_1 := blk_frozen BK130.out 1
      have hcz12_0 : w5.cell? ⟨gb131, 0, none⟩ = some (.int .i64 a1_0) := (blk_cell BK131.out 0).trans rfl
      have hcz12_1 : w5.cell? ⟨gb131, 1, none⟩ = some (.slice A1_1 l1_1.length c1_1) := (blk_cell BK131.out 1).trans rfl
      have hfz12_0 := blk_frozen BK131.out 0
      have hfz12_1 := blk_frozen BK131.out 1
      go_wp2
      repeat (go_quiet (fail); try go_wp2)
      go_meet
      case rel => exact ⟨_, (true), (by first | rfl | (simp; done) | (simp [*]; done)), H', ⟨by first | omega | exact Nat.le_refl _⟩, ⟨by (with_reducible repeat (first | refine blk_drewN ?_ _ | refine blk_drew ?_ | refine blk_alloc ?_ _)); exact BK130.out⟩, ⟨by (with_reducible repeat (first | refine blk_drewN ?_ _ | refine blk_drew ?_ | refine blk_alloc ?_ _)); exact BK131.out⟩, ⟨by repeat (first | (with_reducible first | exact HB.out | apply below_alloc | apply pw_below_drewN | apply below_drew1 | refine below_set ?_ GE130.out | refine below_set ?_ GE131.out) | exact HB.out)⟩⟩
  case rest =>
    clear HC3
    try clear c1
    try clear p2
    try clear c6
    try clear c6b0
    try clear c6b1
    try clear c7
    try clear c10
    try clear hcz11_0
    try clear hcz11_1
    try clear hcz12_0
    try clear hcz12_1
    try clear hcz8_0
    try clear hcz8_1
    try clear hcz9_0
    try clear hcz9_1
    try clear hfz11_0
    try clear hfz11_1
    try clear hfz12_0
    try clear hfz12_1
    try clear hfz8_0
    try clear hfz8_1
    try clear hfz9_0
    try clear hfz9_1
    obtain ⟨kq, x19_2, rfl, HA, HJ2, BK130, BK131, HB⟩ := hcut
    cases kq with
    | zero => exact absurd HA.out (by simp [quarryref00_SameBits.j0])
    | succ kj2 =>
      have H := HA.out
      clear HA
      simp only [quarryref00_SameBits.j0] at H
      by_cases c13 : x19_2 = true
      · subst c13
        have H1 : (some false) = some r := by rw [if_pos rfl] at H; exact H
        clear H
        have H := H1
        clear H1
        obtain rfl := Option.some.inj H
        go_wp2
        repeat (go_quiet (fail); try go_wp2)
        go_ret
        exact ⟨by first | rfl | (simp [errW_none, errW_some] <;> rfl) | (simp [*, errW_none, errW_some] <;> rfl), by repeat (first | (with_reducible first | exact HB.out | apply below_alloc | apply pw_below_drewN | apply below_drew1 | refine below_set ?_ GE130.out | refine below_set ?_ GE131.out) | exact HB.out)⟩
      · replace c13 := Bool.eq_false_iff.mpr c13
        subst c13
        have H1 : (quarryref00_SameBits.l0 kj2 0 a0_0 l0_1 a1_0 l1_1) = some r := by rw [if_neg (show ¬ (false = true) by decide)] at H; exact H
        clear H
        have H := H1
        clear H1
        have H' := Aside0.mk H
        clear H
        go_wp2
        repeat (go_quiet (fail); try go_wp2)
        go_loopg [5] kj2 (fun kq v5 w' => ∃ (x5_2 : Int), v5 = .int .i64 x5_2 ∧ Aside0 (quarryref00_SameBits.l0 kq x5_2 a0_0 l0_1 a1_0 l1_1 = some r) ∧ Aside0 (kq ≤ kj2) ∧ Aside0 (w'.heap[gb130]? = some (.cells #[.int .i64 a0_0, (.slice A0_1 l0_1.length c0_1)] 24 (0, 0))) ∧ Aside0 (w'.heap[gb131]? = some (.cells #[.int .i64 a1_0, (.slice A1_1 l1_1.length c1_1)] 24 (0, 0))) ∧ Aside0 (Below w.heap.size w w'))
        case atStart => exact ⟨(0), (by first | rfl | (simp; done) | (simp [*]; done)), H', ⟨Nat.le_refl _⟩, ⟨by (with_reducible repeat (first | refine blk_drewN ?_ _ | refine blk_drew ?_ | refine blk_alloc ?_ _)); exact BK130.out⟩, ⟨by (with_reducible repeat (first | refine blk_drewN ?_ _ | refine blk_drew ?_ | refine blk_alloc ?_ _)); exact BK131.out⟩, ⟨by repeat (first | (with_reducible first | exact HB.out | apply below_alloc | apply pw_below_drewN | apply below_drew1 | refine below_set ?_ GE130.out | refine below_set ?_ GE131.out) | exact HB.out)⟩⟩
        case round =>
          clear H'
          try clear c1
          try clear p2
          try clear c6
          try clear c6b0
          try clear c6b1
          try clear c7
          try clear c10
          try clear c13
          try clear hcz11_0
          try clear hcz11_1
          try clear hcz12_0
          try clear hcz12_1
          try clear hcz8_0
          try clear hcz8_1
          try clear hcz9_0
          try clear hcz9_1
          try clear hfz11_0
          try clear hfz11_1
          try clear hfz12_0
          try clear hfz12_1
          try clear hfz8_0
          try clear hfz8_1
          try clear hfz9_0
          try clear hfz9_1
          try clear p2
          obtain ⟨x5_2, rfl, HA, HK2, BK130, BK131, HB⟩ := hrel
          cases gk with
          | zero => exact absurd HA.out (by simp [quarryref00_SameBits.l0])
          | succ k2 =>
            have H := HA.out
            clear HA
            simp only [quarryref00_SameBits.l0] at H
            by_cases c14 : x5_2 < (l0_1.length : Int)
            · rw [if_pos c14] at H
              have c14b0 : decide (x5_2 < (l0_1.length : Int)) = true := decide_eq_true c14
              clear c14
              by_cases c15 : 0 ≤ x5_2
              · rw [if_pos c15] at H
                have c15b0 : decide (0 ≤ x5_2) = true := decide_eq_true c15
                clear c15
                by_cases c16 : x5_2 < (l1_1.length : Int)
                · rw [if_pos c16] at H
                  have c16b0 : decide (x5_2 < (l1_1.length : Int)) = true := decide_eq_true c16
                  clear c16
                  by_cases c17 : (rd l0_1 x5_2) = (rd l1_1 x5_2)
                  · rw [if_pos c17] at H
                    have c17b0 : ((rd l0_1 x5_2) == (rd l1_1 x5_2)) = true := beq_iff_eq.mpr c17
                    have c17b1 : ((rd l0_1 x5_2) != (rd l1_1 x5_2)) = false := bne_eq_false_iff_eq.mpr c17
                    clear c17
                    have H' := Aside0.mk H
                    clear H
                    have hnb18 := NB130_131.out
                    have hnc18 := NB131_130.out
                    have hcz19_0 : wr.cell? ⟨gb130, 0, none⟩ = some (.int .i64 a0_0) := (blk_cell BK130.out 0).trans rfl
                    have hcz19_1 : wr.cell? ⟨gb130, 1, none⟩ = some (.slice A0_1 l0_1.length c0_1) := (blk_cell BK130.out 1).trans rfl
                    have hfz19_0 := blk_frozen BK130.out 0
                    have hfz19_1 := blk_frozen BK130.out 1
                    have p132 : 0 ≤ (x5_2 : Int) := of_decide_eq_true (by first | (with_reducible assumption) | assumption)
                    have q132 : x5_2 < (l0_1.length : Int) := of_decide_eq_true (by first | (with_reducible assumption) | assumption)
                    obtain ⟨ad132, e132, hx132_0⟩ := Kd.at_int HR0_1.out x5_2 p132 q132
                    cases e132
                    replace hx132_0 := (HB.out.cell (World.block_lt_of_cell? w _ hx132_0)).trans hx132_0
                    replace p132 := eq_true p132
                    replace q132 := eq_true q132
                    have hcz20_0 : wr.cell? ⟨gb131, 0, none⟩ = some (.int .i64 a1_0) := (blk_cell BK131.out 0).trans rfl
                    have hcz20_1 : wr.cell? ⟨gb131, 1, none⟩ = some (.slice A1_1 l1_1.length c1_1) := (blk_cell BK131.out 1).trans rfl
                    have hfz20_0 := blk_frozen BK131.out 0
                    have hfz20_1 := blk_frozen BK131.out 1
                    have p133 : 0 ≤ (x5_2 : Int) := of_decide_eq_true (by first | (with_reducible assumption) | assumption)
                    have q133 : x5_2 < (l1_1.length : Int) := of_decide_eq_true (by first | (with_reducible assumption) | assumption)
                    obtain ⟨ad133, e133, hx133_0⟩ := Kd.at_int HR1_1.out x5_2 p133 q133
                    cases e133
                    replace hx133_0 := (HB.out.cell (World.block_lt_of_cell? w _ hx133_0)).trans hx133_0
                    replace p133 := eq_true p133
                    replace q133 := eq_true q133
                    go_wp2
                    repeat (go_quiet (fail); try go_wp2)
                    go_roundg k2
                    case measure => have := HJ2.out; have := HK2.out; omega
                    case rel => exact ⟨(wrap64 (x5_2 + 1)), (by first | rfl | (simp; done) | (simp [*]; done)), H', ⟨by have := HJ2.out; have := HK2.out; omega⟩, ⟨by (with_reducible repeat (first | refine blk_drewN ?_ _ | refine blk_drew ?_ | refine blk_alloc ?_ _)); exact BK130.out⟩, ⟨by (with_reducible repeat (first | refine blk_drewN ?_ _ | refine blk_drew ?_ | refine blk_alloc ?_ _)); exact BK131.out⟩, ⟨by repeat (first | (with_reducible first | exact HB.out | apply below_alloc | apply pw_below_drewN | apply below_drew1 | refine below_set ?_ GE130.out | refine below_set ?_ GE131.out) | exact HB.out)⟩⟩
                  · rw [if_neg c17] at H
                    have c17b0 : ((rd l0_1 x5_2) == (rd l1_1 x5_2)) = false := beq_eq_false_iff_ne.mpr c17
                    have c17b1 : ((rd l0_1 x5_2) != (rd l1_1 x5_2)) = true := bne_iff_ne.mpr c17
                    obtain rfl := Option.some.inj H
                    have hnb21 := NB130_131.out
                    have hnc21 := NB131_130.out
                    have hcz22_0 : wr.cell? ⟨gb130, 0, none⟩ = some (.int .i64 a0_0) := (blk_cell BK130.out 0).trans rfl
                    have hcz22_1 : wr.cell? ⟨gb130, 1, none⟩ = some (.slice A0_1 l0_1.length c0_1) := (blk_cell BK130.out 1).trans rfl
                    have hfz22_0 := blk_frozen BK130.out 0
                    have hfz22_1 := blk_frozen BK130.out 1
                    have p132 : 0 ≤ (x5_2 : Int) := of_decide_eq_true (by first | (with_reducible assumption) | assumption)
                    have q132 : x5_2 < (l0_1.length : Int) := of_decide_eq_true (by first | (with_reducible assumption) | assumption)
                    obtain ⟨ad132, e132, hx132_0⟩ := Kd.at_int HR0_1.out x5_2 p132 q132
                    cases e132
                    replace hx132_0 := (HB.out.cell (World.block_lt_of_cell? w _ hx132_0)).trans hx132_0
                    replace p132 := eq_true p132
                    replace q132 := eq_true q132
                    have hcz23_0 : wr.cell? ⟨gb131, 0, none⟩ = some (.int .i64 a1_0) := (blk_cell BK131.out 0).trans rfl
                    have hcz23_1 : wr.cell? ⟨gb131, 1, none⟩ = some (.slice A1_1 l1_1.length c1_1) := (blk_cell BK131.out 1).trans rfl
                    have hfz23_0 := blk_frozen BK131.out 0
                    have hfz23_1 := blk_frozen BK131.out 1
                    have p133 : 0 ≤ (x5_2 : Int) := of_decide_eq_true (by first | (with_reducible assumption) | assumption)
                    have q133 : x5_2 < (l1_1.length : Int) := of_decide_eq_true (by first | (with_reducible assumption) | assumption)
                    obtain ⟨ad133, e133, hx133_0⟩ := Kd.at_int HR1_1.out x5_2 p133 q133
                    cases e133
                    replace hx133_0 := (HB.out.cell (World.block_lt_of_cell? w _ hx133_0)).trans hx133_0
                    replace p133 := eq_true p133
                    replace q133 := eq_true q133
                    go_wp2
                    repeat (go_quiet (fail); try go_wp2)
                    go_ret
                    exact ⟨by first | rfl | (simp [errW_none, errW_some] <;> rfl) | (simp [*, errW_none, errW_some] <;> rfl), by repeat (first | (with_reducible first | exact HB.out | apply below_alloc | apply pw_below_drewN | apply below_drew1 | refine below_set ?_ GE130.out | refine below_set ?_ GE131.out) | exact HB.out)⟩
                · rw [if_neg c16] at H
                  exact absurd H (by simp)
              · rw [if_neg c15] at H
                exact absurd H (by simp)
            · rw [if_neg c14] at H
              have c14b0 : decide (x5_2 < (l0_1.length : Int)) = false := decide_eq_false c14
              clear c14
              obtain rfl := Option.some.inj H
              have hnb24 := NB130_131.out
              have hnc24 := NB131_130.out
              have hcz25_0 : wr.cell? ⟨gb130, 0, none⟩ = some (.int .i64 a0_0) := (blk_cell BK130.out 0).trans rfl
              have hcz25_1 : wr.cell? ⟨gb130, 1, none⟩ = some (.slice A0_1 l0_1.length c0_1) := (blk_cell BK130.out 1).trans rfl
              have hfz25_0 := blk_frozen BK130.out 0
              have hfz25_1 := blk_frozen BK130.out 1
              go_wp2
              repeat (go_quiet (fail); try go_wp2)
              go_ret
              exact ⟨by first | rfl | (simp [errW_none, errW_some] <;> rfl) | (simp [*, errW_none, errW_some] <;> rfl), by repeat (first | (with_reducible first | exact HB.out | apply below_alloc | apply pw_below_drewN | apply below_drew1 | refine below_set ?_ GE130.out | refine below_set ?_ GE131.out) | exact HB.out)⟩

/-! ### quarrykit_mark: function 21 -/
def quarrykit_mark.f (a0 : Int) (a1 : Int) : Option (Int) := some (wrap64 ((wrap64 (1000003 * (wrap64 (a0 + 7)))) + a1))
set_option maxHeartbeats 8000000 in
set_option maxRecDepth 100000 in
theorem quarrykit_mark.calls (a0 : Int) (a1 : Int) (r : Int) (w : World) (h : quarrykit_mark.f a0 a1 = some r) :
    Calls Try.prog 21 #[.int .i64 a0, .int .i64 a1] w fun e w' => e = .returned (.int .i64 r) ∧ Drawn0 w w' := by
  have H : (some (wrap64 ((wrap64 (1000003 * (wrap64 (a0 + 7)))) + a1))) = some r := h
  clear h
  obtain rfl := Option.some.inj H
  go_enter Try.func21, Try.ntmps21
  go_wp2
  go_ret
  exact ⟨by first | rfl | (simp; done) | (simp [*]; done), by repeat (first | exact Drawn0.refl _ | apply Drawn0.step)⟩

end Go.Proofs.Ytagcilcdgckbeaa.PE
