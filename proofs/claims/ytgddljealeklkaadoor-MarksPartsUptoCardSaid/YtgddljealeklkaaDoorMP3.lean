/- Parts of a claim (MP), packed by a program (pack.py) out of the texts that it names. -/
import Derived.Test.YtgddljealeklkaaDoorMP2
-- PMx1
section
namespace Go.Proofs.YtgddljealeklkaaDoor.PM
open Go.RowKit Go.Proofs.YtgddljealeklkaaDoorW.PrintWords Go.Proofs.YtgddljealeklkaaDoorW.PrintLast Go.Proofs.YtgddljealeklkaaDoorW.PrintMore
attribute [local go_sem] max2_int min2_int max_two min_two max_three min_three max_four min_four   -- for this text's walks alone
set_option linter.unusedVariables false
set_option linter.unusedSimpArgs false

open Go.Proofs.YtgddljealeklkaaDoorQ Go.Proofs.YtgddljealeklkaaDoorM in
set_option maxHeartbeats 4000000 in
set_option maxRecDepth 100000 in
theorem block_filled.calls (x : Int) (w : World) :
    Calls Tryd.prog 112 #[.int .u8 x] w fun e w' => e = .returned (.agg (blkA fun _ => x)) ∧ Below w.heap.size w w' := by
  have HB := BelowH.refl w
  go_enter Tryd.func112, Tryd.ntmps112
  go_wp2_with (first | ((with_reducible refine gate_dst (N := 2) rfl ?_); refine ev_alloc HB rfl (blkA fun _ => 0) 85 ?hr ?_; (case hr => (rw [← blkA_zero]; go_simp; rfl)); intro g0 w1 G_g0 GE_g0 B_g0 HBn K_g0; clear HB; have HB := HBn; clear HBn) | ((with_reducible refine gate_dst (N := 3) rfl ?_); refine ev_alloc HB rfl (blkA fun _ => 0) 85 ?hr ?_; (case hr => (rw [← blkA_zero]; go_simp; rfl)); intro g1 w2 G_g1 GE_g1 B_g1 HBn K_g1; clear HB; have HB := HBn; clear HBn))
  have B0 := B_g0.below K_g1.out
  have NE := Aside0.mk (show g0 ≠ g1 by have := B_g0.lt; have := G_g1.out; omega)
  go_loopw [5] (fun v wr => ∃ i : Nat, i ≤ 64 ∧ v = .int .i64 i ∧ Blk wr g1 (blkA fun j => if j < i then x else 0) 85 ∧ Blk wr g0 (blkA fun _ => 0) 85 ∧ BelowH w wr) (fun v _ => 64 - (intOf v).toNat)
  case atStart => exact ⟨0, by omega, rfl, by simpa using B_g1, B0, HB⟩
  case round =>
    clear B0 B_g1 B_g0 HB
    obtain ⟨i, hi, rfl, B1, B0, HB⟩ := hrel
    by_cases hlt : i < 64
    · have hc := B1.cell (blkA_get _ hlt)
      have hf := B1.frozen i
      go_wp2
      go_roundw
      case rel =>
        refine ⟨i + 1, by omega, by go_num, ?_, B0.far NE.out _ _, HB.set GE_g1.out _ _⟩
        exact (B1.set i (.int .u8 x)).eqA (blkA_set hlt (by simp) (fun j hj => by
          by_cases h : j < i
          · rw [if_pos h, if_pos (by omega)]
          · rw [if_neg h, if_neg (by omega)]))
      case measure => simp [intOf]; omega
    · have E : Blk wr g1 (blkA fun _ => x) 85 := B1.eqA (blkA_congr fun j hj => by rw [if_pos (by omega)])
      clear B1
      go_wp2_with (first | ((with_reducible refine gate_dst (N := 12) rfl ?_); refine ev_load E rfl 85 _ rfl rfl Tryd.underlying85 (size64' _) ?_) | ((with_reducible refine gate_ (Op.store 85 (.tmp 2) (.tmp 12)) rfl ?_); refine ev_store HB B0 GE_g0 rfl 85 _ _ rfl rfl rfl (size64' _) (by rw [blkA_size, blkA_size]) (blkA_one _) ?_; intro w3 B3 HBn K_w3; clear HB; have HB := HBn; clear HBn))
      refine bodyPost_ret (results_cell_row rfl _ _ g0 85 _ (0, 0) _ rfl B3.out Tryd.underlying85 rfl (size64' _)) rfl ?_
      exact ⟨rfl, HB.out⟩


open Go.Proofs.YtgddljealeklkaaDoorQ Go.Proofs.YtgddljealeklkaaDoorM in
set_option maxHeartbeats 4000000 in
set_option maxRecDepth 100000 in
theorem block_Cut.calls_out (s : ByteArray) (at_ pad : Int) (w : World) (h : at_ < 0 ∨ (s.size : Int) ≤ at_) :
    Calls Tryd.prog 93 #[.string s, .int .i64 at_, .int .u8 pad] w fun e w' => e = .returned (.tuple #[.agg (blkA (cutF s at_ pad)), .int .i64 0]) ∧ Below w.heap.size w w' := by
  have HB := BelowH.refl w
  have E : (blkA fun _ => pad) = blkA (cutF s at_ pad) := blkA_congr fun i _ => by unfold cutF; rw [if_neg (by omega)]
  have HE := Aside0.mk E
  clear E
  rcases h with h | h
  · go_enter Tryd.func93, Tryd.ntmps93
    go_wp2_with (first | ((with_reducible refine gate_dst (N := 6) rfl ?_); refine ev_alloc HB rfl (blkA fun _ => 0) 85 ?hr ?_; (case hr => (rw [← blkA_zero]; go_simp; rfl)); intro g0 w1 G_g0 GE_g0 B_g0 HBn K_g0; clear HB; have HB := HBn; clear HBn) | (go_at_call 112; refine (block_filled.calls pad _).mono ?_; rintro e w2 ⟨rfl, hb2⟩; have B2 := B_g0.below hb2; have HB2 := HB.step hb2; clear HB; have HB := HB2; clear HB2 hb2) | ((with_reducible refine gate_ (Op.store 85 (.tmp 6) (.tmp 19)) rfl ?_); refine ev_store HB B2 GE_g0 rfl 85 _ _ rfl rfl rfl (size64' _) (by rw [blkA_size, blkA_size]) (blkA_one _) ?_; intro w3 B3 HBn K_w3; clear HB; have HB := HBn; clear HBn))
    refine bodyPost_ret (results_row_tmp rfl _ _ g0 85 _ _ rfl B3 Tryd.underlying85 rfl (size64' _)) rfl ?_
    exact ⟨by rw [HE.out]; rfl, HB.out⟩
  · by_cases h0 : at_ < 0
    · omega
    go_enter Tryd.func93, Tryd.ntmps93
    go_wp2_with (first | ((with_reducible refine gate_dst (N := 6) rfl ?_); refine ev_alloc HB rfl (blkA fun _ => 0) 85 ?hr ?_; (case hr => (rw [← blkA_zero]; go_simp; rfl)); intro g0 w1 G_g0 GE_g0 B_g0 HBn K_g0; clear HB; have HB := HBn; clear HBn) | (go_at_call 112; refine (block_filled.calls pad _).mono ?_; rintro e w2 ⟨rfl, hb2⟩; have B2 := B_g0.below hb2; have HB2 := HB.step hb2; clear HB; have HB := HB2; clear HB2 hb2) | ((with_reducible refine gate_ (Op.store 85 (.tmp 6) (.tmp 19)) rfl ?_); refine ev_store HB B2 GE_g0 rfl 85 _ _ rfl rfl rfl (size64' _) (by rw [blkA_size, blkA_size]) (blkA_one _) ?_; intro w3 B3 HBn K_w3; clear HB; have HB := HBn; clear HBn))
    refine bodyPost_ret (results_row_tmp rfl _ _ g0 85 _ _ rfl B3 Tryd.underlying85 rfl (size64' _)) rfl ?_
    exact ⟨by rw [HE.out]; rfl, HB.out⟩
open Go.Proofs.YtgddljealeklkaaDoorQ Go.Proofs.YtgddljealeklkaaDoorM in
set_option maxHeartbeats 4000000 in
set_option maxRecDepth 100000 in
theorem block_Cut.calls_full (s : ByteArray) (at_ pad : Int) (w : World) (hs : s.size ≤ 281474976702464) (h0 : 0 ≤ at_) (h1 : at_ + 64 ≤ s.size) :
    Calls Tryd.prog 93 #[.string s, .int .i64 at_, .int .u8 pad] w fun e w' => e = .returned (.tuple #[.agg (blkA (cutF s at_ pad)), .int .i64 64]) ∧ Below w.heap.size w w' := by
  obtain ⟨n, rfl⟩ : ∃ n : Nat, at_ = n := ⟨at_.toNat, by omega⟩
  have HB := BelowH.refl w
  have d1 : ¬ ((n : Int) < 0) := by omega
  have d2 : ¬ ((s.size : Int) ≤ n) := by omega
  have d3 : (64 : Int) ≤ (s.size : Int) - n := by omega
  have H1 := Aside0.mk h1
  have EX := Aside0.mk (show ∀ j : Nat, j < 64 → bt (s.extract n (n + 64)) (j : Int) = cutF s n pad j by
    intro j hj
    unfold cutF
    rw [if_pos (by omega), bt_extract s n (n + 64) j (by omega) (by omega)]
    norm_cast)
  have EZ : (s.extract n (n + 64)).size = 64 := by rw [ByteArray.size_extract]; omega
  have HZ := Aside0.mk EZ
  clear EZ
  go_enter Tryd.func93, Tryd.ntmps93
  go_wp2_with (first
    | ((with_reducible refine gate_dst (N := 6) rfl ?_); refine ev_alloc HB rfl (blkA fun _ => 0) 85 ?hr ?_; (case hr => (rw [← blkA_zero]; go_simp; rfl)); intro g0 w1 G_g0 GE_g0 B_g0 HBn K_g0; clear HB; have HB := HBn; clear HBn)
    | ((with_reducible refine gate_dst (N := 30) rfl ?_); refine ev_bytes HB rfl 9 37 _ rfl _ 64 HZ.out rfl Tryd.underlying9 Tryd.underlying37 Tryd.underlying5 ?_; intro g2 cap w2 G_g2 HBn K_g2 C2; clear HB; have HB := HBn; clear HBn)
    | ((with_reducible refine gate_dst (N := 31) rfl ?_); refine ev_arrayAt rfl 85 _ rfl ⟨g2, 0, none⟩ 64 cap 64 5 rfl Tryd.underlying85 (Nat.le_refl _) ?_)
    | ((with_reducible refine gate_dst (N := 32) rfl ?_); refine ev_load_mid rfl 85 _ rfl g2 0 rfl (blkA (cutF s n pad)) (fun j hj => by rw [blkA_size] at hj; rw [Nat.zero_add, C2.out j hj, blkA_get _ hj, EX.out j hj]) Tryd.underlying85 (size64' _) ?_; have B2 := B_g0.below K_g2.out)
    | ((with_reducible refine gate_ (Op.store 85 (.tmp 6) (.tmp 32)) rfl ?_); refine ev_store HB B2 GE_g0 rfl 85 _ _ rfl rfl rfl (size64' _) (by rw [blkA_size, blkA_size]) (blkA_one _) ?_; intro w3 B3 HBn K_w3; clear HB; have HB := HBn; clear HBn))
  refine bodyPost_ret (results_row_tmp rfl _ _ g0 85 _ _ rfl B3 Tryd.underlying85 rfl (size64' _)) rfl ?_
  exact ⟨rfl, HB.out⟩
open Go.Proofs.YtgddljealeklkaaDoorQ Go.Proofs.YtgddljealeklkaaDoorM in
set_option maxHeartbeats 4000000 in
set_option maxRecDepth 100000 in
theorem block_Cut.calls_part (s : ByteArray) (at_ pad : Int) (w : World) (hs : s.size ≤ 281474976702464) (h0 : 0 ≤ at_) (h1 : at_ < s.size) (h2 : s.size < at_ + 64) :
    Calls Tryd.prog 93 #[.string s, .int .i64 at_, .int .u8 pad] w fun e w' => e = .returned (.tuple #[.agg (blkA (cutF s at_ pad)), .int .i64 (s.size - at_)]) ∧ Below w.heap.size w w' := by
  obtain ⟨n, rfl⟩ : ∃ n : Nat, at_ = n := ⟨at_.toNat, by omega⟩
  have HB := BelowH.refl w
  have d1 : ¬ ((n : Int) < 0) := by omega
  have d2 : ¬ ((s.size : Int) ≤ n) := by omega
  have d3 : ¬ ((64 : Int) ≤ (s.size : Int) - n) := by omega
  have d4 : (n : Int) ≤ s.size := by omega
  have d5 : n ≤ s.size := by omega
  go_enter Tryd.func93, Tryd.ntmps93
  go_wp2_with (first
    | ((with_reducible refine gate_dst (N := 6) rfl ?_); refine ev_alloc HB rfl (blkA fun _ => 0) 85 ?hr ?_; (case hr => (rw [← blkA_zero]; go_simp; rfl)); intro g0 w1 G_g0 GE_g0 B_g0 HBn K_g0; clear HB; have HB := HBn; clear HBn)
    | (go_at_call 112; refine (block_filled.calls pad _).mono ?_; rintro e w2 ⟨rfl, hb2⟩; have B2 := B_g0.below hb2; have HB2 := HB.step hb2; clear HB; have HB := HB2; clear HB2 hb2)
    | ((with_reducible refine gate_dst (N := 8) rfl ?_); refine ev_alloc HB rfl (blkA fun _ => 0) 85 ?hr ?_; (case hr => (rw [← blkA_zero]; go_simp; rfl)); intro g8 w3 G_g8 GE_g8 B_g8 HBn K_g8; clear HB; have HB := HBn; clear HBn)
    | ((with_reducible refine gate_ (Op.store 85 (.tmp 8) (.tmp 34)) rfl ?_); refine ev_store HB B_g8 GE_g8 rfl 85 _ _ rfl rfl rfl (size64' _) (by rw [blkA_size, blkA_size]) (blkA_one _) ?_; intro w4 B8 HBn K_w4; clear HB; have HB := HBn; clear HBn))
  have NE := Aside0.mk (show g0 ≠ g8 by have := B2.lt; have := G_g8.out; omega)
  go_still_tail 4, (by kernel_rfl)
  change wpList _ _ _ _ _ w4.drew
  have B8' := B8.drew
  have HB' := HB.drew
  have B0 := (((B2.below K_g8.out).other K_w4 NE.out).drew)
  have EZ := Aside0.mk (show (s.extract n s.size).size = s.size - n by rw [ByteArray.size_extract]; omega)
  clear HB
  go_wp2_with (first
    | ((with_reducible refine gate_dst (N := 39) rfl ?_); refine ev_copy64 HB' B8' GE_g8 rfl _ _ 37 9 5 rfl _ (s.size - n) EZ.out (by omega) rfl rfl Tryd.underlying37 (by kernel_rfl) ?_; intro w5 B9 HB K_w5)
    | ((with_reducible refine gate_dst (N := 40) rfl ?_); refine ev_load B9 rfl 85 _ rfl rfl Tryd.underlying85 (size64' _) ?_)
    | ((with_reducible refine gate_ (Op.store 85 (.tmp 6) (.tmp 40)) rfl ?_); have B1 := B0.other K_w5 NE.out; refine ev_store HB B1 GE_g0 rfl 85 _ _ rfl rfl rfl (size64' _) (by rw [blkA_size, blkA_size]) (blkA_one _) ?_; intro w6 B6 HBn K_w6; clear HB; have HB := HBn; clear HBn))
  have E : (blkA fun j => if j < s.size - n then bt (s.extract n s.size) (j : Int) else pad) = blkA (cutF s n pad) := blkA_congr fun j hj => by
    unfold cutF
    by_cases h : j < s.size - n
    · rw [if_pos h, if_pos (by omega), bt_extract s n s.size j (by omega) (by omega)]
      norm_cast
    · rw [if_neg h, if_neg (by omega)]
  refine bodyPost_ret (results_row_tmp rfl _ _ g0 85 _ _ rfl B6 Tryd.underlying85 rfl (size64' _)) rfl ?_
  refine ⟨?_, HB.out⟩
  rw [E, show (s.size : Int) - n = ((s.size - n : Nat) : Int) by omega]
  rfl
open Go.Proofs.YtgddljealeklkaaDoorQ Go.Proofs.YtgddljealeklkaaDoorM in
theorem block_Cut.calls (s : ByteArray) (at_ pad : Int) (w : World) (hs : s.size ≤ 281474976702464) :
    Calls Tryd.prog 93 #[.string s, .int .i64 at_, .int .u8 pad] w fun e w' => e = .returned (.tuple #[.agg (blkA (cutF s at_ pad)), .int .i64 (cutN s at_)]) ∧ Below w.heap.size w w' := by
  unfold cutN
  by_cases h : at_ < 0 ∨ (s.size : Int) ≤ at_
  · rw [if_pos h]
    exact block_Cut.calls_out s at_ pad w h
  · rw [if_neg h]
    by_cases h2 : 64 ≤ (s.size : Int) - at_
    · rw [if_pos h2]
      exact block_Cut.calls_full s at_ pad w hs (by omega) (by omega)
    · rw [if_neg h2]
      exact block_Cut.calls_part s at_ pad w hs (by omega) (by omega) (by omega)


section
open Go.Proofs.YtgddljealeklkaaDoorQ Go.Proofs.YtgddljealeklkaaDoorM Go.Shelf
attribute [local go_sem] Oper.semAt_some
/-- What Blocks tells of the k-th block. -/
def blkEnc (s : ByteArray) (pad : Int) (k : Nat) : Array Value := #[.int .i64 (64 * (k : Int)), .agg (blkA (cutF s (64 * (k : Int)) pad))]
set_option maxHeartbeats 4000000 in
set_option maxRecDepth 100000 in
theorem block_Blocks_1.walk (F : Fence) (HF : Aside0 (F = Fence.wide)) (n : Nat) (hn : 3 ≤ n) (l g1 g2 : Nat) (s : ByteArray) (pad : Int) (hs : s.size ≤ 281474976702464) (J Jx : List (Fin (nwords s.size)) → World → Prop) (W0 : World)
    (hJ : ∀ pre A B, J pre A → Below A.heap.size A B → J pre B)
    (hY : ∀ pre x W, J pre W → pre.length < nwords s.size → YieldAt F (n - 1) Tryd.prog l (blkEnc s pad x.val) W fun e W' =>
      (e = .returned (.bool true) ∧ J (pre ++ [x]) W' ∧ Keep2 g1 g2 W W') ∨ (e = .returned (.bool false) ∧ Jx (pre ++ [x]) W'))
    (B1 : Blk W0 g1 #[.string s] 9) (B2 : Blk W0 g2 #[.int .u8 pad] 5) (h0 : J [] W0) :
    CallsIn F n Tryd.prog 92 #[.func (.yield l) #[] #[], .pointer (some ⟨g1, 0, none⟩), .pointer (some ⟨g2, 0, none⟩)] W0 fun e W' => (∃ v, e = .returned v) ∧
      ((∃ ys, ys = List.finRange (nwords s.size) ∧ J ys W') ∨ (∃ pre, pre <+: List.finRange (nwords s.size) ∧ Jx pre W')) := by
  have HJ := Aside0.mk hJ
  have HY := Aside0.mk hY
  have HJ0 := Aside0.mk h0
  clear hJ hY h0
  have f0 := wide_fn HF 93
  have n1 : 1 ≤ n := by omega
  have n2 : 1 ≤ n - 1 := by omega
  have hro := wide_round HF
  refine callsIn_of_wp Tryd.func92 rfl (wide_fn HF _) ?_ (wide_round HF)
  simp only [Tryd.ntmps92, List.size_toArray, List.length_cons, List.length_nil, Nat.reduceAdd, Nat.reduceSub, Array.replicate_succ, Array.replicate_zero, List.push_toArray, List.append_toArray, List.nil_append, List.cons_append]
  gi_wp2
  gi_loopw [4] (fun v wr => ∃ k : Nat, v = .int .i64 (64 * (k : Int)) ∧ Aside0 (k ≤ nwords s.size) ∧ Aside0 (J ((List.finRange (nwords s.size)).take k) wr) ∧ Blk wr g1 #[.string s] 9 ∧ Blk wr g2 #[.int .u8 pad] 5) (fun v _ => 64 * nwords s.size - (intOf v).toNat)
  case atStart => exact ⟨0, rfl, ⟨Nat.zero_le _⟩, HJ0, B1, B2⟩
  case round =>
    clear B1 B2 HJ0
    obtain ⟨k, rfl, HK, HJk, B1, B2⟩ := hrel
    have c1 := B1.cell (i := 0) rfl
    have c2 := B2.cell (i := 0) rfl
    have HB := BelowH.refl wr
    by_cases hlt : 64 * (k : Int) < s.size
    · have K1 : Aside0 (64 * (k : Int) < s.size) := ⟨hlt⟩
      have KN : Aside0 (k < nwords s.size) := ⟨by unfold nwords; omega⟩
      have KT := Aside0.mk (finRange_take (nwords s.size) k KN.out)
      gi_wp2_with (first
        | (gi_at_call 93; refine (callsIn_of HF (block_Cut.calls s (64 * (k : Int)) pad _ hs)).mono ?_; rintro e w3 ⟨rfl, hb3⟩; have D1 := B1.below hb3; have D2 := B2.below hb3; have HB3 := HB.step hb3; clear hb3)
        | ((with_reducible refine gate_dstIn (N := 5) rfl ?_); refine ev_allocIn HB3 rfl rfl (blkA fun _ => 0) 85 ?hr ?_; (case hr => (rw [← blkA_zero]; go_simp; rfl)); intro g5 w4 G_g5 GE_g5 B_g5 HB4 K_g5 KO5; have E1 := D1.below K_g5.out; have E2 := D2.below K_g5.out)
        | ((with_reducible refine gate_In (Op.store 85 (.tmp 5) (.tmp 18)) rfl ?_); refine ev_storeIn HB4 B_g5 GE_g5 rfl 85 _ _ rfl rfl rfl (size64' _) (by rw [blkA_size, blkA_size]) (blkA_one _) ?_; intro w5 B5 HB5 K_w5 KO_w5; have N1 := Aside0.mk (show g1 ≠ g5 by have := D1.lt; have := G_g5.out; omega); have N2 := Aside0.mk (show g2 ≠ g5 by have := D2.lt; have := G_g5.out; omega); have F1 := E1.other K_w5 N1.out; have F2 := E2.other K_w5 N2.out)
        | ((with_reducible refine gate_dstIn (N := 22) rfl ?_); refine ev_loadIn B5 rfl 85 _ rfl rfl Tryd.underlying85 (size64' _) ?_; have HJ5 := Aside0.mk (HJ.out _ _ _ HJk.out HB5.out); obtain ⟨fn, tmps, assign, body, hy, hR⟩ := HY.out ((List.finRange (nwords s.size)).take k) ⟨k, KN.out⟩ _ HJ5.out (by rw [List.length_take, List.length_finRange]; have := KN.out; omega); have HR := Aside0.mk hR; clear hR; dsimp only [blkEnc] at hy))
      refine HR.out.mono ?_
      rintro e W6 (⟨rfl, hJ6, hk6⟩ | ⟨rfl, hJx6⟩)
      · have G1 : Blk W6 g1 #[.string s] 9 := ⟨hk6.1.trans F1.out⟩
        have G2 : Blk W6 g2 #[.int .u8 pad] 5 := ⟨hk6.2.1.trans F2.out⟩
        have HJ6 := Aside0.mk (show J ((List.finRange (nwords s.size)).take (k + 1)) W6 by rw [KT.out]; exact hJ6)
        clear hJ6 hk6
        gi_wp2
        go_roundw
        case rel => exact ⟨k + 1, by simp; omega, ⟨by unfold nwords; have := K1.out; omega⟩, HJ6, G1, G2⟩
        case measure => simp [intOf, nwords]; have := K1.out; omega
      · have HJ6 := Aside0.mk hJx6
        clear hJx6
        gi_wp2
        refine bodyPost_ret (results_none rfl _ _ _) rfl ?_
        refine ⟨⟨_, rfl⟩, .inr ⟨_, ?_, HJ6.out⟩⟩
        rw [← KT.out]
        exact List.take_prefix _ _
    · have EK : k = nwords s.size := by
        have h1 := HK.out
        unfold nwords at *
        omega
      have HE := Aside0.mk EK
      clear EK
      gi_wp2
      go_end0
      have h := HJk.out
      rw [HE.out, List.take_of_length_le (by rw [List.length_finRange]; exact Nat.le_refl _)] at h
      exact ⟨⟨_, rfl⟩, .inl h⟩
/-- What Blocks hands back tells the blocks, in order. -/
theorem block_Blocks_1.stops (F : Fence) (HF : Aside0 (F = Fence.wide)) (n : Nat) (hn : 3 ≤ n) (g1 g2 : Nat) (s : ByteArray) (pad : Int) (hs : s.size ≤ 281474976702464) (w : World)
    (B1 : Blk w g1 #[.string s] 9) (B2 : Blk w g2 #[.int .u8 pad] 5) :
    SeqStopsK F n Tryd.prog 92 #[.pointer (some ⟨g1, 0, none⟩), .pointer (some ⟨g2, 0, none⟩)] (fun x : Fin (nwords s.size) => blkEnc s pad x.val) (Keep2 g1 g2) (fun ys => ys = List.finRange (nwords s.size)) (fun pre => pre <+: List.finRange (nwords s.size)) (nwords s.size) w := by
  intro l J Jx W hW hJ _ hY h0
  exact block_Blocks_1.walk F HF n hn l g1 g2 s pad hs J Jx W
    (fun pre A B hA hb => hJ pre A B none hA ⟨hb.os, hb.tape, hb.output, hb.size, fun k hk _ => hb.block k hk⟩ (fun r e => by cases e))
    hY (B1.below hW) (B2.below hW) h0
end


open Go.Proofs.YtgddljealeklkaaDoorQ Go.Proofs.YtgddljealeklkaaDoorM in
set_option maxHeartbeats 4000000 in
set_option maxRecDepth 100000 in
theorem block_Blocks.calls (s : ByteArray) (pad : Int) (w : World) :
    Calls Tryd.prog 55 #[.string s, .int .u8 pad] w fun e w' => ∃ g1 g2 : Nat, e = .returned (.func (.func 92) #[] #[.pointer (some ⟨g1, 0, none⟩), .pointer (some ⟨g2, 0, none⟩)]) ∧
      w.heap.size ≤ g1 ∧ w.heap.size ≤ g2 ∧ Blk w' g1 #[.string s] 9 ∧ Blk w' g2 #[.int .u8 pad] 5 ∧ BelowH w w' := by
  have HB := BelowH.refl w
  go_enter Tryd.func55, Tryd.ntmps55
  go_wp2_with (first | ((with_reducible refine gate_dst (N := 2) rfl ?_); refine ev_alloc HB rfl (#[.string s]) 9 ?hr ?_; (case hr => first | (go_simp; done) | (go_simp; rfl)); intro g1 w1 G_g1 GE_g1 B_g1 HBn K_g1; clear HB; have HB := HBn; clear HBn) | ((with_reducible refine gate_dst (N := 3) rfl ?_); refine ev_alloc HB rfl (#[.int .u8 pad]) 5 ?hr ?_; (case hr => first | (go_simp; done) | (go_simp; rfl)); intro g2 w2 G_g2 GE_g2 B_g2 HBn K_g2; clear HB; have HB := HBn; clear HBn))
  go_ret
  exact ⟨g1, g2, rfl, GE_g1.out, GE_g2.out, B_g1.below K_g2.out, B_g2, HB⟩


open Go.Proofs.YtgddljealeklkaaDoorQ Go.Proofs.YtgddljealeklkaaDoorM in
set_option maxHeartbeats 4000000 in
set_option maxRecDepth 100000 in
theorem lanes_Load.calls (f : Nat → Int) (hf : ∀ i, 0 ≤ f i ∧ f i < 256) (w : World) :
    Calls Tryd.prog 94 #[.agg (arrA 8 f)] w fun e w' => e = .returned (.int .u64 (loadN f 8 : Nat)) ∧ Below w.heap.size w w' := by
  have HB := BelowH.refl w
  have HF := Aside0.mk fun i => hf i
  clear hf
  go_enter Tryd.func94, Tryd.ntmps94
  go_wp2_with (first
    | ((with_reducible refine gate_dst (N := 1) rfl ?_); refine ev_alloc HB rfl (arrA 8 f) 122 ?hr ?_; (case hr => first | (go_simp; done) | (go_simp; rfl)); intro g1 w1 G_g1 GE_g1 B_g1 HBn K_g1; clear HB; have HB := HBn; clear HBn))
  go_loopw [3, 6] (fun v3 v6 wr => ∃ i : Nat, i ≤ 8 ∧ v6 = .int .i64 i ∧ v3 = .int .u64 (loadN f i : Nat) ∧ Blk wr g1 (arrA 8 f) 122 ∧ BelowH w wr) (fun _ v6 _ => 8 - (intOf v6).toNat)
  case atStart => exact ⟨0, by omega, rfl, rfl, B_g1, HB⟩
  case round =>
    clear B_g1 HB
    obtain ⟨i, hi, rfl, rfl, B1, HB⟩ := hrel
    by_cases hlt : i < 8
    · have hc := B1.cell (arrA_get 8 f hlt)
      have h1 : (i : Int) < 8 := by omega
      go_wp2
      go_quiet (fail)
      go_wp2
      go_roundw
      case rel =>
        refine ⟨i + 1, by omega, by go_num, ?_, B1.drewN _, HB.drewN _⟩
        rw [load_step f HF.out hlt]
      case measure => simp [intOf]; omega
    · go_wp2
      go_ret
      obtain rfl : i = 8 := by omega
      exact ⟨rfl, HB.out⟩


def lanes_Fill.f (a0 : Int) : Option (Int) := some (IntKind.u64.wrap (72340172838076673 * (IntKind.u64.wrap (a0))))
set_option maxHeartbeats 8000000 in
set_option maxRecDepth 100000 in
theorem lanes_Fill.calls (a0 : Int) (r : Int) (w : World) (h : lanes_Fill.f a0 = some r) :
    Calls Tryd.prog 113 #[.int .u8 a0] w fun e w' => e = .returned (.int .u64 r) ∧ Drawn0 w w' := by
  have H : (some (IntKind.u64.wrap (72340172838076673 * (IntKind.u64.wrap (a0))))) = some r := h
  clear h
  obtain rfl := Option.some.inj H
  go_enter Tryd.func113, Tryd.ntmps113
  go_wp2
  go_ret
  exact ⟨by first | rfl | (simp; done) | (simp [*]; done), by repeat (first | exact Drawn0.refl _ | apply Drawn0.step)⟩

def lanes_tops.f (a0 : Int) : Option (Int) := some (((IntKind.u64.wrap (((Go.bits .and .u64 a0 9259542123273814144) / 128) * 72624976668147840)) / 72057594037927936) % 256)
set_option maxHeartbeats 8000000 in
set_option maxRecDepth 100000 in
theorem lanes_tops.calls (a0 : Int) (r : Int) (w : World) (h : lanes_tops.f a0 = some r) :
    Calls Tryd.prog 114 #[.int .u64 a0] w fun e w' => e = .returned (.int .u8 r) ∧ Drawn0 w w' := by
  have H : (some (((IntKind.u64.wrap (((Go.bits .and .u64 a0 9259542123273814144) / 128) * 72624976668147840)) / 72057594037927936) % 256)) = some r := h
  clear h
  obtain rfl := Option.some.inj H
  go_enter Tryd.func114, Tryd.ntmps114
  go_wp2
  go_ret
  exact ⟨by first | rfl | (simp; done) | (simp [*]; done), by repeat (first | exact Drawn0.refl _ | apply Drawn0.step)⟩

open Go.Proofs.YtgddljealeklkaaDoorQ Go.Proofs.YtgddljealeklkaaDoorM in
set_option maxHeartbeats 4000000 in
set_option maxRecDepth 100000 in
theorem lanes_Equal.calls (f : Nat → Int) (hf : ∀ i, 0 ≤ f i ∧ f i < 256) (c : Int) (h0 : 0 ≤ c) (h1 : c < 256) (w : World) :
    Calls Tryd.prog 95 #[.int .u64 (loadN f 8 : Nat), .int .u8 c] w fun e w' => e = .returned (.int .u8 (wordN (fun j => decide (f j = c)) 8 : Nat)) ∧ Drawn0 w w' := by
  have E := Aside0.mk (equal_lanes f hf c h0 h1)
  clear hf h0 h1
  obtain ⟨x, hx⟩ : ∃ x : Int, x = ((loadN f 8 : Nat) : Int) := ⟨_, rfl⟩
  rw [← hx] at E ⊢
  clear hx
  go_enter Tryd.func95, Tryd.ntmps95
  go_wp2_with (first
    | (go_at_call 113; refine (lanes_Fill.calls c _ _ rfl).mono ?_; rintro e w' ⟨rfl, ⟨nd, rfl⟩⟩)
    | (go_at_call 114; refine (lanes_tops.calls _ _ _ rfl).mono ?_; rintro e w' ⟨rfl, ⟨nd2, rfl⟩⟩))
  go_ret
  refine ⟨?_, ?_⟩
  · rw [← E.out]; rfl
  · repeat (first | exact Drawn0.refl _ | apply Drawn0.step)


open Go.Proofs.YtgddljealeklkaaDoorQ Go.Proofs.YtgddljealeklkaaDoorM in
theorem size8' (f : Nat → Int) : (Tryd.prog.info? 122).map (·.size) = some (arrA 8 f).size := by
  rw [arrA_size]
  kernel_rfl
open Go.Proofs.YtgddljealeklkaaDoorQ Go.Proofs.YtgddljealeklkaaDoorM in
set_option maxHeartbeats 4000000 in
set_option maxRecDepth 100000 in
theorem block_Equal.calls (f : Nat → Int) (hf : ∀ i, 0 ≤ f i ∧ f i < 256) (c : Int) (h0 : 0 ≤ c) (h1 : c < 256) (w : World) :
    Calls Tryd.prog 56 #[.agg (blkA f), .int .u8 c] w fun e w' => e = .returned (.int .u64 (iv (word fun j => decide (f j = c)))) ∧ Below w.heap.size w w' := by
  have HB := BelowH.refl w
  have HF := Aside0.mk fun i => hf i
  have H0 := Aside0.mk h0
  have H1 := Aside0.mk h1
  clear hf h0 h1
  go_enter Tryd.func56, Tryd.ntmps56
  go_wp2_with (first | ((with_reducible refine gate_dst (N := 2) rfl ?_); refine ev_alloc HB rfl (blkA f) 85 ?hr ?_; (case hr => first | (go_simp; done) | (go_simp; rfl)); intro g1 w1 G_g1 GE_g1 B_g1 HBn K_g1; clear HB; have HB := HBn; clear HBn))
  go_loopw [5, 6] (fun v5 v6 wr => ∃ i : Nat, i ≤ 8 ∧ v6 = .int .i64 (8 * (i : Int)) ∧ v5 = .int .u64 (wordN (fun j => decide (f j = c)) (8 * i) : Nat) ∧ Blk wr g1 (blkA f) 85 ∧ BelowH w wr) (fun _ v6 _ => 64 - (intOf v6).toNat)
  case atStart => exact ⟨0, by omega, rfl, rfl, B_g1, HB⟩
  case round =>
    clear B_g1 HB
    obtain ⟨i, hi, rfl, rfl, B1, HB⟩ := hrel
    by_cases hlt : i < 8
    · have k1 : 8 * (i : Int) < 64 := by omega
      have KI := Aside0.mk hlt
      have K2 : Aside0 (∀ j, j < 8 → (blkA f)[8 * i + j]? = some (.int .u8 (f (8 * i + j)))) := ⟨fun j hj => blkA_get f (by omega)⟩
      have K3 : Aside0 (∀ j, 0 ≤ f (8 * i + j) ∧ f (8 * i + j) < 256) := ⟨fun j => HF.out _⟩
      go_wp2_with (first
        | ((with_reducible refine gate_dst (N := 15) rfl ?_); refine ev_sliceArr rfl 85 _ _ _ rfl g1 (8 * i) (8 * i + 8) 64 _ _ 5 rfl rfl rfl (by omega) (by omega) Tryd.underlying85 (by kernel_rfl) (by omega) (by omega) (by omega) ?_)
        | ((with_reducible refine gate_dst (N := 16) rfl ?_); refine ev_arrayAt rfl 122 _ rfl ⟨g1, 8 * i, none⟩ _ _ 8 5 rfl Tryd.underlying122 (by omega) ?_)
        | ((with_reducible refine gate_dst (N := 17) rfl ?_); refine ev_load_mid rfl 122 _ rfl g1 (8 * i) rfl (arrA 8 fun j => f (8 * i + j)) (fun j hj => by rw [arrA_size] at hj; rw [blk_cell B1.out, K2.out j hj, arrA_get 8 _ hj]) Tryd.underlying122 (size8' _) ?_)
        | (go_at_call 94; refine (lanes_Load.calls _ K3.out _).mono ?_; rintro e w2 ⟨rfl, hb2⟩; have B2 := B1.below hb2; have HB2 := HB.step hb2; clear hb2)
        | (go_at_call 95; refine (lanes_Equal.calls _ K3.out c H0.out H1.out _).mono ?_; rintro e w3 ⟨rfl, ⟨nd, rfl⟩⟩))
      go_roundw
      case rel =>
        refine ⟨i + 1, by omega, by simp; omega, ?_, B2.drewN _, HB2.drewN _⟩
        rw [← eight_step _ KI.out]
      case measure => simp [intOf]; omega
    · obtain rfl : i = 8 := by omega
      go_wp2
      go_ret
      exact ⟨by rw [iv_word]; rfl, HB.out⟩


def words_Escaped.f (a0 : Int) (a1 : Bool) : Option (Int × Bool) := if a1 = true then (some (Go.bits .xor .u64 (Go.bits .xor .u64 (IntKind.u64.wrap ((Go.bits .or .u64 (IntKind.u64.wrap ((Go.bits .andNot .u64 a0 1) * 2)) 12297829382473034410) - (Go.bits .andNot .u64 a0 1))) 12297829382473034410) (Go.bits .or .u64 a0 1), (((Go.bits .and .u64 (Go.bits .xor .u64 (IntKind.u64.wrap ((Go.bits .or .u64 (IntKind.u64.wrap ((Go.bits .andNot .u64 a0 1) * 2)) 12297829382473034410) - (Go.bits .andNot .u64 a0 1))) 12297829382473034410) a0) / 9223372036854775808) != 0))) else (some (Go.bits .xor .u64 (Go.bits .xor .u64 (IntKind.u64.wrap ((Go.bits .or .u64 (IntKind.u64.wrap ((Go.bits .andNot .u64 a0 0) * 2)) 12297829382473034410) - (Go.bits .andNot .u64 a0 0))) 12297829382473034410) (Go.bits .or .u64 a0 0), (((Go.bits .and .u64 (Go.bits .xor .u64 (IntKind.u64.wrap ((Go.bits .or .u64 (IntKind.u64.wrap ((Go.bits .andNot .u64 a0 0) * 2)) 12297829382473034410) - (Go.bits .andNot .u64 a0 0))) 12297829382473034410) a0) / 9223372036854775808) != 0)))
set_option maxHeartbeats 8000000 in
set_option maxRecDepth 100000 in
theorem words_Escaped.calls (a0 : Int) (a1 : Bool) (r1 : Int) (r2 : Bool) (w : World) (h : words_Escaped.f a0 a1 = some (r1, r2)) :
    Calls Tryd.prog 91 #[.int .u64 a0, .bool a1] w fun e w' => e = .returned (.tuple #[.int .u64 r1, .bool r2]) ∧ Drawn0 w w' := by
  have H : (if a1 = true then (some (Go.bits .xor .u64 (Go.bits .xor .u64 (IntKind.u64.wrap ((Go.bits .or .u64 (IntKind.u64.wrap ((Go.bits .andNot .u64 a0 1) * 2)) 12297829382473034410) - (Go.bits .andNot .u64 a0 1))) 12297829382473034410) (Go.bits .or .u64 a0 1), (((Go.bits .and .u64 (Go.bits .xor .u64 (IntKind.u64.wrap ((Go.bits .or .u64 (IntKind.u64.wrap ((Go.bits .andNot .u64 a0 1) * 2)) 12297829382473034410) - (Go.bits .andNot .u64 a0 1))) 12297829382473034410) a0) / 9223372036854775808) != 0))) else (some (Go.bits .xor .u64 (Go.bits .xor .u64 (IntKind.u64.wrap ((Go.bits .or .u64 (IntKind.u64.wrap ((Go.bits .andNot .u64 a0 0) * 2)) 12297829382473034410) - (Go.bits .andNot .u64 a0 0))) 12297829382473034410) (Go.bits .or .u64 a0 0), (((Go.bits .and .u64 (Go.bits .xor .u64 (IntKind.u64.wrap ((Go.bits .or .u64 (IntKind.u64.wrap ((Go.bits .andNot .u64 a0 0) * 2)) 12297829382473034410) - (Go.bits .andNot .u64 a0 0))) 12297829382473034410) a0) / 9223372036854775808) != 0)))) = some (r1, r2) := h
  clear h
  by_cases c3 : a1 = true
  · subst c3
    have H1 : (some (Go.bits .xor .u64 (Go.bits .xor .u64 (IntKind.u64.wrap ((Go.bits .or .u64 (IntKind.u64.wrap ((Go.bits .andNot .u64 a0 1) * 2)) 12297829382473034410) - (Go.bits .andNot .u64 a0 1))) 12297829382473034410) (Go.bits .or .u64 a0 1), (((Go.bits .and .u64 (Go.bits .xor .u64 (IntKind.u64.wrap ((Go.bits .or .u64 (IntKind.u64.wrap ((Go.bits .andNot .u64 a0 1) * 2)) 12297829382473034410) - (Go.bits .andNot .u64 a0 1))) 12297829382473034410) a0) / 9223372036854775808) != 0))) = some (r1, r2) := by rw [if_pos rfl] at H; exact H
    clear H
    have H := H1
    clear H1
    simp only [Option.some.injEq, Prod.mk.injEq] at H
    obtain ⟨rfl, rfl⟩ := H
    go_enter Tryd.func91, Tryd.ntmps91
    go_wp2
    go_ret2
    exact ⟨by first | rfl | (simp; done) | (simp [*]; done), by repeat (first | exact Drawn0.refl _ | apply Drawn0.step)⟩
  · replace c3 := Bool.eq_false_iff.mpr c3
    subst c3
    have H1 : (some (Go.bits .xor .u64 (Go.bits .xor .u64 (IntKind.u64.wrap ((Go.bits .or .u64 (IntKind.u64.wrap ((Go.bits .andNot .u64 a0 0) * 2)) 12297829382473034410) - (Go.bits .andNot .u64 a0 0))) 12297829382473034410) (Go.bits .or .u64 a0 0), (((Go.bits .and .u64 (Go.bits .xor .u64 (IntKind.u64.wrap ((Go.bits .or .u64 (IntKind.u64.wrap ((Go.bits .andNot .u64 a0 0) * 2)) 12297829382473034410) - (Go.bits .andNot .u64 a0 0))) 12297829382473034410) a0) / 9223372036854775808) != 0))) = some (r1, r2) := by rw [if_neg (show ¬ (false = true) by decide)] at H; exact H
    clear H
    have H := H1
    clear H1
    simp only [Option.some.injEq, Prod.mk.injEq] at H
    obtain ⟨rfl, rfl⟩ := H
    go_enter Tryd.func91, Tryd.ntmps91
    go_wp2
    go_ret2
    exact ⟨by first | rfl | (simp; done) | (simp [*]; done), by repeat (first | exact Drawn0.refl _ | apply Drawn0.step)⟩

section
open Go.Proofs.YtgddljealeklkaaDoorQ Go.Proofs.YtgddljealeklkaaDoorM Go.Shelf
theorem words_Escaped.tells (q : Nat → Bool) (c : Bool) : words_Escaped.f (iv (word q)) c = some (iv (word (escW q c)), escW q c 64) := by
  have e1 : (12297829382473034410 : Int) = iv oddsW := by decide
  have e2 : (1 : Int) = iv 1#64 := by decide
  have e3 : (0 : Int) = iv 0#64 := by decide
  have e4 : ∀ v : BitVec 64, iv v / (9223372036854775808 : Int) = iv (v >>> 63) := fun v => shr_iv v 63
  have e5 : ∀ v : BitVec 64, IntKind.u64.wrap (iv v * 2) = iv (v <<< 1) := fun v => wrap_shl v 1
  have e6 : ∀ v w : BitVec 64, (iv v != iv w) = (v != w) := fun v w => by
    rw [Bool.eq_iff_iff, bne_iff_ne, bne_iff_ne, ne_eq, ne_eq, iv_inj]
  have h1 := escaped_word q c
  have h2 := escaped_carry q c
  unfold words_Escaped.f
  cases c
  · simp only [Bool.false_eq_true, if_false] at h1 h2 ⊢
    rw [e1, e3, bits_andNot, e5, bits_or, wrap_sub, bits_xor, bits_or, bits_xor, bits_and, e4, e6, h1, h2]
  · simp only [if_true] at h1 h2 ⊢
    rw [e1, e2, e3, bits_andNot, e5, bits_or, wrap_sub, bits_xor, bits_or, bits_xor, bits_and, e4, e6, h1, h2]

attribute [local go_sem] Oper.semAt_some
/-- Between two blocks. -/
structure EscI (s : ByteArray) (w : World) (L : List (Nat × Array Value × Nat)) (m g3 g4 : Nat) {n : Nat} (pre : List (Fin n)) (W : World) : Prop where mk ::
  bs : Blks L W
  b4 : Blk W g4 #[.bool (foldE s pre).1] 4
  row : ∃ v, Blk W g3 #[.int .i64 s.size, v] 34 ∧ W.ownsRow w.heap.size 75 1 v pre.length ((foldE s pre).2.map (Value.int .u64))
  hb : BelowH w W
  sz : m ≤ W.heap.size
theorem EscI.kept {s : ByteArray} {w W W' : World} {L : List (Nat × Array Value × Nat)} {m g3 g4 n : Nat} {pre : List (Fin n)} (h : EscI s w L m g3 g4 pre W) {B : Nat} (hB : w.heap.size ≤ B) {row : Option Nat} (hg : W.grownBy W' row) (hr : ∀ r, row = some r → B ≤ r ∧ ∃ o : Obj, W.heap[r]? = some o ∧ o.isCells = false) : EscI s w L m g3 g4 pre W' := by
  have hr' : ∀ r, row = some r → ∃ o : Obj, W.heap[r]? = some o ∧ o.isCells = false := fun r e => (hr r e).2
  obtain ⟨v, b3, hrow⟩ := h.row
  exact ⟨h.bs.kept hg hr', h.b4.kept hg hr', ⟨v, b3.kept hg hr', row_kept hrow hg hr'⟩, h.hb.kept hg hB (fun r e => (hr r e).1), Nat.le_trans h.sz hg.size⟩
def escape_Escaped.f (a0 : ByteArray) : Option (Int × List Int) := if a0.size ≤ 281474976702464 then some ((a0.size : Int), wordsOf a0.size (esc a0 false)) else none
set_option maxHeartbeats 4000000 in
set_option maxRecDepth 100000 in
theorem escape_Escaped.walk (s : ByteArray) (w : World) (hs : s.size ≤ 281474976702464) :
    Calls Tryd.prog 54 #[.string s] w fun e w' => ∃ v1_ : Value, e = .returned (.agg #[.int .i64 s.size, v1_]) ∧ w'.ownsRow w.heap.size 75 1 v1_ (nwords s.size) ((wordsOf s.size (esc s false)).map (Value.int .u64)) ∧ Below w.heap.size w w' := by
  obtain ⟨F, hF⟩ : ∃ F, F = Fence.wide := ⟨_, rfl⟩
  have HF := Aside0.mk hF
  refine (callsIn_wide (n := 9)).1 ?_
  rw [← hF]
  clear hF
  have hro := wide_round HF
  have HB := BelowH.refl w
  have f1 := wide_fn HF 55
  have f2 := wide_fn HF 92
  have f3 := wide_fn HF 56
  have f4 := wide_fn HF 91
  refine callsIn_of_wp_marks Tryd.func54 rfl (wide_fn HF _) ?_ hro
  simp only [Tryd.ntmps54, List.size_toArray, List.length_cons, List.length_nil, Nat.reduceAdd, Nat.reduceSub, Array.replicate_succ, Array.replicate_zero, List.push_toArray, List.append_toArray, List.nil_append, List.cons_append]
  gi_wp2_with (first
    | ((with_reducible refine gate_dstIn (N := 1) rfl ?_); refine ev_allocIn HB rfl rfl (#[.string s]) 9 ?hr ?_; (case hr => first | (go_simp; done) | (go_simp; rfl)); intro g1 w1 G_g1 GE_g1 B_g1 HBn K_g1 KO_w1; clear HB; have HB := HBn; clear HBn)
    | ((with_reducible refine gate_dstIn (N := 2) rfl ?_); refine ev_allocIn HB rfl rfl (#[.int .i64 0, .slice none 0 0]) 34 ?hr ?_; (case hr => first | (go_simp; done) | (go_simp; rfl)); intro g2 w2 G_g2 GE_g2 B_g2 HBn K_g2 KO_w2; clear HB; have HB := HBn; clear HBn))
  refine wpIn_scope HF ?_
  have c1 := (B_g1.below K_g2.out).cell (i := 0) rfl
  gi_wp2_with (first
    | ((with_reducible refine gate_dstIn (N := 3) rfl ?_); refine ev_allocIn HB rfl rfl (#[.int .i64 0, .slice none 0 0]) 34 ?hr ?_; (case hr => first | (go_simp; done) | (go_simp; rfl)); intro g3 w3 G_g3 GE_g3 B_g3 HBn K_g3 KO_w3; clear HB; have HB := HBn; clear HBn)
    | ((with_reducible refine gate_In (Op.store 34 (.tmp 3) (.tmp 12)) rfl ?_); refine ev_storeIn HB B_g3 GE_g3 rfl 34 _ _ rfl rfl rfl (by kernel_rfl) rfl (by simp [Value.oneCell']) ?_; intro w4 B3 HBn K_w4 KO_w4; clear HB; have HB := HBn; clear HBn)
    | ((with_reducible refine gate_dstIn (N := 4) rfl ?_); refine ev_allocIn HB rfl rfl (#[.bool false]) 4 ?hr ?_; (case hr => first | (go_simp; done) | (go_simp; rfl)); intro g4 w5 G_g4 GE_g4 B_g4 HBn K_g4 KO_w5; clear HB; have HB := HBn; clear HBn)
    | ((with_reducible refine gate_In (Op.store 4 (.tmp 4) (.const (.bool false))) rfl ?_); refine ev_store1In (i := 0) HB B_g4 GE_g4 rfl 4 _ _ rfl rfl (.bool false) rfl (by simp) (by kernel_rfl) rfl ?_; intro w6 B4 HBn K_w6 KO_w6; clear HB; have HB := HBn; clear HBn))
  refine wpIn_label ?_
  have N13 := Aside0.mk (show g1 < g3 by have := B_g1.lt; have := G_g2.out; have := G_g3.out; have := B_g2.lt; omega)
  have N23 := Aside0.mk (show g2 < g3 by have := G_g3.out; have := B_g2.lt; omega)
  have N34 := Aside0.mk (show g3 < g4 by have := G_g4.out; have := B3.lt; omega)
  have B1 := ((((B_g1.below K_g2.out).below K_g3.out).other K_w4 (Nat.ne_of_lt N13.out)).below K_g4.out).other K_w6 (Nat.ne_of_lt (Nat.lt_trans N13.out N34.out))
  have B2 := (((B_g2.below K_g3.out).other K_w4 (Nat.ne_of_lt N23.out)).below K_g4.out).other K_w6 (Nat.ne_of_lt (Nat.lt_trans N23.out N34.out))
  have D3 := (B3.below K_g4.out).other K_w6 (Nat.ne_of_lt N34.out)
  clear c1 B_g1 B_g2 B_g3 B_g4 B3 K_g1 K_g2 K_g3 K_g4 K_w4 K_w6 KO_w1 KO_w2 KO_w3 KO_w4 KO_w5 KO_w6
  have c1 := B1.cell (i := 0) rfl
  gi_wp2_with (first
    | (gi_at_call 55; refine (callsIn_of HF (block_Blocks.calls s 32 _)).mono ?_; rintro e w7 ⟨h1, h2, rfl, GE1, GE2, A1, A2, HB7⟩))
  obtain ⟨L, hL⟩ : ∃ L : List (Nat × Array Value × Nat), L = [(g1, #[.string s], 9), (g2, #[.int .i64 0, .slice none 0 0], 34), (h1, #[.string s], 9), (h2, #[.int .u8 32], 5)] := ⟨_, rfl⟩
  have CL : Blks L w7 := ⟨by
    rw [hL]
    intro b m
    simp at m
    rcases m with rfl | rfl | rfl | rfl
    · exact B1.below HB7.out
    · exact B2.below HB7.out
    · exact A1
    · exact A2⟩
  have C3 := D3.below HB7.out
  have C4 := B4.below HB7.out
  have L3 := C3.lt
  have L4 := C4.lt
  have LL : ∀ b ∈ L, b.1 < w7.heap.size := fun b m => (CL.out b m).lt
  have LT : ∀ b ∈ L, b.2.2 ≠ 75 := by
    rw [hL]
    intro b m
    simp at m
    rcases m with rfl | rfl | rfl | rfl <;> (dsimp only; decide)
  have LN3 : ∀ b ∈ L, b.1 ≠ g3 := by
    have := D3.lt
    have := N13.out
    have := N23.out
    rw [hL]
    intro b m
    simp at m
    rcases m with rfl | rfl | rfl | rfl <;> (dsimp only; omega)
  have LN4 : ∀ b ∈ L, b.1 ≠ g4 := by
    have := B4.lt
    have := N13.out
    have := N23.out
    have := N34.out
    rw [hL]
    intro b m
    simp at m
    rcases m with rfl | rfl | rfl | rfl <;> (dsimp only; omega)
  have M1 : (g1, #[.string s], 9) ∈ L := by rw [hL]; simp
  have M2 : (g2, #[.int .i64 0, .slice none 0 0], 34) ∈ L := by rw [hL]; simp
  have M3 : (h1, #[.string s], 9) ∈ L := by rw [hL]; simp
  have M4 : (h2, #[.int .u8 32], 5) ∈ L := by rw [hL]; simp
  have HBW := HB.step HB7.out
  have LH1 := A1.lt
  have LH2 := A2.lt
  have N34' := N34.out
  have PL := Aside0.mk (And.intro LL (And.intro LT (And.intro LN3 LN4)))
  have PM := Aside0.mk (And.intro M1 (And.intro M2 (And.intro M3 M4)))
  clear B1 B2 D3 B4 HB7 HB c1 f1 hL LL LT LN3 LN4 M1 M2 M3 M4 N13 N23 N34
  refine wpIn_rangeFunc_ownH hro (by decide) (gf := 92) (lb := #[.pointer (some ⟨h1, 0, none⟩), .pointer (some ⟨h2, 0, none⟩)]) rfl f2 (enters_of Tryd.func92 (by kernel_rfl) rfl)
    (block_Blocks_1.stops F HF (9 - 1) (by decide) h1 h2 s 32 hs w7 A1 A2) Keep2.trans (fun W l o o' hl ho hc hw => Keep2.putObj LH1 LH2 W l o o' hl ho hc hw) (Below.refl _ _) (fun _ => rfl)
    (EscI s w L w7.heap.size g3 g4) (fun _ _ _ => False)
    (fun pre A B row hs hg hr => hs.kept HBW.le hg hr)
    (fun _ _ _ _ _ hs _ _ => hs)
    ⟨CL, C4, ⟨_, C3, World.ownsRow_nil _ _ _ _⟩, HBW, Nat.le_refl _⟩
    (fun x a' W => ∃ gb, w7.heap.size ≤ gb ∧ Blk W gb (blkA (cutF s (64 * ((x.val : Nat) : Int)) 32)) 85 ∧ a' = { tmps := #[.string s, .pointer (some ⟨g1, 0, none⟩), .pointer (some ⟨g2, 0, none⟩), .pointer (some ⟨g3, 0, none⟩), .pointer (some ⟨g4, 0, none⟩), .int .i64 (64 * ((x.val : Nat) : Int)), .pointer (some ⟨gb, 0, none⟩), undef, undef, undef, .string s, .int .i64 s.size, .agg #[.int .i64 s.size, .slice none 0 0], .string s, .func (.func 92) #[] #[.pointer (some ⟨h1, 0, none⟩), .pointer (some ⟨h2, 0, none⟩)], .int .i64 (64 * ((x.val : Nat) : Int)), .agg (blkA (cutF s (64 * ((x.val : Nat) : Int)) 32)), undef, undef, undef, undef, undef, undef, undef, undef, undef, undef, undef, undef, undef, undef, undef, undef, undef, undef, undef, undef, undef, undef, undef, undef, undef, undef, undef, undef, undef, undef, undef, undef, undef, undef, undef, undef, undef], defers := [] })
    (fun x a' pre A B row hs hg hr => by
      obtain ⟨gb, h1, h2, h3⟩ := hs
      exact ⟨gb, h1, h2.kept hg (fun r e => (hr r e).2), h3⟩)
    ?assign ?body ?done ?stop
  case assign =>
    intro l pre x W K hI hK
    have HB := hI.hb
    have SZ := Aside0.mk hI.sz
    dsimp only [blkEnc]
    gi_wp2_with (first
      | ((with_reducible refine gate_dstIn (N := 6) rfl ?_); refine ev_allocIn HB rfl rfl (blkA fun _ => 0) 85 ?hr ?_; (case hr => (rw [← blkA_zero]; go_simp; rfl)); intro gb w8 G_gb GE_gb B_gb HBn K_gb KO_w8; clear HB; have HB := HBn; clear HBn)
      | ((with_reducible refine gate_In (Op.store 85 (.tmp 6) (.tmp 16)) rfl ?_); refine ev_storeIn HB B_gb GE_gb rfl 85 _ _ rfl rfl rfl (size64' _) (by rw [blkA_size, blkA_size]) (blkA_one _) ?_; intro w9 B9 HBn K_w9 KO_w9; clear HB; have HB := HBn; clear HBn))
    have hKO := KO_w8.out.trans KO_w9.out
    refine hK _ _ (hKO.from _) ?_ ?_ ⟨gb, Nat.le_trans SZ.out G_gb.out, B9, rfl⟩
    · exact (Keep2.below K_gb.out (by have := SZ.out; omega) (by have := SZ.out; omega)).trans (Keep2.other K_w9 (by have := SZ.out; have := G_gb.out; omega) (by have := SZ.out; have := G_gb.out; omega))
    · have N : ∀ g, g < w7.heap.size → g ≠ gb := fun g h => by have := SZ.out; have := G_gb.out; omega
      obtain ⟨v, b3, hrow⟩ := hI.row
      exact ⟨(hI.bs.below K_gb.out).other K_w9 (fun b m => N _ (PL.out.1 b m)), (hI.b4.below K_gb.out).other K_w9 (N _ L4), ⟨v, (b3.below K_gb.out).other K_w9 (N _ L3), row_other (row_below hrow K_gb.out) B_gb (by decide) K_w9⟩, HB, Nat.le_trans SZ.out (Nat.le_trans K_gb.out.size K_w9.out.1)⟩
  case body =>
    rintro l pre x a' W hl ⟨r, hr⟩ hI ⟨gb, hgb, BX, rfl⟩ hlt
    have HB := hI.hb
    obtain ⟨v, b3, hrow⟩ := hI.row
    have RB := Aside0.mk hr
    clear hr
    have hx : 64 * x.val < s.size := by have := x.isLt; unfold nwords at this; omega
    obtain ⟨q, hq⟩ : ∃ q : Nat → Bool, q = fun j => decide (cutF s (64 * ((x.val : Nat) : Int)) 32 j = 92) := ⟨_, rfl⟩
    obtain ⟨c, hc⟩ : ∃ c, c = (foldE s pre).1 := ⟨_, rfl⟩
    have EQ : ∀ w, Calls Tryd.prog 56 #[.agg (blkA (cutF s (64 * ((x.val : Nat) : Int)) 32)), .int .u8 92] w fun e w' => e = .returned (.int .u64 (iv (word q))) ∧ Below w.heap.size w w' := fun w => by
      rw [hq]
      exact block_Equal.calls _ (fun i => cutF_range s _ 32 (by decide) i) 92 (by decide) (by decide) w
    have b4 := hI.b4
    rw [← hc] at b4
    have HQ := Aside0.mk hq
    have HC := Aside0.mk hc
    have HX := Aside0.mk hx
    have HL : Aside0 ((pre.length + 1) * 8 ≤ 140737488355328) := ⟨by have := nwords_room hs; omega⟩
    clear hq hc hx hlt
    by_cases h0 : iv (word q) = 0 ∧ c = false
    · obtain ⟨h0, rfl⟩ := h0
      have c4 := b4.cell (i := 0) rfl
      have hz : (iv (word q) == 0) = true := by rw [h0]; rfl
      have H0 := Aside0.mk h0
      clear h0
      have c31 := b3.cell (i := 1) rfl
      gi_wp2_with (first
        | ((with_reducible refine gate_dstIn (N := 17) rfl ?_); refine ev_loadIn BX rfl 85 _ rfl rfl Tryd.underlying85 (size64' _) ?_)
        | (gi_at_call 56; refine (CallsIn.inRound l (callsIn_of HF (EQ _))).mono ?_; rintro e w8 ⟨rfl, hb8⟩; have HK8 := Aside0.mk hb8; have d4 := b4.below hb8; have d3 := b3.below hb8; have e4 := d4.cell (i := 0) rfl; have e31 := d3.cell (i := 1) rfl; have hrow8 := row_below hrow hb8; have HB8 := HB.step hb8; clear hb8)
        | ((with_reducible refine gate_dstIn (N := 27) rfl ?_); refine ev_lit1In HB8 rfl rfl (.int .u64 0) 75 ?hr ?_; (case hr => first | (go_simp; done) | (go_simp; rfl)); intro gl w9 G_gl B_gl HB9 K_gl KO9; have hrow9 := row_below hrow8 K_gl.out; have d3' := d3.below K_gl.out)
        | ((with_reducible refine gate_dstIn (N := 28) rfl ?_); refine ev_append1In HB9 rfl _ _ 32 75 (.int .u64 0) 8 rfl Tryd.underlying32 (by kernel_rfl) rfl (by decide) v pre.length _ rfl hrow9 gl (.int .u64 0) rfl B_gl rfl HL.out ?_; intro v1 w10 hrow10 HB10 K10 KO10 FV1; obtain ⟨g', cap', rfl⟩ := FV1.out; have f3' := d3'.appended (by decide) hrow9 K10)
        | ((with_reducible refine gate_In (Op.store 32 (.tmp 29) (.tmp 28)) rfl ?_); refine ev_store1In (i := 1) HB10 f3' GE_g3 rfl 32 _ _ rfl rfl _ rfl (by simp) (by kernel_rfl) rfl ?_; intro w11 B11 HB11 K11 KO11))
      have E8 := hI.bs.below HK8.out
      have E9 := E8.below K_gl.out
      have E10 := E9.appended PL.out.2.1 hrow9 K10
      have E11 := E10.other K11 PL.out.2.2.1
      have d49 := d4.below K_gl.out
      have d410 := d49.appended (by decide) hrow9 K10
      have d411 := d410.other K11 (Nat.ne_of_gt N34')
      have hsz : W.heap.size ≤ w11.heap.size := Nat.le_trans HK8.out.size (Nat.le_trans K_gl.out.size (Nat.le_trans K10.out.1 K11.out.1))
      refine ⟨(((keepsOthers_below HK8.out).trans KO9.out).trans (KO10.out.trans KO11.out)).from _, Keep2.of_blk (hI.bs.out _ PM.out.2.2.1) (hI.bs.out _ PM.out.2.2.2) (E11.out _ PM.out.2.2.1) (E11.out _ PM.out.2.2.2) hsz, E11, ?_, ⟨_, B11, ?_⟩, HB11, Nat.le_trans hI.sz hsz⟩
      · rw [foldE_snoc, (zero_step s _ x.val HQ.out H0.out HC.out.symm).1]
        exact d411
      · rw [foldE_snoc, (zero_step s _ x.val HQ.out H0.out HC.out.symm).2, List.length_append, List.map_append]
        exact row_other hrow10 f3' (by decide) K11
    · have hz : ((iv (word q) == 0) && !c) = false := by
        cases c
        · simp at h0
          simp [h0]
        · simp
      have c4 := b4.cell (i := 0) rfl
      have c31 := b3.cell (i := 1) rfl
      have c1 := (hI.bs.out _ PM.out.1).cell (i := 0) rfl
      clear h0
      have WE := Aside0.mk (words_Escaped.tells q c)
      have hs1 : (s.size : Int) ≤ 281474976702464 := by omega
      have HX' := HX.out
      have hx1 : 64 * ((x.val : Nat) : Int) < s.size := by omega
      have LD : ∀ w, (Calls Tryd.prog 91 #[.int .u64 (iv (word q)), .bool c] w fun e w' => e = .returned (.tuple #[.int .u64 (iv (word (escW q c))), .bool (escW q c 64)]) ∧ Drawn0 w w') := fun w => words_Escaped.calls _ _ _ _ w WE.out
      obtain ⟨cc, hcc⟩ : ∃ cc, cc = escW q c 64 := ⟨_, rfl⟩
      obtain ⟨ww, hww⟩ : ∃ ww, ww = iv (word (escW q c)) := ⟨_, rfl⟩
      rw [← hcc, ← hww] at LD
      have HCC := Aside0.mk hcc
      have HWW := Aside0.mk hww
      clear hcc hww HX' WE
      have LDh := Aside0.mk LD
      clear LD
      have key : (∃ z, (iv (word q) == 0) = z ∧ (z = true → c = true)) := ⟨_, rfl, fun h => by
        cases c
        · simp [h] at hz
        · rfl⟩
      clear hz
      obtain ⟨z, hz0, hzc⟩ := key
      have HZC := Aside0.mk hzc
      clear hzc
      by_cases hfull : (s.size : Int) - 64 * ((x.val : Nat) : Int) < 64
      · have STEP := Aside0.mk (part_step s (foldE s pre) x.val HQ.out HC.out HX.out (by omega))
        rw [← HWW.out] at STEP
        cases z
        · gi_wp2_with (first
            | ((with_reducible refine gate_dstIn (N := 17) rfl ?_); refine ev_loadIn BX rfl 85 _ rfl rfl Tryd.underlying85 (size64' _) ?_)
            | (gi_at_call 56; refine (CallsIn.inRound l (callsIn_of HF (EQ _))).mono ?_; rintro e w8 ⟨rfl, hb8⟩; have HK8 := Aside0.mk hb8; have E8 := hI.bs.below hb8; have e1 := (E8.out _ PM.out.1).cell (i := 0) rfl; have d4 := b4.below hb8; have d3 := b3.below hb8; have e4 := d4.cell (i := 0) rfl; have e31 := d3.cell (i := 1) rfl; have hrow8 := row_below hrow hb8; have HB8 := HB.step hb8; clear hb8)
            | (gi_at_call 91; refine (CallsIn.inRound l (callsIn_of HF (LDh.out _))).mono ?_; rintro e w9 ⟨rfl, ⟨nd, rfl⟩⟩; have d4n := d4.drewN nd; have HB9 := HB8.drewN nd; have E9 := E8.drewN nd; have d3n := d3.drewN nd; have hrow9 := row_drewN hrow8 nd)
            | ((with_reducible refine gate_In (Op.store 4 (.tmp 4) (.tmp 35)) rfl ?_); refine ev_store1In (i := 0) HB9 d4n GE_g4 rfl 4 _ _ rfl rfl _ rfl (by simp) (by kernel_rfl) rfl ?_; intro w10 B10 HB10 K10 KO10; have E10 := E9.other K10 PL.out.2.2.2; have d310 := d3n.other K10 (Nat.ne_of_lt N34'); have hrow10 := row_other hrow9 d4n (by decide) K10; have e1 := (E10.out _ PM.out.1).cell (i := 0) rfl; have e31 := d310.cell (i := 1) rfl)
            | ((with_reducible refine gate_dstIn (N := 50) rfl ?_); refine ev_lit1In HB10 rfl rfl (.int .u64 (bits BinOp.and IntKind.u64 ww (IntKind.u64.wrap (IntKind.u64.wrap (2 ^ (s.size - 64 * x.val)) - 1)))) 75 ?hr ?_; (case hr => first | (go_simp; done) | (go_simp; rfl)); intro gl w11 G_gl B_gl HB11 K_gl KO11; have E11 := E10.below K_gl.out; have d311 := d310.below K_gl.out; have d411 := B10.below K_gl.out; have hrow11 := row_below hrow10 K_gl.out)
            | ((with_reducible refine gate_dstIn (N := 51) rfl ?_); refine ev_append1In HB11 rfl _ _ 32 75 (.int .u64 0) 8 rfl Tryd.underlying32 (by kernel_rfl) rfl (by decide) v pre.length _ rfl hrow11 gl (.int .u64 (bits BinOp.and IntKind.u64 ww (IntKind.u64.wrap (IntKind.u64.wrap (2 ^ (s.size - 64 * x.val)) - 1)))) rfl B_gl rfl HL.out ?_; intro v1 w12 hrow12 HB12 K12 KO12 FV1; obtain ⟨g', cap', rfl⟩ := FV1.out; have d312 := d311.appended (by decide) hrow11 K12; have d412 := d411.appended (by decide) hrow11 K12; have E12 := E11.appended PL.out.2.1 hrow11 K12)
            | ((with_reducible refine gate_In (Op.store 32 (.tmp 52) (.tmp 51)) rfl ?_); refine ev_store1In (i := 1) HB12 d312 GE_g3 rfl 32 _ _ rfl rfl _ rfl (by simp) (by kernel_rfl) rfl ?_; intro w13 B13 HB13 K13 KO13; have E13 := E12.other K13 PL.out.2.2.1; have d413 := d412.other K13 (Nat.ne_of_gt N34')))
          have hsz : W.heap.size ≤ w13.heap.size := Nat.le_trans HK8.out.size (Nat.le_trans K10.out.1 (Nat.le_trans K_gl.out.size (Nat.le_trans K12.out.1 K13.out.1)))
          refine ⟨(((((keepsOthers_below HK8.out).trans (keepsOthers_drewN _ nd)).trans KO10.out).trans KO11.out).trans (KO12.out.trans KO13.out)).from _, Keep2.of_blk (hI.bs.out _ PM.out.2.2.1) (hI.bs.out _ PM.out.2.2.2) (E13.out _ PM.out.2.2.1) (E13.out _ PM.out.2.2.2) hsz, E13, ?_, ⟨_, B13, ?_⟩, HB13, Nat.le_trans hI.sz hsz⟩
          · rw [foldE_snoc, STEP.out, ← HCC.out]
            exact d413
          · rw [foldE_snoc, STEP.out, List.length_append, List.map_append]
            exact row_other hrow12 d312 (by decide) K13
        · obtain rfl : c = true := HZC.out rfl
          gi_wp2_with (first
            | ((with_reducible refine gate_dstIn (N := 17) rfl ?_); refine ev_loadIn BX rfl 85 _ rfl rfl Tryd.underlying85 (size64' _) ?_)
            | (gi_at_call 56; refine (CallsIn.inRound l (callsIn_of HF (EQ _))).mono ?_; rintro e w8 ⟨rfl, hb8⟩; have HK8 := Aside0.mk hb8; have E8 := hI.bs.below hb8; have e1 := (E8.out _ PM.out.1).cell (i := 0) rfl; have d4 := b4.below hb8; have d3 := b3.below hb8; have e4 := d4.cell (i := 0) rfl; have e31 := d3.cell (i := 1) rfl; have hrow8 := row_below hrow hb8; have HB8 := HB.step hb8; clear hb8)
            | (gi_at_call 91; refine (CallsIn.inRound l (callsIn_of HF (LDh.out _))).mono ?_; rintro e w9 ⟨rfl, ⟨nd, rfl⟩⟩; have d4n := d4.drewN nd; have HB9 := HB8.drewN nd; have E9 := E8.drewN nd; have d3n := d3.drewN nd; have hrow9 := row_drewN hrow8 nd)
            | ((with_reducible refine gate_In (Op.store 4 (.tmp 4) (.tmp 35)) rfl ?_); refine ev_store1In (i := 0) HB9 d4n GE_g4 rfl 4 _ _ rfl rfl _ rfl (by simp) (by kernel_rfl) rfl ?_; intro w10 B10 HB10 K10 KO10; have E10 := E9.other K10 PL.out.2.2.2; have d310 := d3n.other K10 (Nat.ne_of_lt N34'); have hrow10 := row_other hrow9 d4n (by decide) K10; have e1 := (E10.out _ PM.out.1).cell (i := 0) rfl; have e31 := d310.cell (i := 1) rfl)
            | ((with_reducible refine gate_dstIn (N := 50) rfl ?_); refine ev_lit1In HB10 rfl rfl (.int .u64 (bits BinOp.and IntKind.u64 ww (IntKind.u64.wrap (IntKind.u64.wrap (2 ^ (s.size - 64 * x.val)) - 1)))) 75 ?hr ?_; (case hr => first | (go_simp; done) | (go_simp; rfl)); intro gl w11 G_gl B_gl HB11 K_gl KO11; have E11 := E10.below K_gl.out; have d311 := d310.below K_gl.out; have d411 := B10.below K_gl.out; have hrow11 := row_below hrow10 K_gl.out)
            | ((with_reducible refine gate_dstIn (N := 51) rfl ?_); refine ev_append1In HB11 rfl _ _ 32 75 (.int .u64 0) 8 rfl Tryd.underlying32 (by kernel_rfl) rfl (by decide) v pre.length _ rfl hrow11 gl (.int .u64 (bits BinOp.and IntKind.u64 ww (IntKind.u64.wrap (IntKind.u64.wrap (2 ^ (s.size - 64 * x.val)) - 1)))) rfl B_gl rfl HL.out ?_; intro v1 w12 hrow12 HB12 K12 KO12 FV1; obtain ⟨g', cap', rfl⟩ := FV1.out; have d312 := d311.appended (by decide) hrow11 K12; have d412 := d411.appended (by decide) hrow11 K12; have E12 := E11.appended PL.out.2.1 hrow11 K12)
            | ((with_reducible refine gate_In (Op.store 32 (.tmp 52) (.tmp 51)) rfl ?_); refine ev_store1In (i := 1) HB12 d312 GE_g3 rfl 32 _ _ rfl rfl _ rfl (by simp) (by kernel_rfl) rfl ?_; intro w13 B13 HB13 K13 KO13; have E13 := E12.other K13 PL.out.2.2.1; have d413 := d412.other K13 (Nat.ne_of_gt N34')))
          have hsz : W.heap.size ≤ w13.heap.size := Nat.le_trans HK8.out.size (Nat.le_trans K10.out.1 (Nat.le_trans K_gl.out.size (Nat.le_trans K12.out.1 K13.out.1)))
          refine ⟨(((((keepsOthers_below HK8.out).trans (keepsOthers_drewN _ nd)).trans KO10.out).trans KO11.out).trans (KO12.out.trans KO13.out)).from _, Keep2.of_blk (hI.bs.out _ PM.out.2.2.1) (hI.bs.out _ PM.out.2.2.2) (E13.out _ PM.out.2.2.1) (E13.out _ PM.out.2.2.2) hsz, E13, ?_, ⟨_, B13, ?_⟩, HB13, Nat.le_trans hI.sz hsz⟩
          · rw [foldE_snoc, STEP.out, ← HCC.out]
            exact d413
          · rw [foldE_snoc, STEP.out, List.length_append, List.map_append]
            exact row_other hrow12 d312 (by decide) K13
      · have STEP := Aside0.mk (full_step s (foldE s pre) x.val HQ.out HC.out (by omega))
        rw [← HWW.out] at STEP
        cases z
        · gi_wp2_with (first
            | ((with_reducible refine gate_dstIn (N := 17) rfl ?_); refine ev_loadIn BX rfl 85 _ rfl rfl Tryd.underlying85 (size64' _) ?_)
            | (gi_at_call 56; refine (CallsIn.inRound l (callsIn_of HF (EQ _))).mono ?_; rintro e w8 ⟨rfl, hb8⟩; have HK8 := Aside0.mk hb8; have E8 := hI.bs.below hb8; have e1 := (E8.out _ PM.out.1).cell (i := 0) rfl; have d4 := b4.below hb8; have d3 := b3.below hb8; have e4 := d4.cell (i := 0) rfl; have e31 := d3.cell (i := 1) rfl; have hrow8 := row_below hrow hb8; have HB8 := HB.step hb8; clear hb8)
            | (gi_at_call 91; refine (CallsIn.inRound l (callsIn_of HF (LDh.out _))).mono ?_; rintro e w9 ⟨rfl, ⟨nd, rfl⟩⟩; have d4n := d4.drewN nd; have HB9 := HB8.drewN nd; have E9 := E8.drewN nd; have d3n := d3.drewN nd; have hrow9 := row_drewN hrow8 nd)
            | ((with_reducible refine gate_In (Op.store 4 (.tmp 4) (.tmp 35)) rfl ?_); refine ev_store1In (i := 0) HB9 d4n GE_g4 rfl 4 _ _ rfl rfl _ rfl (by simp) (by kernel_rfl) rfl ?_; intro w10 B10 HB10 K10 KO10; have E10 := E9.other K10 PL.out.2.2.2; have d310 := d3n.other K10 (Nat.ne_of_lt N34'); have hrow10 := row_other hrow9 d4n (by decide) K10; have e1 := (E10.out _ PM.out.1).cell (i := 0) rfl; have e31 := d310.cell (i := 1) rfl)
            | ((with_reducible refine gate_dstIn (N := 50) rfl ?_); refine ev_lit1In HB10 rfl rfl (.int .u64 (ww)) 75 ?hr ?_; (case hr => first | (go_simp; done) | (go_simp; rfl)); intro gl w11 G_gl B_gl HB11 K_gl KO11; have E11 := E10.below K_gl.out; have d311 := d310.below K_gl.out; have d411 := B10.below K_gl.out; have hrow11 := row_below hrow10 K_gl.out)
            | ((with_reducible refine gate_dstIn (N := 51) rfl ?_); refine ev_append1In HB11 rfl _ _ 32 75 (.int .u64 0) 8 rfl Tryd.underlying32 (by kernel_rfl) rfl (by decide) v pre.length _ rfl hrow11 gl (.int .u64 (ww)) rfl B_gl rfl HL.out ?_; intro v1 w12 hrow12 HB12 K12 KO12 FV1; obtain ⟨g', cap', rfl⟩ := FV1.out; have d312 := d311.appended (by decide) hrow11 K12; have d412 := d411.appended (by decide) hrow11 K12; have E12 := E11.appended PL.out.2.1 hrow11 K12)
            | ((with_reducible refine gate_In (Op.store 32 (.tmp 52) (.tmp 51)) rfl ?_); refine ev_store1In (i := 1) HB12 d312 GE_g3 rfl 32 _ _ rfl rfl _ rfl (by simp) (by kernel_rfl) rfl ?_; intro w13 B13 HB13 K13 KO13; have E13 := E12.other K13 PL.out.2.2.1; have d413 := d412.other K13 (Nat.ne_of_gt N34')))
          have hsz : W.heap.size ≤ w13.heap.size := Nat.le_trans HK8.out.size (Nat.le_trans K10.out.1 (Nat.le_trans K_gl.out.size (Nat.le_trans K12.out.1 K13.out.1)))
          refine ⟨(((((keepsOthers_below HK8.out).trans (keepsOthers_drewN _ nd)).trans KO10.out).trans KO11.out).trans (KO12.out.trans KO13.out)).from _, Keep2.of_blk (hI.bs.out _ PM.out.2.2.1) (hI.bs.out _ PM.out.2.2.2) (E13.out _ PM.out.2.2.1) (E13.out _ PM.out.2.2.2) hsz, E13, ?_, ⟨_, B13, ?_⟩, HB13, Nat.le_trans hI.sz hsz⟩
          · rw [foldE_snoc, STEP.out, ← HCC.out]
            exact d413
          · rw [foldE_snoc, STEP.out, List.length_append, List.map_append]
            exact row_other hrow12 d312 (by decide) K13
        · obtain rfl : c = true := HZC.out rfl
          gi_wp2_with (first
            | ((with_reducible refine gate_dstIn (N := 17) rfl ?_); refine ev_loadIn BX rfl 85 _ rfl rfl Tryd.underlying85 (size64' _) ?_)
            | (gi_at_call 56; refine (CallsIn.inRound l (callsIn_of HF (EQ _))).mono ?_; rintro e w8 ⟨rfl, hb8⟩; have HK8 := Aside0.mk hb8; have E8 := hI.bs.below hb8; have e1 := (E8.out _ PM.out.1).cell (i := 0) rfl; have d4 := b4.below hb8; have d3 := b3.below hb8; have e4 := d4.cell (i := 0) rfl; have e31 := d3.cell (i := 1) rfl; have hrow8 := row_below hrow hb8; have HB8 := HB.step hb8; clear hb8)
            | (gi_at_call 91; refine (CallsIn.inRound l (callsIn_of HF (LDh.out _))).mono ?_; rintro e w9 ⟨rfl, ⟨nd, rfl⟩⟩; have d4n := d4.drewN nd; have HB9 := HB8.drewN nd; have E9 := E8.drewN nd; have d3n := d3.drewN nd; have hrow9 := row_drewN hrow8 nd)
            | ((with_reducible refine gate_In (Op.store 4 (.tmp 4) (.tmp 35)) rfl ?_); refine ev_store1In (i := 0) HB9 d4n GE_g4 rfl 4 _ _ rfl rfl _ rfl (by simp) (by kernel_rfl) rfl ?_; intro w10 B10 HB10 K10 KO10; have E10 := E9.other K10 PL.out.2.2.2; have d310 := d3n.other K10 (Nat.ne_of_lt N34'); have hrow10 := row_other hrow9 d4n (by decide) K10; have e1 := (E10.out _ PM.out.1).cell (i := 0) rfl; have e31 := d310.cell (i := 1) rfl)
            | ((with_reducible refine gate_dstIn (N := 50) rfl ?_); refine ev_lit1In HB10 rfl rfl (.int .u64 (ww)) 75 ?hr ?_; (case hr => first | (go_simp; done) | (go_simp; rfl)); intro gl w11 G_gl B_gl HB11 K_gl KO11; have E11 := E10.below K_gl.out; have d311 := d310.below K_gl.out; have d411 := B10.below K_gl.out; have hrow11 := row_below hrow10 K_gl.out)
            | ((with_reducible refine gate_dstIn (N := 51) rfl ?_); refine ev_append1In HB11 rfl _ _ 32 75 (.int .u64 0) 8 rfl Tryd.underlying32 (by kernel_rfl) rfl (by decide) v pre.length _ rfl hrow11 gl (.int .u64 (ww)) rfl B_gl rfl HL.out ?_; intro v1 w12 hrow12 HB12 K12 KO12 FV1; obtain ⟨g', cap', rfl⟩ := FV1.out; have d312 := d311.appended (by decide) hrow11 K12; have d412 := d411.appended (by decide) hrow11 K12; have E12 := E11.appended PL.out.2.1 hrow11 K12)
            | ((with_reducible refine gate_In (Op.store 32 (.tmp 52) (.tmp 51)) rfl ?_); refine ev_store1In (i := 1) HB12 d312 GE_g3 rfl 32 _ _ rfl rfl _ rfl (by simp) (by kernel_rfl) rfl ?_; intro w13 B13 HB13 K13 KO13; have E13 := E12.other K13 PL.out.2.2.1; have d413 := d412.other K13 (Nat.ne_of_gt N34')))
          have hsz : W.heap.size ≤ w13.heap.size := Nat.le_trans HK8.out.size (Nat.le_trans K10.out.1 (Nat.le_trans K_gl.out.size (Nat.le_trans K12.out.1 K13.out.1)))
          refine ⟨(((((keepsOthers_below HK8.out).trans (keepsOthers_drewN _ nd)).trans KO10.out).trans KO11.out).trans (KO12.out.trans KO13.out)).from _, Keep2.of_blk (hI.bs.out _ PM.out.2.2.1) (hI.bs.out _ PM.out.2.2.2) (E13.out _ PM.out.2.2.1) (E13.out _ PM.out.2.2.2) hsz, E13, ?_, ⟨_, B13, ?_⟩, HB13, Nat.le_trans hI.sz hsz⟩
          · rw [foldE_snoc, STEP.out, ← HCC.out]
            exact d413
          · rw [foldE_snoc, STEP.out, List.length_append, List.map_append]
            exact row_other hrow12 d312 (by decide) K13
  case done =>
    rintro D ys W hD rfl hI hK
    obtain ⟨v, b3, hrow⟩ := hI.row
    have b2 := hI.bs.out _ PM.out.2.1
    have HB := hI.hb
    have V1 := Aside0.mk (row_one hrow)
    have HD := Aside0.mk hD
    have HKD := Aside0.mk hK
    clear hK hD
    gi_wp2_with (first
      | ((with_reducible refine gate_dstIn (N := 53) rfl ?_); refine ev_loadSIn b3 rfl 34 _ rfl rfl Tryd.underlying34 rfl (by kernel_rfl) ?_)
      | ((with_reducible refine gate_In (Op.store 34 (.tmp 2) (.tmp 53)) rfl ?_); refine ev_storeIn HB b2 GE_g2 rfl 34 _ _ rfl rfl rfl (by kernel_rfl) rfl (by simp [Value.oneCell']; exact V1.out) ?_; intro w8 B8 HB8 K8 KO8))
    have HK8 := KO8.out.same D _ HKD.out rfl
    have hrow8 := row_other hrow b2 (by decide) K8
    have hg := grownBy_putObj' w8 D (.deferred none)
    have hr : ∀ r, some D = some r → ∃ o : Obj, w8.heap[r]? = some o ∧ o.isCells = false := fun r e => by
      cases e
      exact ⟨_, HK8, rfl⟩
    have hle : w.heap.size ≤ D := Nat.le_trans HBW.le HD.out
    refine ⟨by simp, .inl ⟨_, _, rfl, run_takeDeferred HK8, ?_⟩⟩
    refine ⟨_, results_cell_row rfl _ _ g2 34 _ (0, 0) _ rfl (B8.kept hg hr).out Tryd.underlying34 rfl (by kernel_rfl), v, rfl, ?_, (HB8.kept hg hle (fun r e => by cases e; exact Nat.le_refl _)).out⟩
    have h1 := row_kept hrow8 hg hr
    rw [foldE_all, List.length_finRange] at h1
    exact h1
  case stop =>
    rintro D c pre W _ _ h _
    exact h.elim
theorem escape_Escaped.calls (a0 : ByteArray) (r1 : Int) (r2 : List Int) (w : World) (h : escape_Escaped.f a0 = some (r1, r2)) :
    Calls Tryd.prog 54 #[.string a0] w fun e w' => ∃ v1_ : Value, e = .returned (.agg #[.int .i64 r1, v1_]) ∧ Kd.R (Kd.int .u64) 75 w' w.heap.size (fun _ => True) v1_ r2 ∧ Below w.heap.size w w' := by
  unfold escape_Escaped.f at h
  by_cases hs : a0.size ≤ 281474976702464
  case neg => rw [if_neg hs] at h; cases h
  rw [if_pos hs] at h
  simp only [Option.some.injEq, Prod.mk.injEq] at h
  obtain ⟨rfl, rfl⟩ := h
  refine (escape_Escaped.walk a0 w hs).mono ?_
  rintro e w' ⟨v, rfl, hrow, hb⟩
  refine ⟨v, rfl, Kd.R_of_own ?_ (fun _ _ => trivial), hb⟩
  rw [wordsOf_length]
  exact hrow
end


section
open Go.Proofs.YtgddljealeklkaaDoorQ Go.Proofs.YtgddljealeklkaaDoorM Go.Shelf
attribute [local go_sem] Oper.semAt_some
/-- Between two blocks. -/
structure MarksI (s : ByteArray) (w : World) (L : List (Nat × Array Value × Nat)) (m : Nat) (v1 : Value) {n : Nat} (pre : List (Fin n)) (W : World) : Prop where mk ::
  bs : Blks L W
  row : W.ownsRow w.heap.size 75 1 v1 (nwords s.size) ((foldM s pre).map (Value.int .u64))
  hb : BelowH w W
  sz : m ≤ W.heap.size
theorem MarksI.kept {s : ByteArray} {w W W' : World} {L : List (Nat × Array Value × Nat)} {m : Nat} {v1 : Value} {n : Nat} {pre : List (Fin n)} (h : MarksI s w L m v1 pre W) {B : Nat} (hB : w.heap.size ≤ B) {row : Option Nat} (hg : W.grownBy W' row) (hr : ∀ r, row = some r → B ≤ r ∧ ∃ o : Obj, W.heap[r]? = some o ∧ o.isCells = false) : MarksI s w L m v1 pre W' := by
  have hr' : ∀ r, row = some r → ∃ o : Obj, W.heap[r]? = some o ∧ o.isCells = false := fun r e => (hr r e).2
  exact ⟨h.bs.kept hg hr', row_kept h.row hg hr', h.hb.kept hg hB (fun r e => (hr r e).1), Nat.le_trans h.sz hg.size⟩
theorem MarksI.below {s : ByteArray} {w W W' : World} {L : List (Nat × Array Value × Nat)} {m : Nat} {v1 : Value} {n : Nat} {pre : List (Fin n)} (h : MarksI s w L m v1 pre W) (hb : Below W.heap.size W W') : MarksI s w L m v1 pre W' :=
  ⟨h.bs.below hb, row_below h.row hb, h.hb.step hb, Nat.le_trans h.sz hb.size⟩
def quotes_Marks.f (a0 : ByteArray) : Option (Int × List Int) := if a0.size ≤ 281474976702464 then some ((a0.size : Int), wordsOf a0.size (mkq a0)) else none
set_option maxHeartbeats 4000000 in
set_option maxRecDepth 100000 in
theorem quotes_Marks.walk (s : ByteArray) (w : World) (hs : s.size ≤ 281474976702464) :
    Calls Tryd.prog 18 #[.string s] w fun e w' => ∃ v1_ : Value, e = .returned (.agg #[.int .i64 s.size, v1_]) ∧ w'.ownsRow w.heap.size 75 1 v1_ (nwords s.size) ((wordsOf s.size (mkq s)).map (Value.int .u64)) ∧ Below w.heap.size w w' := by
  obtain ⟨F, hF⟩ : ∃ F, F = Fence.wide := ⟨_, rfl⟩
  have HF := Aside0.mk hF
  refine (callsIn_wide (n := 9)).1 ?_
  rw [← hF]
  clear hF
  have hro := wide_round HF
  have HB := BelowH.refl w
  have f1 := wide_fn HF 55
  have f2 := wide_fn HF 92
  have f3 := wide_fn HF 56
  have f4 := wide_fn HF 54
  refine callsIn_of_wp_marks Tryd.func18 rfl (wide_fn HF _) ?_ hro
  simp only [Tryd.ntmps18, List.size_toArray, List.length_cons, List.length_nil, Nat.reduceAdd, Nat.reduceSub, Array.replicate_succ, Array.replicate_zero, List.push_toArray, List.append_toArray, List.nil_append, List.cons_append]
  gi_upto_region 2 with (first
    | ((with_reducible refine gate_dstIn (N := 2) rfl ?_); refine ev_allocIn HB rfl rfl (#[.int .i64 0, .slice none 0 0]) 34 ?hr ?_; (case hr => first | (go_simp; done) | (go_simp; rfl)); intro g2 w2 G_g2 GE_g2 B_g2 HBn K_g2 KO_w2; clear HB; have HB := HBn; clear HBn)
    | (gi_at_call 54; refine (callsIn_of HF (escape_Escaped.walk s _ hs)).mono ?_; rintro e w3 ⟨v1, rfl, hrow, hb3⟩; have R3 := Aside0.mk (row_mono hrow HB.le); have V1 := Aside0.mk (row_one hrow); have HK3 := Aside0.mk hb3; have HBn := HB.step hb3; clear HB hb3 hrow; have HB := HBn; clear HBn)
    | ((with_reducible refine gate_dstIn (N := 3) rfl ?_); refine ev_allocIn HB rfl rfl (#[.int .i64 0, .slice none 0 0]) 34 ?hr ?_; (case hr => first | (go_simp; done) | (go_simp; rfl)); intro g3 w4 G_g3 GE_g3 B_g3 HBn K_g3 KO_w4; clear HB; have HB := HBn; clear HBn)
    | ((with_reducible refine gate_In (Op.store 34 (.tmp 3) (.tmp 7)) rfl ?_); refine ev_storeIn HB B_g3 GE_g3 rfl 34 _ _ rfl rfl rfl (by kernel_rfl) rfl (by simp [Value.oneCell']; exact V1.out) ?_; intro w5 B3 HBn K_w5 KO_w5; clear HB; have HB := HBn; clear HBn))
  have N23 := Aside0.mk (show g2 < g3 by have := G_g3.out; have := B_g2.lt; have := HK3.out.size; omega)
  have B2 := ((B_g2.below HK3.out).below K_g3.out).other K_w5 (Nat.ne_of_lt N23.out)
  have R5 := row_other (row_below R3.out K_g3.out) B_g3 (by decide) K_w5
  clear B_g2 B_g3 K_g2 K_g3 K_w5 KO_w2 KO_w4 KO_w5 R3 HK3 G_g2 G_g3
  gi_wp2_with (first
    | (gi_at_call 55; refine (callsIn_of HF (block_Blocks.calls s 0 _)).mono ?_; rintro e w7 ⟨h1, h2, rfl, GE1, GE2, A1, A2, HB7⟩))
  obtain ⟨L, hL⟩ : ∃ L : List (Nat × Array Value × Nat), L = [(g3, #[.int .i64 s.size, v1], 34), (g2, #[.int .i64 0, .slice none 0 0], 34), (h1, #[.string s], 9), (h2, #[.int .u8 0], 5)] := ⟨_, rfl⟩
  have CL : Blks L w7 := ⟨by
    rw [hL]
    intro b m
    simp at m
    rcases m with rfl | rfl | rfl | rfl
    · exact B3.below HB7.out
    · exact B2.below HB7.out
    · exact A1
    · exact A2⟩
  have C7 := row_below R5 HB7.out
  have LL : ∀ b ∈ L, b.1 < w7.heap.size := fun b m => (CL.out b m).lt
  have LT : ∀ b ∈ L, b.2.2 ≠ 75 := by
    rw [hL]
    intro b m
    simp at m
    rcases m with rfl | rfl | rfl | rfl <;> (dsimp only; decide)
  have M3 : (g3, #[.int .i64 s.size, v1], 34) ∈ L := by rw [hL]; simp
  have M2 : (g2, #[.int .i64 0, .slice none 0 0], 34) ∈ L := by rw [hL]; simp
  have M4 : (h1, #[.string s], 9) ∈ L := by rw [hL]; simp
  have M5 : (h2, #[.int .u8 0], 5) ∈ L := by rw [hL]; simp
  have HBW := HB.step HB7.out
  have LH1 := A1.lt
  have LH2 := A2.lt
  have PL := Aside0.mk (And.intro LL LT)
  have PM := Aside0.mk (And.intro M3 (And.intro M2 (And.intro M4 M5)))
  clear B2 B3 R5 HB7 HB f1 hL LL LT M2 M3 M4 M5 N23
  refine wpIn_rangeFunc_ownH hro (by decide) (gf := 92) (lb := #[.pointer (some ⟨h1, 0, none⟩), .pointer (some ⟨h2, 0, none⟩)]) rfl f2 (enters_of Tryd.func92 (by kernel_rfl) rfl)
    (block_Blocks_1.stops F HF (9 - 1) (by decide) h1 h2 s 0 hs w7 A1 A2) Keep2.trans (fun W l o o' hl ho hc hw => Keep2.putObj LH1 LH2 W l o o' hl ho hc hw) (Below.refl _ _) (fun _ => rfl)
    (MarksI s w L w7.heap.size v1) (fun _ _ _ => False)
    (fun pre A B row hs hg hr => hs.kept HBW.le hg hr)
    (fun _ _ _ _ _ hs _ _ => hs)
    ⟨CL, C7, HBW, Nat.le_refl _⟩
    (fun x a' W => ∃ gb, w7.heap.size ≤ gb ∧ Blk W gb (blkA (cutF s (64 * ((x.val : Nat) : Int)) 0)) 85 ∧ a' = { tmps := #[.string s, undef, .pointer (some ⟨g2, 0, none⟩), .pointer (some ⟨g3, 0, none⟩), .int .i64 (64 * ((x.val : Nat) : Int)), .pointer (some ⟨gb, 0, none⟩), .string s, .agg #[.int .i64 s.size, v1], .string s, .func (.func 92) #[] #[.pointer (some ⟨h1, 0, none⟩), .pointer (some ⟨h2, 0, none⟩)], .int .i64 (64 * ((x.val : Nat) : Int)), .agg (blkA (cutF s (64 * ((x.val : Nat) : Int)) 0)), undef, undef, undef, undef, undef, undef, undef, undef, undef, undef, undef, undef, undef, undef, undef], defers := [] })
    (fun x a' pre A B row hs hg hr => by
      obtain ⟨gb, h1, h2, h3⟩ := hs
      exact ⟨gb, h1, h2.kept hg (fun r e => (hr r e).2), h3⟩)
    ?assign ?body ?done ?stop
  case assign =>
    intro l pre x W K hI hK
    have HB := hI.hb
    have SZ := Aside0.mk hI.sz
    dsimp only [blkEnc]
    gi_wp2_with (first
      | ((with_reducible refine gate_dstIn (N := 5) rfl ?_); refine ev_allocIn HB rfl rfl (blkA fun _ => 0) 85 ?hr ?_; (case hr => (rw [← blkA_zero]; go_simp; rfl)); intro gb w8 G_gb GE_gb B_gb HBn K_gb KO_w8; clear HB; have HB := HBn; clear HBn)
      | ((with_reducible refine gate_In (Op.store 85 (.tmp 5) (.tmp 11)) rfl ?_); refine ev_storeIn HB B_gb GE_gb rfl 85 _ _ rfl rfl rfl (size64' _) (by rw [blkA_size, blkA_size]) (blkA_one _) ?_; intro w9 B9 HBn K_w9 KO_w9; clear HB; have HB := HBn; clear HBn))
    have hKO := KO_w8.out.trans KO_w9.out
    refine hK _ _ (hKO.from _) ?_ ?_ ⟨gb, Nat.le_trans SZ.out G_gb.out, B9, rfl⟩
    · exact (Keep2.below K_gb.out (by have := SZ.out; omega) (by have := SZ.out; omega)).trans (Keep2.other K_w9 (by have := SZ.out; have := G_gb.out; omega) (by have := SZ.out; have := G_gb.out; omega))
    · have N : ∀ g, g < w7.heap.size → g ≠ gb := fun g h => by have := SZ.out; have := G_gb.out; omega
      exact ⟨(hI.bs.below K_gb.out).other K_w9 (fun b m => N _ (PL.out.1 b m)), row_other (row_below hI.row K_gb.out) B_gb (by decide) K_w9, HB, Nat.le_trans SZ.out (Nat.le_trans K_gb.out.size K_w9.out.1)⟩
  case body =>
    rintro l pre x a' W hl ⟨r, hr⟩ hI ⟨gb, hgb, BX, rfl⟩ hlt
    clear hr hlt
    obtain ⟨hrl, (⟨_, hn0⟩ | ⟨g, cap, cur, rfl, hbg, BG, hnc, hcm, hcs, HA⟩)⟩ := row_open hI.row
    · have := x.isLt; omega
    obtain ⟨old, hold⟩ : ∃ old, old = (foldM s pre).getD x.val 0 := ⟨_, rfl⟩
    obtain ⟨A, hA⟩ : ∃ A, A = iv (word fun j => decide (cutF s (64 * ((x.val : Nat) : Int)) 0 j = 34)) := ⟨_, rfl⟩
    have hget : ((foldM s pre).map (Value.int .u64))[x.val]? = some (.int .u64 old) := by
      have hl : x.val < (foldM s pre).length := by rw [foldM_length]; exact x.isLt
      rw [List.getElem?_map, hold, List.getD_eq_getElem?_getD, List.getElem?_eq_getElem hl]
      rfl
    have EQ : Aside0 (∀ w, Calls Tryd.prog 56 #[.agg (blkA (cutF s (64 * ((x.val : Nat) : Int)) 0)), .int .u8 34] w fun e w' => e = .returned (.int .u64 A) ∧ Below w.heap.size w w') := ⟨fun w => by
      rw [hA]
      exact block_Equal.calls _ (fun i => cutF_range s _ 0 (by decide) i) 34 (by decide) (by decide) w⟩
    have HG := Aside0.mk (HA.get hget)
    have HXI := Aside0.mk (show x.val < cur.size by have := x.isLt; omega)
    have HN := Aside0.mk (And.intro hrl (And.intro hbg (And.intro hnc (And.intro hcm hcs))))
    have HAA := Aside0.mk HA
    have HOA := Aside0.mk (And.intro hold hA)
    have hq1 : 64 * ((x.val : Nat) : Int) / 64 = ((x.val : Nat) : Int) := by omega
    have hq2 : Int.tdiv (64 * ((x.val : Nat) : Int)) 64 = ((x.val : Nat) : Int) := by rw [Int.tdiv_eq_ediv_of_nonneg (by omega)]; omega
    have hq3 : (0 : Int) ≤ ((x.val : Nat) : Int) := by omega
    have hq4 : ((x.val : Nat) : Int) < ((nwords s.size : Nat) : Int) := by have := x.isLt; omega
    have hq5 : ((x.val : Nat) : Int) ≤ 4398046511104 := by have := x.isLt; unfold nwords at this; omega
    have hq6 : IntKind.i64.wrap ((x.val : Nat) : Int) = ((x.val : Nat) : Int) := by rw [i64_w]; unfold wrap64; omega
    have hbd : Aside0 (Below W.heap.size W W.drew) := ⟨below_drew (Below.refl _ _)⟩
    have HI := Aside0.mk hI
    have I' := hI.below hbd.out
    have BX' := BX.below hbd.out
    have BG' := BG.below hbd.out
    have KO' := Aside0.mk (keepsOthers_below hbd.out)
    have HZ' := Aside0.mk hbd.out.size
    clear hrl hbg BG hnc hcm hcs HA hold hA hget BX hI
    gi_upto_region 5 with (fail)
    refine wpIn_region_last_drew HF (S := fun W' => Blk W' g3 #[.int .i64 s.size, .slice (some ⟨g, 0, none⟩) (nwords s.size) cap] 34 ∧ Blk W' gb (blkA (cutF s (64 * ((x.val : Nat) : Int)) 0)) 85 ∧ Blk W' g cur 75) (ds := [14]) (by kernel_rfl) (by kernel_rfl) ⟨I'.bs.out _ PM.out.1, BX', BG'⟩ (fun hS => ?_)
    refine' wpAnyLast_take (i := 0) (oi := Oper.mk _ _ _ _ _ _) rfl (by kernel_rfl) (by kernel_rfl) (by kernel_rfl) (by kernel_rfl) (by kernel_rfl) (fun _ _ _ h => h) (Or.inl ⟨by rfl, ?hy1⟩) hS ?rest1
    case hy1 => (intro w hSw; (try dsimp only at hSw); first | (go_simp; done) | (go_simp; with_reducible rfl))
    try simp only [Act.put, List.setIfInBounds_toArray, List.set_cons_zero, List.set_cons_succ]
    refine wpAnyLast_take (i := 1) (oi := Oper.mk _ _ _ _ _ _) rfl (by kernel_rfl) (by kernel_rfl) (by kernel_rfl) (by kernel_rfl) (by kernel_rfl) (fun _ _ _ h => h) (rg_load1 (by rfl) (fun _ hS => hS.1.cell (i := 1) rfl) 32 _ rfl rfl (fun _ => by simp [isAgg, run_underlying Tryd.underlying32])) hS ?_
    try simp only [Act.put, List.setIfInBounds_toArray, List.set_cons_zero, List.set_cons_succ]
    refine' wpAnyLast_take (i := 2) (oi := Oper.mk _ _ _ _ _ _) rfl (by kernel_rfl) (by kernel_rfl) (by kernel_rfl) (by kernel_rfl) (by kernel_rfl) (fun _ _ _ h => h) (Or.inl ⟨by rfl, ?hy2⟩) hS ?rest2
    case hy2 => (intro w hSw; (try dsimp only at hSw); first | (go_simp; done) | (go_simp; with_reducible rfl))
    try simp only [Act.put, List.setIfInBounds_toArray, List.set_cons_zero, List.set_cons_succ]
    refine' wpAnyLast_take (i := 3) (oi := Oper.mk _ _ _ _ _ _) rfl (by kernel_rfl) (by kernel_rfl) (by kernel_rfl) (by kernel_rfl) (by kernel_rfl) (fun _ _ _ h => h) (Or.inl ⟨by rfl, ?hy3⟩) hS ?rest3
    case hy3 => (intro w hSw; (try dsimp only at hSw); first | (go_simp; done) | (go_simp; with_reducible rfl))
    try simp only [Act.put, List.setIfInBounds_toArray, List.set_cons_zero, List.set_cons_succ]
    refine wpAnyLast_take (i := 4) (oi := Oper.mk _ _ _ _ _ _) rfl (by kernel_rfl) (by kernel_rfl) (by kernel_rfl) (by kernel_rfl) (by kernel_rfl) (fun _ _ _ h => h) (rg_load (by rfl) (fun _ hS => hS.2.1) 85 _ rfl rfl Tryd.underlying85 rfl (size64' _)) hS ?_
    try simp only [Act.put, List.setIfInBounds_toArray, List.set_cons_zero, List.set_cons_succ]
    refine' wpAnyLast_take (i := 6) (oi := Oper.mk _ _ _ _ _ _) rfl (by kernel_rfl) (by kernel_rfl) (by kernel_rfl) (by kernel_rfl) (by kernel_rfl) (fun _ _ _ h => h) (Or.inl ⟨by rfl, ?hy4⟩) hS ?rest4
    case hy4 => (intro w hSw; (try dsimp only at hSw); first | (go_simp; done) | (go_simp; with_reducible rfl))
    try simp only [Act.put, List.setIfInBounds_toArray, List.set_cons_zero, List.set_cons_succ]
    refine wpAnyLast_take (i := 7) (oi := Oper.mk _ _ _ _ _ _) rfl (by kernel_rfl) (by kernel_rfl) (by kernel_rfl) (by kernel_rfl) (by kernel_rfl) (fun _ _ _ h => h) (rg_load1 (by rfl) (fun _ hS => hS.1.cell (i := 1) rfl) 32 _ rfl rfl (fun _ => by simp [isAgg, run_underlying Tryd.underlying32])) hS ?_
    try simp only [Act.put, List.setIfInBounds_toArray, List.set_cons_zero, List.set_cons_succ]
    refine' wpAnyLast_take (i := 8) (oi := Oper.mk _ _ _ _ _ _) rfl (by kernel_rfl) (by kernel_rfl) (by kernel_rfl) (by kernel_rfl) (by kernel_rfl) (fun _ _ _ h => h) (Or.inl ⟨by rfl, ?hy5⟩) hS ?rest5
    case hy5 => (intro w hSw; (try dsimp only at hSw); first | (go_simp; done) | (go_simp; with_reducible rfl))
    try simp only [Act.put, List.setIfInBounds_toArray, List.set_cons_zero, List.set_cons_succ]
    refine' wpAnyLast_take (i := 9) (oi := Oper.mk _ _ _ _ _ _) rfl (by kernel_rfl) (by kernel_rfl) (by kernel_rfl) (by kernel_rfl) (by kernel_rfl) (fun _ _ _ h => h) (Or.inl ⟨by rfl, ?hy6⟩) hS ?rest6
    case hy6 => (intro w hSw; (try dsimp only at hSw); first | (go_simp; done) | (go_simp; with_reducible rfl))
    try simp only [Act.put, List.setIfInBounds_toArray, List.set_cons_zero, List.set_cons_succ]
    refine' wpAnyLast_take (i := 10) (oi := Oper.mk _ _ _ _ _ _) rfl (by kernel_rfl) (by kernel_rfl) (by kernel_rfl) (by kernel_rfl) (by kernel_rfl) (fun _ _ _ h => h) (Or.inl ⟨by rfl, ?hy7⟩) hS ?rest7
    case hy7 => (intro w hSw; (try dsimp only at hSw); first | (go_simp; done) | (go_simp; with_reducible rfl))
    try simp only [Act.put, List.setIfInBounds_toArray, List.set_cons_zero, List.set_cons_succ]
    refine wpAnyLast_take (i := 11) (oi := Oper.mk _ _ _ _ _ _) rfl (by kernel_rfl) (by kernel_rfl) (by kernel_rfl) (by kernel_rfl) (by kernel_rfl) (fun _ _ _ h => h) (rg_load1 (by rfl) (fun _ hS => hS.2.2.cell HG.out) 75 _ rfl rfl (fun _ => by simp [isAgg, run_underlying Tryd.underlying75])) hS ?_
    try simp only [Act.put, List.setIfInBounds_toArray, List.set_cons_zero, List.set_cons_succ]
    refine wpAnyLast_ready (rs := [5]) (by kernel_rfl) (by simp) ?_
    refine AllReadyL.cons (o := Oper.mk _ _ _ _ _ _) rfl (by decide) (fun K hK => ?_) ?_
    · refine rg_call (by rfl) _ _ (.int .u64 A) (by first | (go_simp; done) | (go_simp; rfl)) (EQ.out _) ?_
      intro W' hb
      have I2 := I'.below hb.out
      have BX2 := BX'.below hb.out
      have BG2 := BG'.below hb.out
      have KO2 := Aside0.mk (KO'.out.trans (keepsOthers_below hb.out))
      have HZ2 := Aside0.mk (Nat.le_trans HZ'.out hb.out.size)
      clear I' BX' BG' KO' HZ'
      refine hK.out _ _ ⟨I2.bs.out _ PM.out.1, BX2, BG2⟩ (fun hS => ?_)
      clear hK K
      try simp only [Act.put, List.setIfInBounds_toArray, List.set_cons_zero, List.set_cons_succ]
      refine' wpAnyLast_take (i := 12) (oi := Oper.mk _ _ _ _ _ _) rfl (by kernel_rfl) (by kernel_rfl) (by kernel_rfl) (by kernel_rfl) (by kernel_rfl) (fun _ _ _ h => h) (Or.inl ⟨by rfl, ?hy8⟩) hS ?rest8
      case hy8 => (intro w hSw; (try dsimp only at hSw); first | (go_simp; done) | (go_simp; with_reducible rfl))
      try simp only [Act.put, List.setIfInBounds_toArray, List.set_cons_zero, List.set_cons_succ]
      refine' wpAnyLast_take (i := 13) (oi := Oper.mk _ _ _ _ _ _) rfl (by kernel_rfl) (by kernel_rfl) (by kernel_rfl) (by kernel_rfl) (by kernel_rfl) (fun _ _ _ h => h) (Or.inl ⟨by rfl, ?hy9⟩) hS ?rest9
      case hy9 => (intro w hSw; (try dsimp only at hSw); first | (go_simp; done) | (go_simp; with_reducible rfl))
      try simp only [Act.put, List.setIfInBounds_toArray, List.set_cons_zero, List.set_cons_succ]
      refine wpAnyLast_ready (rs := [14]) (by kernel_rfl) (by simp) ?_
      refine AllReadyL.cons_last (o := Oper.mk _ _ _ _ _ _) rfl (by decide) (fun K hK => ?_) ?_
      · refine rg_store1 I2.hb (by rfl) BG2 (Aside0.mk HN.out.2.1) 75 _ _ rfl rfl _ rfl HXI.out (by kernel_rfl) rfl ?_
        intro w3 B3 HB3 K3
        have E3 := I2.bs.other K3 (fun b m => (I2.bs.out b m).ne BG2 (PL.out.2 b m))
        have KO3 := Aside0.mk (KO2.out.trans (keepsOthers_other BG2 K3))
        have HZ3 := Aside0.mk (Nat.le_trans HZ2.out K3.out.1)
        refine hK.out _ _ ?_
        clear hK K
        try simp only [Act.put, List.setIfInBounds_toArray, List.set_cons_zero, List.set_cons_succ]
        refine wpAnyLast_done (by kernel_rfl) ?_ _
        refine Straight.normal ?_
        gi_wp2
        refine ⟨KO3.out.from _, Keep2.of_blk (HI.out.bs.out _ PM.out.2.2.1) (HI.out.bs.out _ PM.out.2.2.2) (E3.out _ PM.out.2.2.1) (E3.out _ PM.out.2.2.2) HZ3.out, E3, ?_, HB3, Nat.le_trans HI.out.sz HZ3.out⟩
        obtain ⟨hrl, hbg, hnc, hcm, hcs⟩ := HN.out
        obtain ⟨hold, hA⟩ := HOA.out
        refine row_shut hbg B3 hnc hcm (by rw [Array.size_setIfInBounds]; exact hcs) (by rw [List.length_map, foldM_length]) ?_
        rw [foldM_snoc]
        unfold stepM
        rw [List.map_set, ← hold, ← hA]
        exact HAA.out.set _ _
      exact AllReadyL.nil
    exact AllReadyL.nil
  case done =>
    rintro D ys W hD rfl hI hK
    have b3 := hI.bs.out _ PM.out.1
    have b2 := hI.bs.out _ PM.out.2.1
    have hrow := hI.row
    have HB := hI.hb
    have HD := Aside0.mk hD
    have HKD := Aside0.mk hK
    clear hK hD
    gi_wp2_with (first
      | ((with_reducible refine gate_dstIn (N := 26) rfl ?_); refine ev_loadSIn b3 rfl 34 _ rfl rfl Tryd.underlying34 rfl (by kernel_rfl) ?_)
      | ((with_reducible refine gate_In (Op.store 34 (.tmp 2) (.tmp 26)) rfl ?_); refine ev_storeIn HB b2 GE_g2 rfl 34 _ _ rfl rfl rfl (by kernel_rfl) rfl (by simp [Value.oneCell']; exact V1.out) ?_; intro w8 B8 HB8 K8 KO8))
    have HK8 := KO8.out.same D _ HKD.out rfl
    have hrow8 := row_other hrow b2 (by decide) K8
    have hg := grownBy_putObj' w8 D (.deferred none)
    have hr : ∀ r, some D = some r → ∃ o : Obj, w8.heap[r]? = some o ∧ o.isCells = false := fun r e => by
      cases e
      exact ⟨_, HK8, rfl⟩
    have hle : w.heap.size ≤ D := Nat.le_trans HBW.le HD.out
    refine ⟨by simp, .inl ⟨_, _, rfl, run_takeDeferred HK8, ?_⟩⟩
    refine ⟨_, results_cell_row rfl _ _ g2 34 _ (0, 0) _ rfl (B8.kept hg hr).out Tryd.underlying34 rfl (by kernel_rfl), v1, rfl, ?_, (HB8.kept hg hle (fun r e => by cases e; exact Nat.le_refl _)).out⟩
    have h1 := row_kept hrow8 hg hr
    rw [foldM_all] at h1
    exact h1
  case stop =>
    rintro D c pre W _ _ h _
    exact h.elim
theorem quotes_Marks.calls (a0 : ByteArray) (r1 : Int) (r2 : List Int) (w : World) (h : quotes_Marks.f a0 = some (r1, r2)) :
    Calls Tryd.prog 18 #[.string a0] w fun e w' => ∃ v1_ : Value, e = .returned (.agg #[.int .i64 r1, v1_]) ∧ Kd.R (Kd.int .u64) 75 w' w.heap.size (fun _ => True) v1_ r2 ∧ Below w.heap.size w w' := by
  unfold quotes_Marks.f at h
  by_cases hs : a0.size ≤ 281474976702464
  case neg => rw [if_neg hs] at h; cases h
  rw [if_pos hs] at h
  simp only [Option.some.injEq, Prod.mk.injEq] at h
  obtain ⟨rfl, rfl⟩ := h
  refine (quotes_Marks.walk a0 w hs).mono ?_
  rintro e w' ⟨v, rfl, hrow, hb⟩
  refine ⟨v, rfl, Kd.R_of_own ?_ (fun _ _ => trivial), hb⟩
  rw [wordsOf_length]
  exact hrow
end


section
open Go.Proofs.YtgddljealeklkaaDoorQ Go.Proofs.YtgddljealeklkaaDoorM
set_option maxHeartbeats 1000000 in
set_option maxRecDepth 100000 in
theorem words_Prefix.bits_ (q : Nat → Bool) (w : World) :
    Calls Tryd.prog 96 #[.int .u64 (iv (word q))] w fun e w' => e = .returned (.int .u64 (iv (word (px q 64)))) ∧ w' = w := by
  go_enter Tryd.func96, Tryd.ntmps96
  go_wp2
  go_loop [0, 3] (fun v0 v3 => ∃ e : Nat, e ≤ 6 ∧ v3 = .int .i64 ((2 ^ e : Nat) : Int) ∧ v0 = .int .u64 (iv (word (px q (2 ^ e))))) (fun _ v3 => 64 - (intOf v3).toNat)
  case atStart => exact ⟨0, by decide, rfl, by rw [show (2 ^ 0 : Nat) = 1 from rfl, px_start]⟩
  case round =>
    obtain ⟨e, he, rfl, rfl⟩ := hrel
    rcases (by omega : e = 0 ∨ e = 1 ∨ e = 2 ∨ e = 3 ∨ e = 4 ∨ e = 5 ∨ e = 6) with rfl | rfl | rfl | rfl | rfl | rfl | rfl
    · obtain ⟨x, hx⟩ : ∃ x, x = iv (word (px q 1)) := ⟨_, rfl⟩
      have ST := Aside0.mk (px_step q 1 (by decide) 2 (by decide))
      rw [← hx] at ST
      rw [show iv (word (px q (2 ^ 0))) = x by rw [hx]]
      clear hx
      go_wp2
      go_round
      case rel => exact ⟨1, by decide, rfl, congrArg (Value.int .u64) ST.out⟩
      case measure => decide
    · obtain ⟨x, hx⟩ : ∃ x, x = iv (word (px q 2)) := ⟨_, rfl⟩
      have ST := Aside0.mk (px_step q 2 (by decide) 4 (by decide))
      rw [← hx] at ST
      rw [show iv (word (px q (2 ^ 1))) = x by rw [hx]]
      clear hx
      go_wp2
      go_round
      case rel => exact ⟨2, by decide, rfl, congrArg (Value.int .u64) ST.out⟩
      case measure => decide
    · obtain ⟨x, hx⟩ : ∃ x, x = iv (word (px q 4)) := ⟨_, rfl⟩
      have ST := Aside0.mk (px_step q 4 (by decide) 16 (by decide))
      rw [← hx] at ST
      rw [show iv (word (px q (2 ^ 2))) = x by rw [hx]]
      clear hx
      go_wp2
      go_round
      case rel => exact ⟨3, by decide, rfl, congrArg (Value.int .u64) ST.out⟩
      case measure => decide
    · obtain ⟨x, hx⟩ : ∃ x, x = iv (word (px q 8)) := ⟨_, rfl⟩
      have ST := Aside0.mk (px_step q 8 (by decide) 256 (by decide))
      rw [← hx] at ST
      rw [show iv (word (px q (2 ^ 3))) = x by rw [hx]]
      clear hx
      go_wp2
      go_round
      case rel => exact ⟨4, by decide, rfl, congrArg (Value.int .u64) ST.out⟩
      case measure => decide
    · obtain ⟨x, hx⟩ : ∃ x, x = iv (word (px q 16)) := ⟨_, rfl⟩
      have ST := Aside0.mk (px_step q 16 (by decide) 65536 (by decide))
      rw [← hx] at ST
      rw [show iv (word (px q (2 ^ 4))) = x by rw [hx]]
      clear hx
      go_wp2
      go_round
      case rel => exact ⟨5, by decide, rfl, congrArg (Value.int .u64) ST.out⟩
      case measure => decide
    · obtain ⟨x, hx⟩ : ∃ x, x = iv (word (px q 32)) := ⟨_, rfl⟩
      have ST := Aside0.mk (px_step q 32 (by decide) 4294967296 (by decide))
      rw [← hx] at ST
      rw [show iv (word (px q (2 ^ 5))) = x by rw [hx]]
      clear hx
      go_wp2
      go_round
      case rel => exact ⟨6, by decide, rfl, congrArg (Value.int .u64) ST.out⟩
      case measure => decide
    · go_wp2
      go_ret
      exact ⟨rfl, rfl⟩
def words_Prefix.f (a0 : Int) : Option Int := if 0 ≤ a0 ∧ a0 < 18446744073709551616 then some (iv (word (px (fun j => a0.toNat.testBit j) 64))) else none
theorem words_Prefix.calls (a0 r : Int) (w : World) (h : words_Prefix.f a0 = some r) :
    Calls Tryd.prog 96 #[.int .u64 a0] w fun e w' => e = .returned (.int .u64 r) ∧ Below w.heap.size w w' := by
  unfold words_Prefix.f at h
  by_cases hs : 0 ≤ a0 ∧ a0 < 18446744073709551616
  case neg => rw [if_neg hs] at h; cases h
  rw [if_pos hs] at h
  simp only [Option.some.injEq] at h
  subst h
  obtain ⟨v, rfl⟩ := iv_of hs.1 hs.2
  have hv : iv v = iv (word fun j => (iv v).toNat.testBit j) := congrArg iv (eq_word fun i _ => rfl)
  have e := words_Prefix.bits_ (fun j => (iv v).toNat.testBit j) w
  rw [← hv] at e
  refine e.mono ?_
  rintro e w' ⟨rfl, rfl⟩
  exact ⟨rfl, Below.refl _ _⟩
end


section
open Go.Proofs.YtgddljealeklkaaDoorQ Go.Proofs.YtgddljealeklkaaDoorM
theorem turned_cell {w : World} {gc : Nat} {u : Value} {t : TypeId} (B : Blk w gc #[u] t) (n : Nat) (v : Value) : Blk ((w.drewN n).setCell ⟨gc, 0, none⟩ v) gc #[v] t ∧
    Aside0 (w.heap.size ≤ ((w.drewN n).setCell ⟨gc, 0, none⟩ v).heap.size ∧ ∀ k, k ≠ gc → ((w.drewN n).setCell ⟨gc, 0, none⟩ v).heap[k]? = w.heap[k]?) ∧ Aside0 (∀ b, b ≤ gc → Below b w ((w.drewN n).setCell ⟨gc, 0, none⟩ v)) :=
  ⟨(B.drewN n).set 0 v, ⟨by simp [World.setCell], fun k hk => Below.heap_setCell (w.drewN n) ⟨gc, 0, none⟩ v k hk⟩, ⟨fun b hb => (pw_below_drewN (Below.refl b w) n).setCell hb _⟩⟩
set_option maxHeartbeats 1000000 in
set_option maxRecDepth 100000 in
/-- 'inside' of a carry in a block of its own: the state turns, and nothing else. -/
theorem quotes_carry_inside.turns (q : Nat → Bool) (o : Bool) (gc : Nat) (w : World) (B : Blk w gc #[.int .u64 (iv (openW o))] 88) :
    Calls Tryd.prog 58 #[.pointer (some ⟨gc, 0, none⟩), .int .u64 (iv (word q))] w fun e w' => e = .returned (.int .u64 (iv (word fun j => par q (j + 1) ^^ o))) ∧
      Blk w' gc #[.int .u64 (iv (openW (par q 64 ^^ o)))] 88 ∧ Aside0 (w.heap.size ≤ w'.heap.size ∧ ∀ k, k ≠ gc → w'.heap[k]? = w.heap[k]?) ∧ Aside0 (∀ b, b ≤ gc → Below b w w') := by
  have c := B.cell (i := 0) rfl
  have fz := B.frozen 0
  obtain ⟨z, hz⟩ : ∃ z, z = iv (openW o) := ⟨_, rfl⟩
  obtain ⟨x, hx⟩ : ∃ x, x = iv (word q) := ⟨_, rfl⟩
  obtain ⟨y, hy⟩ : ∃ y, y = iv (word (px q 64)) := ⟨_, rfl⟩
  obtain ⟨r, hr⟩ : ∃ r, r = iv (word fun j => par q (j + 1) ^^ o) := ⟨_, rfl⟩
  have PF : Aside0 (∀ w, Calls Tryd.prog 96 #[.int .u64 x] w fun e w' => e = .returned (.int .u64 y) ∧ w' = w) := ⟨fun w => by rw [hx, hy]; exact words_Prefix.bits_ q w⟩
  have RV : bits .xor .u64 y z = r := by rw [hy, hz, hr]; exact in_word q o
  have TV : Aside0 (IntKind.u64.wrap (-(r / 9223372036854775808)) = iv (openW (par q 64 ^^ o))) := ⟨by rw [hr]; exact turn_word fun j => par q (j + 1) ^^ o⟩
  rw [← hz] at c
  rw [← hx, ← hr]
  have BB := Aside0.mk B
  clear B hz hx hy hr
  go_enter Tryd.func58, Tryd.ntmps58
  go_wp2
  go_quiet ((go_at_call 96; exact Calls.quiet_of_same (PF.out _)))
  go_wp2
  rw [TV.out]
  go_ret
  exact ⟨rfl, turned_cell BB.out _ _⟩
end


section
open Go.Proofs.YtgddljealeklkaaDoorQ Go.Proofs.YtgddljealeklkaaDoorM
set_option maxHeartbeats 4000000 in
set_option maxRecDepth 100000 in
/-- 'each' of a row that the caller owns, by a carry of the caller's. -/
theorem quotes_each.turns (n : Nat) (hn : n ≤ 281474976702464) (q : Nat → Bool) (gc base : Nat) (v : Value) (w0 w : World) (H0 : BelowH w0 w) (Bc : Blk w gc #[.int .u64 (iv (openW false))] 88) (hgc : w0.heap.size ≤ gc) (hbase : w0.heap.size ≤ base)
    (hrow : w.ownsRow base 75 1 v (nwords n) ((wordsOf n q).map (Value.int .u64))) :
    Calls Tryd.prog 57 #[.agg #[.int .i64 (n : Int), v], .func (.func 58) #[.pointer (some ⟨gc, 0, none⟩)] #[]] w fun e w' => e = .returned (.agg #[.int .i64 (n : Int), v]) ∧
      w'.ownsRow base 75 1 v (nwords n) ((wordsOf n (insq q)).map (Value.int .u64)) ∧ BelowH w0 w' := by
  have V1 := Aside0.mk (row_one hrow)
  obtain ⟨ad, cp, rfl⟩ := own_slice hrow
  have HB := H0
  clear H0
  have HGC := Aside0.mk hgc
  have HBA := Aside0.mk hbase
  have HR := Aside0.mk hrow
  have LC := Bc.lt
  obtain ⟨nw, hnw⟩ : ∃ nw, nw = nwords n := ⟨_, rfl⟩
  have HNW := Aside0.mk hnw
  have hnb : (nw : Int) ≤ 4398046511104 := by rw [hnw]; unfold nwords; omega
  clear hgc hbase hrow
  rw [← hnw] at HR ⊢
  rw [← hnw] at V1
  clear hnw
  go_enter Tryd.func57, Tryd.ntmps57
  go_upto_region 1 with (first
    | ((with_reducible refine gate_dst (N := 2) rfl ?_); refine ev_alloc HB rfl (#[.int .i64 (n : Int), .slice ad nw cp]) 34 ?hr ?_; (case hr => first | (go_simp; done) | (go_simp; rfl)); intro g2 w2 G_g2 GE_g2 B_g2 HBn K_g2; clear HB; have HB := HBn; clear HBn)
    | ((with_reducible refine gate_dst (N := 4) rfl ?_); refine ev_alloc HB rfl (#[.int .i64 0, .slice none 0 0]) 34 ?hr ?_; (case hr => first | (go_simp; done) | (go_simp; rfl)); intro g4 w4 G_g4 GE_g4 B_g4 HBn K_g4; clear HB; have HB := HBn; clear HBn))
  have Bc4 := (Bc.below K_g2.out).below K_g4.out
  have B24 := B_g2.below K_g4.out
  have R4 := Aside0.mk (row_below (row_below HR.out K_g2.out) K_g4.out)
  have N24 := Aside0.mk (show gc < g2 ∧ g2 < g4 by have := G_g2.out; have := B_g2.lt; have := G_g4.out; omega)
  have c20 := B24.cell (i := 0) rfl
  have c21 := B24.cell (i := 1) rfl
  rw [← insL_zero] at R4
  have O4 := Aside0.mk (show Blk w4 gc #[.int .u64 (iv (openW (par (cutQ n q) (64 * 0))))] 88 from Bc4)
  clear HR Bc Bc4 B_g2 K_g2 K_g4 G_g2 G_g4 LC
  go_wp2
  go_loopw [11] (fun v11 wr => ∃ k : Nat, v11 = .int .i64 (k : Int) ∧ Aside0 (k ≤ nw) ∧ Aside0 (wr.ownsRow base 75 1 (.slice ad nw cp) nw ((insL n q k).map (Value.int .u64))) ∧ Aside0 (Blk wr gc #[.int .u64 (iv (openW (par (cutQ n q) (64 * k))))] 88) ∧
      Blk wr g2 #[.int .i64 (n : Int), .slice ad nw cp] 34 ∧ Blk wr g4 #[.int .i64 0, .slice none 0 0] 34 ∧ BelowH w0 wr) (fun v11 _ => nw - (intOf v11).toNat)
  case atStart => exact ⟨0, rfl, ⟨Nat.zero_le _⟩, R4, O4, B24, B_g4, HB⟩
  case round =>
    clear R4 O4 B24 B_g4 HB c20 c21
    obtain ⟨k, rfl, HK, R, O, B2, B4, HB⟩ := hrel
    by_cases hlt : k < nw
    · have HLT := Aside0.mk hlt
      obtain ⟨hrl, (⟨_, hn0⟩ | ⟨g, cap, cur, he, hbg, BG, hnc, hcm, hcs, HA⟩)⟩ := row_open R.out
      · omega
      injection he with he1 he2 he3
      subst he1
      subst he3
      clear he2
      have hget : ((insL n q k).map (Value.int .u64))[k]? = some (.int .u64 (iv (wordAt n q k))) := by
        rw [List.getElem?_map, insL_at n q (by rw [← HNW.out]; exact hlt)]
        rfl
      obtain ⟨x, hx⟩ : ∃ x, x = iv (wordAt n q k) := ⟨_, rfl⟩
      obtain ⟨y, hy⟩ : ∃ y, y = iv (word fun j => par (fun i => cutQ n q (64 * k + i)) (j + 1) ^^ par (cutQ n q) (64 * k)) := ⟨_, rfl⟩
      rw [← hx] at hget
      have HG := Aside0.mk (HA.get hget)
      have IN : Aside0 (∀ W, Blk W gc #[.int .u64 (iv (openW (par (cutQ n q) (64 * k))))] 88 → Calls Tryd.prog 58 #[.pointer (some ⟨gc, 0, none⟩), .int .u64 x] W fun e w' => e = .returned (.int .u64 y) ∧
          (Blk w' gc #[.int .u64 (iv (openW (par (cutQ n q) (64 * (k + 1)))))] 88 ∧ Aside0 (W.heap.size ≤ w'.heap.size ∧ ∀ k, k ≠ gc → w'.heap[k]? = W.heap[k]?) ∧ Aside0 (∀ b, b ≤ gc → Below b W w'))) := ⟨fun W B => by
        have h := quotes_carry_inside.turns (fun i => cutQ n q (64 * k + i)) (par (cutQ n q) (64 * k)) gc W B
        rw [par_next] at h
        rw [hx, hy]
        exact h⟩
      have HXY := Aside0.mk (And.intro hx hy)
      have HN := Aside0.mk (And.intro hrl (And.intro hbg (And.intro hnc (And.intro hcm hcs))))
      have HAA := Aside0.mk HA
      have cw := BG.cell (HA.get hget)
      have c20 := B2.cell (i := 0) rfl
      have c21 := B2.cell (i := 1) rfl
      have hq1 : (k : Int) < (nw : Int) := by omega
      have hq2 : (0 : Int) ≤ (k : Int) := by omega
      have hq6 : IntKind.i64.wrap (k : Int) = (k : Int) := by rw [i64_w]; unfold wrap64; omega
      have hbd : Aside0 (Below wr.heap.size wr wr.drew) := ⟨below_drew (Below.refl _ _)⟩
      have BG' := BG.below hbd.out
      have B2' := B2.below hbd.out
      have B4' := B4.below hbd.out
      have O' := Aside0.mk (O.out.below hbd.out)
      have HB' := HB.step hbd.out
      clear hx hy hrl hbg hnc hcm hcs HA hget R hlt
      go_upto_region 4 with (fail)
      clear cw c20 c21 BG B2 B4 O HB hbd
      refine wp_region_noPanic ?_
      refine wp_region_last_drew (S := fun W' => Blk W' g2 #[.int .i64 (n : Int), .slice (some ⟨g, 0, none⟩) nw cp] 34) (ds := [7]) (by kernel_rfl) B2' (fun hS => ?_)
      refine' wpAnyLast_take (i := 0) (oi := Oper.mk _ _ _ _ _ _) rfl (by kernel_rfl) (by kernel_rfl) (by kernel_rfl) (by kernel_rfl) (by kernel_rfl) (fun _ _ _ h => h) (Or.inl ⟨by rfl, ?hy1⟩) hS ?rest1
      case hy1 => (intro w hSw; (try dsimp only at hSw); first | (go_simp; done) | (go_simp; with_reducible rfl))
      try simp only [Act.put, List.setIfInBounds_toArray, List.set_cons_zero, List.set_cons_succ]
      refine wpAnyLast_take (i := 1) (oi := Oper.mk _ _ _ _ _ _) rfl (by kernel_rfl) (by kernel_rfl) (by kernel_rfl) (by kernel_rfl) (by kernel_rfl) (fun _ _ _ h => h) (rg_load1 (by rfl) (fun _ hS => hS.cell (i := 1) rfl) 32 _ rfl rfl (fun _ => by simp [isAgg, run_underlying Tryd.underlying32])) hS ?_
      try simp only [Act.put, List.setIfInBounds_toArray, List.set_cons_zero, List.set_cons_succ]
      refine' wpAnyLast_take (i := 2) (oi := Oper.mk _ _ _ _ _ _) rfl (by kernel_rfl) (by kernel_rfl) (by kernel_rfl) (by kernel_rfl) (by kernel_rfl) (fun _ _ _ h => h) (Or.inl ⟨by rfl, ?hy2⟩) hS ?rest2
      case hy2 => (intro w hSw; (try dsimp only at hSw); first | (go_simp; done) | (go_simp; with_reducible rfl))
      try simp only [Act.put, List.setIfInBounds_toArray, List.set_cons_zero, List.set_cons_succ]
      refine' wpAnyLast_take (i := 3) (oi := Oper.mk _ _ _ _ _ _) rfl (by kernel_rfl) (by kernel_rfl) (by kernel_rfl) (by kernel_rfl) (by kernel_rfl) (fun _ _ _ h => h) (Or.inl ⟨by rfl, ?hy3⟩) hS ?rest3
      case hy3 => (intro w hSw; (try dsimp only at hSw); first | (go_simp; done) | (go_simp; with_reducible rfl))
      try simp only [Act.put, List.setIfInBounds_toArray, List.set_cons_zero, List.set_cons_succ]
      refine' wpAnyLast_take (i := 4) (oi := Oper.mk _ _ _ _ _ _) rfl (by kernel_rfl) (by kernel_rfl) (by kernel_rfl) (by kernel_rfl) (by kernel_rfl) (fun _ _ _ h => h) (Or.inl ⟨by rfl, ?hy4⟩) hS ?rest4
      case hy4 => (intro w hSw; (try dsimp only at hSw); first | (go_simp; done) | (go_simp; with_reducible rfl))
      try simp only [Act.put, List.setIfInBounds_toArray, List.set_cons_zero, List.set_cons_succ]
      refine wpAnyLast_ready (rs := [5]) (by kernel_rfl) (by simp) ?_
      refine AllReadyL.cons (o := Oper.mk _ _ _ _ _ _) rfl (by decide) (fun K hK => ?_) ?_
      · refine rg_callP (by rfl) _ _ (.int .u64 y) (by first | (go_simp; done) | (go_simp; rfl)) (IN.out _ O'.out) ?_
        intro W2 hP
        obtain ⟨O2, K2, LO2⟩ := hP.out
        have N2c : g2 ≠ gc := by have := N24.out; omega
        have N4c : g4 ≠ gc := by have := N24.out; omega
        have B22 := B2'.other K2 N2c
        have B42 := B4'.other K2 N4c
        have Ngc : g ≠ gc := Ne.symm (O'.out.ne BG' (by decide))
        have BG2 := BG'.other K2 Ngc
        have HB2 : BelowH w0 W2 := ⟨HB'.out.trans (LO2.out _ HGC.out)⟩
        refine hK.out _ _ B22 (fun hS => ?_)
        clear hK K O' B2' B4' BG' HB' hP K2 LO2
        try simp only [Act.put, List.setIfInBounds_toArray, List.set_cons_zero, List.set_cons_succ]
        refine' wpAnyLast_take (i := 6) (oi := Oper.mk _ _ _ _ _ _) rfl (by kernel_rfl) (by kernel_rfl) (by kernel_rfl) (by kernel_rfl) (by kernel_rfl) (fun _ _ _ h => h) (Or.inl ⟨by rfl, ?hy5⟩) hS ?rest5
        case hy5 => (intro w hSw; (try dsimp only at hSw); first | (go_simp; done) | (go_simp; with_reducible rfl))
        try simp only [Act.put, List.setIfInBounds_toArray, List.set_cons_zero, List.set_cons_succ]
        refine wpAnyLast_ready (rs := [7]) (by kernel_rfl) (by simp) ?_
        refine AllReadyL.cons_last (o := Oper.mk _ _ _ _ _ _) rfl (by decide) (fun K hK => ?_) ?_
        · refine rg_store1 HB2 (by rfl) BG2 (Aside0.mk (Nat.le_trans HBA.out HN.out.2.1)) 75 _ _ rfl rfl _ rfl (by have := HLT.out; have := HN.out; omega) (by kernel_rfl) rfl ?_
          intro w3 B3 HB3 K3
          have B23 := B22.other K3 (B22.ne BG2 (by decide))
          have B43 := B42.other K3 (B42.ne BG2 (by decide))
          have O3 := O2.other K3 (Ne.symm Ngc)
          refine hK.out _ _ ?_
          clear hK K
          try simp only [Act.put, List.setIfInBounds_toArray, List.set_cons_zero, List.set_cons_succ]
          refine wpAnyLast_done (by kernel_rfl) ?_ _
          refine NoPanic.normal ?_
          go_wp2
          go_roundw
          case rel =>
            refine ⟨k + 1, by go_num, ⟨by have := HLT.out; omega⟩, ⟨?_⟩, ⟨O3⟩, B23, B43, HB3⟩
            obtain ⟨hrl, hbg, hnc, hcm, hcs⟩ := HN.out
            refine row_shut hbg B3 hnc hcm (by rw [Array.size_setIfInBounds]; exact hcs) (by rw [List.length_map, insL_length, HNW.out]) ?_
            rw [← insL_step n q (by rw [← HNW.out]; exact HLT.out) HXY.out.2, List.map_set]
            exact HAA.out.set _ _
          case measure => (simp [intOf]; have := HLT.out; omega)
        exact AllReadyL.nil
      exact AllReadyL.nil
    · obtain rfl : k = nw := by have := HK.out; omega
      have c20 := B2.cell (i := 0) rfl
      have c21 := B2.cell (i := 1) rfl
      obtain ⟨r, hr⟩ : ∃ r : Nat, r = n % 64 := ⟨_, rfl⟩
      have hm1 : (n : Int) % 64 = (r : Int) := by omega
      have hm2 : Int.tmod (n : Int) 64 = (r : Int) := by rw [Int.tmod_eq_emod_of_nonneg (by omega)]; omega
      have hm0 : (0 : Int) ≤ (n : Int) := by omega
      have HRR := Aside0.mk hr
      clear hlt
      by_cases h0 : 0 < r
      · have h1 : decide ((0 : Int) < (r : Int)) = true := decide_eq_true (by omega)
        have h2 : decide (0 < r) = true := decide_eq_true h0
        have H0 := Aside0.mk h0
        have hk0 : 0 < k := by have e1 := HNW.out; have e2 := HRR.out; unfold nwords at e1; omega
        obtain ⟨hrl, (⟨_, hn0⟩ | ⟨g, cap, cur, he, hbg, BG, hnc, hcm, hcs, HA⟩)⟩ := row_open R.out
        · omega
        injection he with he1 he2 he3
        subst he1
        subst he3
        clear he2
        obtain ⟨m, hm⟩ : ∃ m : Nat, m = k - 1 := ⟨_, rfl⟩
        obtain ⟨x, hx⟩ : ∃ x, x = (insL n q (nwords n)).getD (nwords n - 1) 0 := ⟨_, rfl⟩
        have hget : ((insL n q k).map (Value.int .u64))[m]? = some (.int .u64 x) := by
          have hl : m < (insL n q k).length := by rw [insL_length, ← HNW.out]; omega
          rw [hx, ← HNW.out, ← hm, List.getElem?_map, List.getD_eq_getElem?_getD, List.getElem?_eq_getElem hl]
          rfl
        have HG := Aside0.mk (HA.get hget)
        have HX := Aside0.mk hx
        have HM := Aside0.mk hm
        have HMC := Aside0.mk (show m < cur.size by omega)
        have HN := Aside0.mk (And.intro hrl (And.intro hbg (And.intro hnc (And.intro hcm hcs))))
        have HAA := Aside0.mk HA
        have hq1 : (m : Int) < (k : Int) := by omega
        have hq2 : (0 : Int) ≤ (m : Int) := by omega
        have hq3 : IntKind.i64.wrap (m : Int) = (m : Int) := by rw [i64_w]; unfold wrap64; omega
        have hq4 : IntKind.i64.wrap ((k : Int) - 1) = (m : Int) := by rw [i64_w]; unfold wrap64; omega
        have hq5 : (r : Int) < 64 := by omega
        have hq6 : (0 : Int) ≤ (r : Int) := by omega
        have hbd : Aside0 (Below wr.heap.size wr wr.drew) := ⟨below_drew (Below.refl _ _)⟩
        have BG' := BG.below hbd.out
        have B2' := B2.below hbd.out
        have B4' := B4.below hbd.out
        have HB' := HB.step hbd.out
        clear hr h0 hk0 hrl hbg hnc hcm hcs HA hget hx hm R
        go_upto_region 8 with (fail)
        clear c20 c21 BG B2 B4 O HB hbd h1 h2 hm1 hm2
        refine wp_region_noPanic ?_
        refine wp_region_last_drew (S := fun W' => Blk W' g2 #[.int .i64 (n : Int), .slice (some ⟨g, 0, none⟩) k cp] 34 ∧ Blk W' g cur 75) (ds := [13]) (by kernel_rfl) ⟨B2', BG'⟩ (fun hS => ?_)
        refine' wpAnyLast_take (i := 0) (oi := Oper.mk _ _ _ _ _ _) rfl (by kernel_rfl) (by kernel_rfl) (by kernel_rfl) (by kernel_rfl) (by kernel_rfl) (fun _ _ _ h => h) (Or.inl ⟨by rfl, ?hy6⟩) hS ?rest6
        case hy6 => (intro w hSw; (try dsimp only at hSw); first | (go_simp; done) | (go_simp; with_reducible rfl))
        try simp only [Act.put, List.setIfInBounds_toArray, List.set_cons_zero, List.set_cons_succ]
        refine wpAnyLast_take (i := 1) (oi := Oper.mk _ _ _ _ _ _) rfl (by kernel_rfl) (by kernel_rfl) (by kernel_rfl) (by kernel_rfl) (by kernel_rfl) (fun _ _ _ h => h) (rg_load1 (by rfl) (fun _ hS => hS.1.cell (i := 1) rfl) 32 _ rfl rfl (fun _ => by simp [isAgg, run_underlying Tryd.underlying32])) hS ?_
        try simp only [Act.put, List.setIfInBounds_toArray, List.set_cons_zero, List.set_cons_succ]
        refine' wpAnyLast_take (i := 2) (oi := Oper.mk _ _ _ _ _ _) rfl (by kernel_rfl) (by kernel_rfl) (by kernel_rfl) (by kernel_rfl) (by kernel_rfl) (fun _ _ _ h => h) (Or.inl ⟨by rfl, ?hy7⟩) hS ?rest7
        case hy7 => (intro w hSw; (try dsimp only at hSw); first | (go_simp; done) | (go_simp; with_reducible rfl))
        try simp only [Act.put, List.setIfInBounds_toArray, List.set_cons_zero, List.set_cons_succ]
        refine wpAnyLast_take (i := 3) (oi := Oper.mk _ _ _ _ _ _) rfl (by kernel_rfl) (by kernel_rfl) (by kernel_rfl) (by kernel_rfl) (by kernel_rfl) (fun _ _ _ h => h) (rg_load1 (by rfl) (fun _ hS => hS.1.cell (i := 1) rfl) 32 _ rfl rfl (fun _ => by simp [isAgg, run_underlying Tryd.underlying32])) hS ?_
        try simp only [Act.put, List.setIfInBounds_toArray, List.set_cons_zero, List.set_cons_succ]
        refine' wpAnyLast_take (i := 4) (oi := Oper.mk _ _ _ _ _ _) rfl (by kernel_rfl) (by kernel_rfl) (by kernel_rfl) (by kernel_rfl) (by kernel_rfl) (fun _ _ _ h => h) (Or.inl ⟨by rfl, ?hy8⟩) hS ?rest8
        case hy8 => (intro w hSw; (try dsimp only at hSw); first | (go_simp; done) | (go_simp; with_reducible rfl))
        try simp only [Act.put, List.setIfInBounds_toArray, List.set_cons_zero, List.set_cons_succ]
        refine' wpAnyLast_take (i := 5) (oi := Oper.mk _ _ _ _ _ _) rfl (by kernel_rfl) (by kernel_rfl) (by kernel_rfl) (by kernel_rfl) (by kernel_rfl) (fun _ _ _ h => h) (Or.inl ⟨by rfl, ?hy9⟩) hS ?rest9
        case hy9 => (intro w hSw; (try dsimp only at hSw); first | (go_simp; done) | (go_simp; with_reducible rfl))
        try simp only [Act.put, List.setIfInBounds_toArray, List.set_cons_zero, List.set_cons_succ]
        refine' wpAnyLast_take (i := 6) (oi := Oper.mk _ _ _ _ _ _) rfl (by kernel_rfl) (by kernel_rfl) (by kernel_rfl) (by kernel_rfl) (by kernel_rfl) (fun _ _ _ h => h) (Or.inl ⟨by rfl, ?hy10⟩) hS ?rest10
        case hy10 => (intro w hSw; (try dsimp only at hSw); first | (go_simp; done) | (go_simp; with_reducible rfl))
        try simp only [Act.put, List.setIfInBounds_toArray, List.set_cons_zero, List.set_cons_succ]
        refine wpAnyLast_take (i := 7) (oi := Oper.mk _ _ _ _ _ _) rfl (by kernel_rfl) (by kernel_rfl) (by kernel_rfl) (by kernel_rfl) (by kernel_rfl) (fun _ _ _ h => h) (rg_load1 (by rfl) (fun _ hS => hS.2.cell HG.out) 75 _ rfl rfl (fun _ => by simp [isAgg, run_underlying Tryd.underlying75])) hS ?_
        try simp only [Act.put, List.setIfInBounds_toArray, List.set_cons_zero, List.set_cons_succ]
        refine' wpAnyLast_take (i := 8) (oi := Oper.mk _ _ _ _ _ _) rfl (by kernel_rfl) (by kernel_rfl) (by kernel_rfl) (by kernel_rfl) (by kernel_rfl) (fun _ _ _ h => h) (Or.inl ⟨by rfl, ?hy11⟩) hS ?rest11
        case hy11 => (intro w hSw; (try dsimp only at hSw); first | (go_simp; done) | (go_simp; with_reducible rfl))
        try simp only [Act.put, List.setIfInBounds_toArray, List.set_cons_zero, List.set_cons_succ]
        refine' wpAnyLast_take (i := 9) (oi := Oper.mk _ _ _ _ _ _) rfl (by kernel_rfl) (by kernel_rfl) (by kernel_rfl) (by kernel_rfl) (by kernel_rfl) (fun _ _ _ h => h) (Or.inl ⟨by rfl, ?hy12⟩) hS ?rest12
        case hy12 => (intro w hSw; (try dsimp only at hSw); first | (go_simp; done) | (go_simp; with_reducible rfl))
        try simp only [Act.put, List.setIfInBounds_toArray, List.set_cons_zero, List.set_cons_succ]
        refine' wpAnyLast_take (i := 10) (oi := Oper.mk _ _ _ _ _ _) rfl (by kernel_rfl) (by kernel_rfl) (by kernel_rfl) (by kernel_rfl) (by kernel_rfl) (fun _ _ _ h => h) (Or.inl ⟨by rfl, ?hy13⟩) hS ?rest13
        case hy13 => (intro w hSw; (try dsimp only at hSw); first | (go_simp; done) | (go_simp; with_reducible rfl))
        try simp only [Act.put, List.setIfInBounds_toArray, List.set_cons_zero, List.set_cons_succ]
        refine' wpAnyLast_take (i := 11) (oi := Oper.mk _ _ _ _ _ _) rfl (by kernel_rfl) (by kernel_rfl) (by kernel_rfl) (by kernel_rfl) (by kernel_rfl) (fun _ _ _ h => h) (Or.inl ⟨by rfl, ?hy14⟩) hS ?rest14
        case hy14 => (intro w hSw; (try dsimp only at hSw); first | (go_simp; done) | (go_simp; with_reducible rfl))
        try simp only [Act.put, List.setIfInBounds_toArray, List.set_cons_zero, List.set_cons_succ]
        refine' wpAnyLast_take (i := 12) (oi := Oper.mk _ _ _ _ _ _) rfl (by kernel_rfl) (by kernel_rfl) (by kernel_rfl) (by kernel_rfl) (by kernel_rfl) (fun _ _ _ h => h) (Or.inl ⟨by rfl, ?hy15⟩) hS ?rest15
        case hy15 => (intro w hSw; (try dsimp only at hSw); first | (go_simp; done) | (go_simp; with_reducible rfl))
        try simp only [Act.put, List.setIfInBounds_toArray, List.set_cons_zero, List.set_cons_succ]
        refine wpAnyLast_ready (rs := [13]) (by kernel_rfl) (by simp) ?_
        refine AllReadyL.cons_last (o := Oper.mk _ _ _ _ _ _) rfl (by decide) (fun K hK => ?_) ?_
        · refine rg_store1 HB' (by rfl) BG' (Aside0.mk (Nat.le_trans HBA.out HN.out.2.1)) 75 _ _ rfl rfl _ rfl HMC.out (by kernel_rfl) rfl ?_
          intro w3 B3 HB3 K3
          have B23 := B2'.other K3 (B2'.ne BG' (by decide))
          have B43 := B4'.other K3 (B4'.ne BG' (by decide))
          refine hK.out _ _ ?_
          clear hK K
          try simp only [Act.put, List.setIfInBounds_toArray, List.set_cons_zero, List.set_cons_succ]
          refine wpAnyLast_done (by kernel_rfl) ?_ _
          refine NoPanic.normal ?_
          go_wp2_with (first
            | ((with_reducible refine gate_dst (N := 42) rfl ?_); refine ev_loadS B23 rfl 34 _ rfl rfl Tryd.underlying34 rfl (by kernel_rfl) ?_)
            | ((with_reducible refine gate_ (Op.store 34 (.tmp 4) (.tmp 42)) rfl ?_); refine ev_store HB3 B43 GE_g4 rfl 34 _ _ rfl rfl rfl (by kernel_rfl) rfl (by simp [Value.oneCell']) ?_; intro w5 B5 HB5 K5))
          refine bodyPost_ret (results_cell_row rfl _ _ g4 34 _ (0, 0) _ rfl B5.out Tryd.underlying34 rfl (by kernel_rfl)) rfl ?_
          refine ⟨rfl, ?_, HB5⟩
          obtain ⟨hrl, hbg, hnc, hcm, hcs⟩ := HN.out
          refine row_other (row_shut hbg B3 hnc hcm (by rw [Array.size_setIfInBounds]; exact hcs) (by rw [List.length_map, wordsOf_length, HNW.out]) ?_) B43 (by decide) K5
          rw [← insL_part n q (by have := H0.out; have := HRR.out; omega) (v := bits .and .u64 x (IntKind.u64.wrap (IntKind.u64.wrap (2 ^ r) - 1))) (by rw [HX.out, HRR.out]), List.map_set, ← HNW.out, ← HM.out]
          exact HAA.out.set _ _
        exact AllReadyL.nil
      · have h1 : decide ((0 : Int) < (r : Int)) = false := decide_eq_false (by omega)
        have h2 : decide (0 < r) = false := decide_eq_false h0
        have H0 := Aside0.mk h0
        clear hr h0
        have B23 := B2
        have B43 := B4
        have HB3 := HB
        clear B2 B4 HB
        go_wp2_with (first
          | ((with_reducible refine gate_dst (N := 42) rfl ?_); refine ev_loadS B23 rfl 34 _ rfl rfl Tryd.underlying34 rfl (by kernel_rfl) ?_)
          | ((with_reducible refine gate_ (Op.store 34 (.tmp 4) (.tmp 42)) rfl ?_); refine ev_store HB3 B43 GE_g4 rfl 34 _ _ rfl rfl rfl (by kernel_rfl) rfl (by simp [Value.oneCell']) ?_; intro w5 B5 HB5 K5))
        refine bodyPost_ret (results_cell_row rfl _ _ g4 34 _ (0, 0) _ rfl B5.out Tryd.underlying34 rfl (by kernel_rfl)) rfl ?_
        refine ⟨rfl, ?_, HB5⟩
        have h := R.out
        rw [HNW.out, insL_full n q (by have := H0.out; have := HRR.out; omega), ← HNW.out] at h
        exact row_other h B43 (by decide) K5
end


section
open Go.Proofs.YtgddljealeklkaaDoorQ Go.Proofs.YtgddljealeklkaaDoorM
theorem carry_start : (#[.int .u64 0] : Array Value) = #[.int .u64 (iv (openW false))] := by rw [openW_no]
def quotes_Inside.f (a0 : ByteArray) : Option (Int × List Int) := if a0.size ≤ 281474976702464 then some ((a0.size : Int), wordsOf a0.size (insq (mkq a0))) else none
set_option maxHeartbeats 1000000 in
set_option maxRecDepth 100000 in
theorem quotes_Inside.walk (s : ByteArray) (w : World) (hs : s.size ≤ 281474976702464) :
    Calls Tryd.prog 19 #[.string s] w fun e w' => ∃ v1_ : Value, e = .returned (.agg #[.int .i64 s.size, v1_]) ∧ w'.ownsRow w.heap.size 75 1 v1_ (nwords s.size) ((wordsOf s.size (insq (mkq s))).map (Value.int .u64)) ∧ Below w.heap.size w w' := by
  have HB := BelowH.refl w
  go_enter Tryd.func19, Tryd.ntmps19
  go_upto_region 1 with (first
    | ((with_reducible refine gate_dst (N := 2) rfl ?_); refine ev_alloc HB rfl (#[.int .i64 0, .slice none 0 0]) 34 ?hr ?_; (case hr => first | (go_simp; done) | (go_simp; rfl)); intro g2 w2 G_g2 GE_g2 B_g2 HBn K_g2; clear HB; have HB := HBn; clear HBn))
  have HB2 := HB
  go_wp2_with (first
    | ((with_reducible refine gate_dst (N := 3) rfl ?_); refine ev_alloc HB rfl (#[.int .u64 0]) 88 ?hr ?_; (case hr => first | (go_simp; done) | (go_simp; rfl)); intro g3 w3 G_g3 GE_g3 B_g3 HBn K_g3; clear HB; have HB := HBn; clear HBn)
    | (go_at_call 18; refine (quotes_Marks.walk s _ hs).mono ?_; rintro e w4 ⟨v1, rfl, hrow, hb4⟩; have B3 := (B_g3.eqA carry_start).below hb4; have R4 := Aside0.mk hrow; have V1 := Aside0.mk (row_one hrow); have HB4 : BelowH w2 w4 := ⟨below_step K_g3.out hb4⟩; clear hb4 hrow HB)
    | (go_at_call 57; refine (quotes_each.turns s.size hs (mkq s) g3 _ v1 w2 _ HB4 B3 G_g3.out K_g3.out.size R4.out).mono ?_; rintro e w5 ⟨rfl, hrow5, HB5⟩; have B25 := B_g2.below HB5.out; have HB := HB2.step HB5.out; have R5 := Aside0.mk hrow5; clear hrow5)
    | ((with_reducible refine gate_ (Op.store 34 (.tmp 2) (.tmp 7)) rfl ?_); refine ev_store HB B25 GE_g2 rfl 34 _ _ rfl rfl rfl (by kernel_rfl) rfl (by simp [Value.oneCell']; exact V1.out) ?_; intro w6 B6 HB6 K6))
  refine bodyPost_ret (results_cell_row rfl _ _ g2 34 _ (0, 0) _ rfl B6.out Tryd.underlying34 rfl (by kernel_rfl)) rfl ?_
  exact ⟨v1, rfl, row_mono (row_other R5.out B25 (by decide) K6) (Nat.le_trans HB2.le K_g3.out.size), HB6.out⟩
theorem quotes_Inside.calls (a0 : ByteArray) (r1 : Int) (r2 : List Int) (w : World) (h : quotes_Inside.f a0 = some (r1, r2)) :
    Calls Tryd.prog 19 #[.string a0] w fun e w' => ∃ v1_ : Value, e = .returned (.agg #[.int .i64 r1, v1_]) ∧ Kd.R (Kd.int .u64) 75 w' w.heap.size (fun _ => True) v1_ r2 ∧ Below w.heap.size w w' := by
  unfold quotes_Inside.f at h
  by_cases hs : a0.size ≤ 281474976702464
  case neg => rw [if_neg hs] at h; cases h
  rw [if_pos hs] at h
  simp only [Option.some.injEq, Prod.mk.injEq] at h
  obtain ⟨rfl, rfl⟩ := h
  refine (quotes_Inside.walk a0 w hs).mono ?_
  rintro e w' ⟨v, rfl, hrow, hb⟩
  refine ⟨v, rfl, Kd.R_of_own ?_ (fun _ _ => trivial), hb⟩
  rw [wordsOf_length]
  exact hrow
end


end Go.Proofs.YtgddljealeklkaaDoor.PM
end
-- PMx2
section
namespace Go.Proofs.YtgddljealeklkaaDoor.PM
open Go.RowKit Go.Proofs.YtgddljealeklkaaDoorW.PrintWords Go.Proofs.YtgddljealeklkaaDoorW.PrintLast Go.Proofs.YtgddljealeklkaaDoorW.PrintMore
attribute [local go_sem] max2_int min2_int max_two min_two max_three min_three max_four min_four   -- for this text's walks alone
set_option linter.unusedVariables false
set_option linter.unusedSimpArgs false

section
open Go.Proofs.YtgddljealeklkaaDoorQ Go.Proofs.YtgddljealeklkaaDoorM
set_option maxHeartbeats 2000000 in
set_option maxRecDepth 100000 in
theorem marks_kindOf.tells (x : Nat) (hx : x < 256) (w : World) :
    Calls Tryd.prog 107 #[.int .u8 (x : Int)] w fun e w' => e = .returned (.int .i64 (kindN x)) ∧ Below w.heap.size w w' := by
  have HB := BelowH.refl w
  have H256 := Aside0.mk hx
  clear hx
  go_enter Tryd.func107, Tryd.ntmps107
  go_upto_region 2 with (first
    | ((with_reducible refine gate_dst (N := 3) rfl ?_); refine ev_alloc HB rfl (#[.int .u8 0, .int .i64 0, .int .u8 0, .int .i64 0, .int .u8 0, .int .i64 0, .int .u8 0, .int .i64 0, .int .u8 0, .int .i64 0, .int .u8 0, .int .i64 0, .int .u8 0, .int .i64 0, .int .u8 0, .int .i64 0, .int .u8 0, .int .i64 0, .int .u8 0, .int .i64 0]) 140 ?hr ?_; (case hr => first | (go_simp; done) | (go_simp; rfl)); intro g3 w1 G_g3 GE_g3 B_g3 HBn K_g3; clear HB; have HB := HBn; clear HBn)
    | ((with_reducible refine gate_ (Op.store 140 (.tmp 3) (.tmp 16)) rfl ?_); refine ev_store HB B_g3 GE_g3 rfl 140 _ _ rfl rfl rfl (by kernel_rfl) rfl (by simp [Value.oneCell']) ?_; intro w2 B3 HBn K_w2; clear HB; have HB := HBn; clear HBn))
  go_wp2_with (first
    | ((with_reducible refine gate_dst (N := 17) rfl ?_); refine ev_loadS B3 rfl 140 _ rfl rfl Tryd.underlying140 rfl (by kernel_rfl) ?_))
  clear B3 B_g3 K_w2 K_g3 G_g3 GE_g3
  go_loopw [18] (fun v18 wr => ∃ i : Nat, v18 = .int .i64 (i : Int) ∧ Aside0 (i ≤ 10) ∧ Aside0 (∀ j, j < i → kindsX.getD j 0 ≠ x) ∧ BelowH w wr) (fun v18 _ => 10 - (intOf v18).toNat)
  case atStart => exact ⟨0, rfl, ⟨by decide⟩, ⟨fun j hj => absurd hj (Nat.not_lt_zero j)⟩, HB⟩
  case round =>
    clear HB
    obtain ⟨i, rfl, HI, HJ, HB⟩ := hrel
    have hi := HI.out
    rcases (by omega : i = 0 ∨ i = 1 ∨ i = 2 ∨ i = 3 ∨ i = 4 ∨ i = 5 ∨ i = 6 ∨ i = 7 ∨ i = 8 ∨ i = 9 ∨ i = 10) with rfl | rfl | rfl | rfl | rfl | rfl | rfl | rfl | rfl | rfl | rfl
    · clear hi
      have ix : ∀ w, (Instr.index 140 (.agg #[.int .u8 123, .int .i64 1, .int .u8 125, .int .i64 1, .int .u8 91, .int .i64 1, .int .u8 93, .int .i64 1, .int .u8 58, .int .i64 1, .int .u8 44, .int .i64 1, .int .u8 32, .int .i64 2, .int .u8 9, .int .i64 2, .int .u8 10, .int .i64 2, .int .u8 13, .int .i64 2]) (.int .i64 0)).run Tryd.prog w = .ok (.agg #[.int .u8 123, .int .i64 1]) w := fun _ => by kernel_rfl
      by_cases hx : x = 123
      · have h1 : ((123 : Int) == (x : Int)) = true := by rw [hx]; rfl
        have HX := Aside0.mk hx
        clear hx
        go_wp2_with (first
          | ((with_reducible refine gate_dst (N := 5) rfl ?_); refine ev_alloc HB rfl (#[.int .u8 0, .int .i64 0]) 139 ?hr ?_; (case hr => first | (go_simp; done) | (go_simp; rfl)); intro g5 w3 G_g5 GE_g5 B_g5 HBn K_g5; clear HB; have HB := HBn; clear HBn)
          | ((with_reducible refine gate_ (Op.store 139 (.tmp 5) (.tmp 20)) rfl ?_); refine ev_store HB B_g5 GE_g5 rfl 139 _ _ rfl rfl rfl (by kernel_rfl) rfl (by simp [Value.oneCell']) ?_; intro w4 B5 HBn K_w4; have c50 := B5.cell (i := 0) rfl; have c51 := B5.cell (i := 1) rfl; clear HB; have HB := HBn; clear HBn))
        go_ret
        exact ⟨by rw [HX.out]; rfl, HB.out⟩
      · have h1 : ((123 : Int) == (x : Int)) = false := beq_eq_false_iff_ne.mpr (by omega)
        have HX := Aside0.mk hx
        clear hx
        go_wp2_with (first
          | ((with_reducible refine gate_dst (N := 5) rfl ?_); refine ev_alloc HB rfl (#[.int .u8 0, .int .i64 0]) 139 ?hr ?_; (case hr => first | (go_simp; done) | (go_simp; rfl)); intro g5 w3 G_g5 GE_g5 B_g5 HBn K_g5; clear HB; have HB := HBn; clear HBn)
          | ((with_reducible refine gate_ (Op.store 139 (.tmp 5) (.tmp 20)) rfl ?_); refine ev_store HB B_g5 GE_g5 rfl 139 _ _ rfl rfl rfl (by kernel_rfl) rfl (by simp [Value.oneCell']) ?_; intro w4 B5 HBn K_w4; have c50 := B5.cell (i := 0) rfl; have c51 := B5.cell (i := 1) rfl; clear HB; have HB := HBn; clear HBn))
        go_roundw
        case rel => exact ⟨1, rfl, ⟨by decide⟩, ⟨kinds_next HJ.out (show kindsX.getD 0 0 ≠ x from fun e => HX.out e.symm)⟩, HB⟩
        case measure => decide
    · clear hi
      have ix : ∀ w, (Instr.index 140 (.agg #[.int .u8 123, .int .i64 1, .int .u8 125, .int .i64 1, .int .u8 91, .int .i64 1, .int .u8 93, .int .i64 1, .int .u8 58, .int .i64 1, .int .u8 44, .int .i64 1, .int .u8 32, .int .i64 2, .int .u8 9, .int .i64 2, .int .u8 10, .int .i64 2, .int .u8 13, .int .i64 2]) (.int .i64 1)).run Tryd.prog w = .ok (.agg #[.int .u8 125, .int .i64 1]) w := fun _ => by kernel_rfl
      by_cases hx : x = 125
      · have h1 : ((125 : Int) == (x : Int)) = true := by rw [hx]; rfl
        have HX := Aside0.mk hx
        clear hx
        go_wp2_with (first
          | ((with_reducible refine gate_dst (N := 5) rfl ?_); refine ev_alloc HB rfl (#[.int .u8 0, .int .i64 0]) 139 ?hr ?_; (case hr => first | (go_simp; done) | (go_simp; rfl)); intro g5 w3 G_g5 GE_g5 B_g5 HBn K_g5; clear HB; have HB := HBn; clear HBn)
          | ((with_reducible refine gate_ (Op.store 139 (.tmp 5) (.tmp 20)) rfl ?_); refine ev_store HB B_g5 GE_g5 rfl 139 _ _ rfl rfl rfl (by kernel_rfl) rfl (by simp [Value.oneCell']) ?_; intro w4 B5 HBn K_w4; have c50 := B5.cell (i := 0) rfl; have c51 := B5.cell (i := 1) rfl; clear HB; have HB := HBn; clear HBn))
        go_ret
        exact ⟨by rw [HX.out]; rfl, HB.out⟩
      · have h1 : ((125 : Int) == (x : Int)) = false := beq_eq_false_iff_ne.mpr (by omega)
        have HX := Aside0.mk hx
        clear hx
        go_wp2_with (first
          | ((with_reducible refine gate_dst (N := 5) rfl ?_); refine ev_alloc HB rfl (#[.int .u8 0, .int .i64 0]) 139 ?hr ?_; (case hr => first | (go_simp; done) | (go_simp; rfl)); intro g5 w3 G_g5 GE_g5 B_g5 HBn K_g5; clear HB; have HB := HBn; clear HBn)
          | ((with_reducible refine gate_ (Op.store 139 (.tmp 5) (.tmp 20)) rfl ?_); refine ev_store HB B_g5 GE_g5 rfl 139 _ _ rfl rfl rfl (by kernel_rfl) rfl (by simp [Value.oneCell']) ?_; intro w4 B5 HBn K_w4; have c50 := B5.cell (i := 0) rfl; have c51 := B5.cell (i := 1) rfl; clear HB; have HB := HBn; clear HBn))
        go_roundw
        case rel => exact ⟨2, rfl, ⟨by decide⟩, ⟨kinds_next HJ.out (show kindsX.getD 1 0 ≠ x from fun e => HX.out e.symm)⟩, HB⟩
        case measure => decide
    · clear hi
      have ix : ∀ w, (Instr.index 140 (.agg #[.int .u8 123, .int .i64 1, .int .u8 125, .int .i64 1, .int .u8 91, .int .i64 1, .int .u8 93, .int .i64 1, .int .u8 58, .int .i64 1, .int .u8 44, .int .i64 1, .int .u8 32, .int .i64 2, .int .u8 9, .int .i64 2, .int .u8 10, .int .i64 2, .int .u8 13, .int .i64 2]) (.int .i64 2)).run Tryd.prog w = .ok (.agg #[.int .u8 91, .int .i64 1]) w := fun _ => by kernel_rfl
      by_cases hx : x = 91
      · have h1 : ((91 : Int) == (x : Int)) = true := by rw [hx]; rfl
        have HX := Aside0.mk hx
        clear hx
        go_wp2_with (first
          | ((with_reducible refine gate_dst (N := 5) rfl ?_); refine ev_alloc HB rfl (#[.int .u8 0, .int .i64 0]) 139 ?hr ?_; (case hr => first | (go_simp; done) | (go_simp; rfl)); intro g5 w3 G_g5 GE_g5 B_g5 HBn K_g5; clear HB; have HB := HBn; clear HBn)
          | ((with_reducible refine gate_ (Op.store 139 (.tmp 5) (.tmp 20)) rfl ?_); refine ev_store HB B_g5 GE_g5 rfl 139 _ _ rfl rfl rfl (by kernel_rfl) rfl (by simp [Value.oneCell']) ?_; intro w4 B5 HBn K_w4; have c50 := B5.cell (i := 0) rfl; have c51 := B5.cell (i := 1) rfl; clear HB; have HB := HBn; clear HBn))
        go_ret
        exact ⟨by rw [HX.out]; rfl, HB.out⟩
      · have h1 : ((91 : Int) == (x : Int)) = false := beq_eq_false_iff_ne.mpr (by omega)
        have HX := Aside0.mk hx
        clear hx
        go_wp2_with (first
          | ((with_reducible refine gate_dst (N := 5) rfl ?_); refine ev_alloc HB rfl (#[.int .u8 0, .int .i64 0]) 139 ?hr ?_; (case hr => first | (go_simp; done) | (go_simp; rfl)); intro g5 w3 G_g5 GE_g5 B_g5 HBn K_g5; clear HB; have HB := HBn; clear HBn)
          | ((with_reducible refine gate_ (Op.store 139 (.tmp 5) (.tmp 20)) rfl ?_); refine ev_store HB B_g5 GE_g5 rfl 139 _ _ rfl rfl rfl (by kernel_rfl) rfl (by simp [Value.oneCell']) ?_; intro w4 B5 HBn K_w4; have c50 := B5.cell (i := 0) rfl; have c51 := B5.cell (i := 1) rfl; clear HB; have HB := HBn; clear HBn))
        go_roundw
        case rel => exact ⟨3, rfl, ⟨by decide⟩, ⟨kinds_next HJ.out (show kindsX.getD 2 0 ≠ x from fun e => HX.out e.symm)⟩, HB⟩
        case measure => decide
    · clear hi
      have ix : ∀ w, (Instr.index 140 (.agg #[.int .u8 123, .int .i64 1, .int .u8 125, .int .i64 1, .int .u8 91, .int .i64 1, .int .u8 93, .int .i64 1, .int .u8 58, .int .i64 1, .int .u8 44, .int .i64 1, .int .u8 32, .int .i64 2, .int .u8 9, .int .i64 2, .int .u8 10, .int .i64 2, .int .u8 13, .int .i64 2]) (.int .i64 3)).run Tryd.prog w = .ok (.agg #[.int .u8 93, .int .i64 1]) w := fun _ => by kernel_rfl
      by_cases hx : x = 93
      · have h1 : ((93 : Int) == (x : Int)) = true := by rw [hx]; rfl
        have HX := Aside0.mk hx
        clear hx
        go_wp2_with (first
          | ((with_reducible refine gate_dst (N := 5) rfl ?_); refine ev_alloc HB rfl (#[.int .u8 0, .int .i64 0]) 139 ?hr ?_; (case hr => first | (go_simp; done) | (go_simp; rfl)); intro g5 w3 G_g5 GE_g5 B_g5 HBn K_g5; clear HB; have HB := HBn; clear HBn)
          | ((with_reducible refine gate_ (Op.store 139 (.tmp 5) (.tmp 20)) rfl ?_); refine ev_store HB B_g5 GE_g5 rfl 139 _ _ rfl rfl rfl (by kernel_rfl) rfl (by simp [Value.oneCell']) ?_; intro w4 B5 HBn K_w4; have c50 := B5.cell (i := 0) rfl; have c51 := B5.cell (i := 1) rfl; clear HB; have HB := HBn; clear HBn))
        go_ret
        exact ⟨by rw [HX.out]; rfl, HB.out⟩
      · have h1 : ((93 : Int) == (x : Int)) = false := beq_eq_false_iff_ne.mpr (by omega)
        have HX := Aside0.mk hx
        clear hx
        go_wp2_with (first
          | ((with_reducible refine gate_dst (N := 5) rfl ?_); refine ev_alloc HB rfl (#[.int .u8 0, .int .i64 0]) 139 ?hr ?_; (case hr => first | (go_simp; done) | (go_simp; rfl)); intro g5 w3 G_g5 GE_g5 B_g5 HBn K_g5; clear HB; have HB := HBn; clear HBn)
          | ((with_reducible refine gate_ (Op.store 139 (.tmp 5) (.tmp 20)) rfl ?_); refine ev_store HB B_g5 GE_g5 rfl 139 _ _ rfl rfl rfl (by kernel_rfl) rfl (by simp [Value.oneCell']) ?_; intro w4 B5 HBn K_w4; have c50 := B5.cell (i := 0) rfl; have c51 := B5.cell (i := 1) rfl; clear HB; have HB := HBn; clear HBn))
        go_roundw
        case rel => exact ⟨4, rfl, ⟨by decide⟩, ⟨kinds_next HJ.out (show kindsX.getD 3 0 ≠ x from fun e => HX.out e.symm)⟩, HB⟩
        case measure => decide
    · clear hi
      have ix : ∀ w, (Instr.index 140 (.agg #[.int .u8 123, .int .i64 1, .int .u8 125, .int .i64 1, .int .u8 91, .int .i64 1, .int .u8 93, .int .i64 1, .int .u8 58, .int .i64 1, .int .u8 44, .int .i64 1, .int .u8 32, .int .i64 2, .int .u8 9, .int .i64 2, .int .u8 10, .int .i64 2, .int .u8 13, .int .i64 2]) (.int .i64 4)).run Tryd.prog w = .ok (.agg #[.int .u8 58, .int .i64 1]) w := fun _ => by kernel_rfl
      by_cases hx : x = 58
      · have h1 : ((58 : Int) == (x : Int)) = true := by rw [hx]; rfl
        have HX := Aside0.mk hx
        clear hx
        go_wp2_with (first
          | ((with_reducible refine gate_dst (N := 5) rfl ?_); refine ev_alloc HB rfl (#[.int .u8 0, .int .i64 0]) 139 ?hr ?_; (case hr => first | (go_simp; done) | (go_simp; rfl)); intro g5 w3 G_g5 GE_g5 B_g5 HBn K_g5; clear HB; have HB := HBn; clear HBn)
          | ((with_reducible refine gate_ (Op.store 139 (.tmp 5) (.tmp 20)) rfl ?_); refine ev_store HB B_g5 GE_g5 rfl 139 _ _ rfl rfl rfl (by kernel_rfl) rfl (by simp [Value.oneCell']) ?_; intro w4 B5 HBn K_w4; have c50 := B5.cell (i := 0) rfl; have c51 := B5.cell (i := 1) rfl; clear HB; have HB := HBn; clear HBn))
        go_ret
        exact ⟨by rw [HX.out]; rfl, HB.out⟩
      · have h1 : ((58 : Int) == (x : Int)) = false := beq_eq_false_iff_ne.mpr (by omega)
        have HX := Aside0.mk hx
        clear hx
        go_wp2_with (first
          | ((with_reducible refine gate_dst (N := 5) rfl ?_); refine ev_alloc HB rfl (#[.int .u8 0, .int .i64 0]) 139 ?hr ?_; (case hr => first | (go_simp; done) | (go_simp; rfl)); intro g5 w3 G_g5 GE_g5 B_g5 HBn K_g5; clear HB; have HB := HBn; clear HBn)
          | ((with_reducible refine gate_ (Op.store 139 (.tmp 5) (.tmp 20)) rfl ?_); refine ev_store HB B_g5 GE_g5 rfl 139 _ _ rfl rfl rfl (by kernel_rfl) rfl (by simp [Value.oneCell']) ?_; intro w4 B5 HBn K_w4; have c50 := B5.cell (i := 0) rfl; have c51 := B5.cell (i := 1) rfl; clear HB; have HB := HBn; clear HBn))
        go_roundw
        case rel => exact ⟨5, rfl, ⟨by decide⟩, ⟨kinds_next HJ.out (show kindsX.getD 4 0 ≠ x from fun e => HX.out e.symm)⟩, HB⟩
        case measure => decide
    · clear hi
      have ix : ∀ w, (Instr.index 140 (.agg #[.int .u8 123, .int .i64 1, .int .u8 125, .int .i64 1, .int .u8 91, .int .i64 1, .int .u8 93, .int .i64 1, .int .u8 58, .int .i64 1, .int .u8 44, .int .i64 1, .int .u8 32, .int .i64 2, .int .u8 9, .int .i64 2, .int .u8 10, .int .i64 2, .int .u8 13, .int .i64 2]) (.int .i64 5)).run Tryd.prog w = .ok (.agg #[.int .u8 44, .int .i64 1]) w := fun _ => by kernel_rfl
      by_cases hx : x = 44
      · have h1 : ((44 : Int) == (x : Int)) = true := by rw [hx]; rfl
        have HX := Aside0.mk hx
        clear hx
        go_wp2_with (first
          | ((with_reducible refine gate_dst (N := 5) rfl ?_); refine ev_alloc HB rfl (#[.int .u8 0, .int .i64 0]) 139 ?hr ?_; (case hr => first | (go_simp; done) | (go_simp; rfl)); intro g5 w3 G_g5 GE_g5 B_g5 HBn K_g5; clear HB; have HB := HBn; clear HBn)
          | ((with_reducible refine gate_ (Op.store 139 (.tmp 5) (.tmp 20)) rfl ?_); refine ev_store HB B_g5 GE_g5 rfl 139 _ _ rfl rfl rfl (by kernel_rfl) rfl (by simp [Value.oneCell']) ?_; intro w4 B5 HBn K_w4; have c50 := B5.cell (i := 0) rfl; have c51 := B5.cell (i := 1) rfl; clear HB; have HB := HBn; clear HBn))
        go_ret
        exact ⟨by rw [HX.out]; rfl, HB.out⟩
      · have h1 : ((44 : Int) == (x : Int)) = false := beq_eq_false_iff_ne.mpr (by omega)
        have HX := Aside0.mk hx
        clear hx
        go_wp2_with (first
          | ((with_reducible refine gate_dst (N := 5) rfl ?_); refine ev_alloc HB rfl (#[.int .u8 0, .int .i64 0]) 139 ?hr ?_; (case hr => first | (go_simp; done) | (go_simp; rfl)); intro g5 w3 G_g5 GE_g5 B_g5 HBn K_g5; clear HB; have HB := HBn; clear HBn)
          | ((with_reducible refine gate_ (Op.store 139 (.tmp 5) (.tmp 20)) rfl ?_); refine ev_store HB B_g5 GE_g5 rfl 139 _ _ rfl rfl rfl (by kernel_rfl) rfl (by simp [Value.oneCell']) ?_; intro w4 B5 HBn K_w4; have c50 := B5.cell (i := 0) rfl; have c51 := B5.cell (i := 1) rfl; clear HB; have HB := HBn; clear HBn))
        go_roundw
        case rel => exact ⟨6, rfl, ⟨by decide⟩, ⟨kinds_next HJ.out (show kindsX.getD 5 0 ≠ x from fun e => HX.out e.symm)⟩, HB⟩
        case measure => decide
    · clear hi
      have ix : ∀ w, (Instr.index 140 (.agg #[.int .u8 123, .int .i64 1, .int .u8 125, .int .i64 1, .int .u8 91, .int .i64 1, .int .u8 93, .int .i64 1, .int .u8 58, .int .i64 1, .int .u8 44, .int .i64 1, .int .u8 32, .int .i64 2, .int .u8 9, .int .i64 2, .int .u8 10, .int .i64 2, .int .u8 13, .int .i64 2]) (.int .i64 6)).run Tryd.prog w = .ok (.agg #[.int .u8 32, .int .i64 2]) w := fun _ => by kernel_rfl
      by_cases hx : x = 32
      · have h1 : ((32 : Int) == (x : Int)) = true := by rw [hx]; rfl
        have HX := Aside0.mk hx
        clear hx
        go_wp2_with (first
          | ((with_reducible refine gate_dst (N := 5) rfl ?_); refine ev_alloc HB rfl (#[.int .u8 0, .int .i64 0]) 139 ?hr ?_; (case hr => first | (go_simp; done) | (go_simp; rfl)); intro g5 w3 G_g5 GE_g5 B_g5 HBn K_g5; clear HB; have HB := HBn; clear HBn)
          | ((with_reducible refine gate_ (Op.store 139 (.tmp 5) (.tmp 20)) rfl ?_); refine ev_store HB B_g5 GE_g5 rfl 139 _ _ rfl rfl rfl (by kernel_rfl) rfl (by simp [Value.oneCell']) ?_; intro w4 B5 HBn K_w4; have c50 := B5.cell (i := 0) rfl; have c51 := B5.cell (i := 1) rfl; clear HB; have HB := HBn; clear HBn))
        go_ret
        exact ⟨by rw [HX.out]; rfl, HB.out⟩
      · have h1 : ((32 : Int) == (x : Int)) = false := beq_eq_false_iff_ne.mpr (by omega)
        have HX := Aside0.mk hx
        clear hx
        go_wp2_with (first
          | ((with_reducible refine gate_dst (N := 5) rfl ?_); refine ev_alloc HB rfl (#[.int .u8 0, .int .i64 0]) 139 ?hr ?_; (case hr => first | (go_simp; done) | (go_simp; rfl)); intro g5 w3 G_g5 GE_g5 B_g5 HBn K_g5; clear HB; have HB := HBn; clear HBn)
          | ((with_reducible refine gate_ (Op.store 139 (.tmp 5) (.tmp 20)) rfl ?_); refine ev_store HB B_g5 GE_g5 rfl 139 _ _ rfl rfl rfl (by kernel_rfl) rfl (by simp [Value.oneCell']) ?_; intro w4 B5 HBn K_w4; have c50 := B5.cell (i := 0) rfl; have c51 := B5.cell (i := 1) rfl; clear HB; have HB := HBn; clear HBn))
        go_roundw
        case rel => exact ⟨7, rfl, ⟨by decide⟩, ⟨kinds_next HJ.out (show kindsX.getD 6 0 ≠ x from fun e => HX.out e.symm)⟩, HB⟩
        case measure => decide
    · clear hi
      have ix : ∀ w, (Instr.index 140 (.agg #[.int .u8 123, .int .i64 1, .int .u8 125, .int .i64 1, .int .u8 91, .int .i64 1, .int .u8 93, .int .i64 1, .int .u8 58, .int .i64 1, .int .u8 44, .int .i64 1, .int .u8 32, .int .i64 2, .int .u8 9, .int .i64 2, .int .u8 10, .int .i64 2, .int .u8 13, .int .i64 2]) (.int .i64 7)).run Tryd.prog w = .ok (.agg #[.int .u8 9, .int .i64 2]) w := fun _ => by kernel_rfl
      by_cases hx : x = 9
      · have h1 : ((9 : Int) == (x : Int)) = true := by rw [hx]; rfl
        have HX := Aside0.mk hx
        clear hx
        go_wp2_with (first
          | ((with_reducible refine gate_dst (N := 5) rfl ?_); refine ev_alloc HB rfl (#[.int .u8 0, .int .i64 0]) 139 ?hr ?_; (case hr => first | (go_simp; done) | (go_simp; rfl)); intro g5 w3 G_g5 GE_g5 B_g5 HBn K_g5; clear HB; have HB := HBn; clear HBn)
          | ((with_reducible refine gate_ (Op.store 139 (.tmp 5) (.tmp 20)) rfl ?_); refine ev_store HB B_g5 GE_g5 rfl 139 _ _ rfl rfl rfl (by kernel_rfl) rfl (by simp [Value.oneCell']) ?_; intro w4 B5 HBn K_w4; have c50 := B5.cell (i := 0) rfl; have c51 := B5.cell (i := 1) rfl; clear HB; have HB := HBn; clear HBn))
        go_ret
        exact ⟨by rw [HX.out]; rfl, HB.out⟩
      · have h1 : ((9 : Int) == (x : Int)) = false := beq_eq_false_iff_ne.mpr (by omega)
        have HX := Aside0.mk hx
        clear hx
        go_wp2_with (first
          | ((with_reducible refine gate_dst (N := 5) rfl ?_); refine ev_alloc HB rfl (#[.int .u8 0, .int .i64 0]) 139 ?hr ?_; (case hr => first | (go_simp; done) | (go_simp; rfl)); intro g5 w3 G_g5 GE_g5 B_g5 HBn K_g5; clear HB; have HB := HBn; clear HBn)
          | ((with_reducible refine gate_ (Op.store 139 (.tmp 5) (.tmp 20)) rfl ?_); refine ev_store HB B_g5 GE_g5 rfl 139 _ _ rfl rfl rfl (by kernel_rfl) rfl (by simp [Value.oneCell']) ?_; intro w4 B5 HBn K_w4; have c50 := B5.cell (i := 0) rfl; have c51 := B5.cell (i := 1) rfl; clear HB; have HB := HBn; clear HBn))
        go_roundw
        case rel => exact ⟨8, rfl, ⟨by decide⟩, ⟨kinds_next HJ.out (show kindsX.getD 7 0 ≠ x from fun e => HX.out e.symm)⟩, HB⟩
        case measure => decide
    · clear hi
      have ix : ∀ w, (Instr.index 140 (.agg #[.int .u8 123, .int .i64 1, .int .u8 125, .int .i64 1, .int .u8 91, .int .i64 1, .int .u8 93, .int .i64 1, .int .u8 58, .int .i64 1, .int .u8 44, .int .i64 1, .int .u8 32, .int .i64 2, .int .u8 9, .int .i64 2, .int .u8 10, .int .i64 2, .int .u8 13, .int .i64 2]) (.int .i64 8)).run Tryd.prog w = .ok (.agg #[.int .u8 10, .int .i64 2]) w := fun _ => by kernel_rfl
      by_cases hx : x = 10
      · have h1 : ((10 : Int) == (x : Int)) = true := by rw [hx]; rfl
        have HX := Aside0.mk hx
        clear hx
        go_wp2_with (first
          | ((with_reducible refine gate_dst (N := 5) rfl ?_); refine ev_alloc HB rfl (#[.int .u8 0, .int .i64 0]) 139 ?hr ?_; (case hr => first | (go_simp; done) | (go_simp; rfl)); intro g5 w3 G_g5 GE_g5 B_g5 HBn K_g5; clear HB; have HB := HBn; clear HBn)
          | ((with_reducible refine gate_ (Op.store 139 (.tmp 5) (.tmp 20)) rfl ?_); refine ev_store HB B_g5 GE_g5 rfl 139 _ _ rfl rfl rfl (by kernel_rfl) rfl (by simp [Value.oneCell']) ?_; intro w4 B5 HBn K_w4; have c50 := B5.cell (i := 0) rfl; have c51 := B5.cell (i := 1) rfl; clear HB; have HB := HBn; clear HBn))
        go_ret
        exact ⟨by rw [HX.out]; rfl, HB.out⟩
      · have h1 : ((10 : Int) == (x : Int)) = false := beq_eq_false_iff_ne.mpr (by omega)
        have HX := Aside0.mk hx
        clear hx
        go_wp2_with (first
          | ((with_reducible refine gate_dst (N := 5) rfl ?_); refine ev_alloc HB rfl (#[.int .u8 0, .int .i64 0]) 139 ?hr ?_; (case hr => first | (go_simp; done) | (go_simp; rfl)); intro g5 w3 G_g5 GE_g5 B_g5 HBn K_g5; clear HB; have HB := HBn; clear HBn)
          | ((with_reducible refine gate_ (Op.store 139 (.tmp 5) (.tmp 20)) rfl ?_); refine ev_store HB B_g5 GE_g5 rfl 139 _ _ rfl rfl rfl (by kernel_rfl) rfl (by simp [Value.oneCell']) ?_; intro w4 B5 HBn K_w4; have c50 := B5.cell (i := 0) rfl; have c51 := B5.cell (i := 1) rfl; clear HB; have HB := HBn; clear HBn))
        go_roundw
        case rel => exact ⟨9, rfl, ⟨by decide⟩, ⟨kinds_next HJ.out (show kindsX.getD 8 0 ≠ x from fun e => HX.out e.symm)⟩, HB⟩
        case measure => decide
    · clear hi
      have ix : ∀ w, (Instr.index 140 (.agg #[.int .u8 123, .int .i64 1, .int .u8 125, .int .i64 1, .int .u8 91, .int .i64 1, .int .u8 93, .int .i64 1, .int .u8 58, .int .i64 1, .int .u8 44, .int .i64 1, .int .u8 32, .int .i64 2, .int .u8 9, .int .i64 2, .int .u8 10, .int .i64 2, .int .u8 13, .int .i64 2]) (.int .i64 9)).run Tryd.prog w = .ok (.agg #[.int .u8 13, .int .i64 2]) w := fun _ => by kernel_rfl
      by_cases hx : x = 13
      · have h1 : ((13 : Int) == (x : Int)) = true := by rw [hx]; rfl
        have HX := Aside0.mk hx
        clear hx
        go_wp2_with (first
          | ((with_reducible refine gate_dst (N := 5) rfl ?_); refine ev_alloc HB rfl (#[.int .u8 0, .int .i64 0]) 139 ?hr ?_; (case hr => first | (go_simp; done) | (go_simp; rfl)); intro g5 w3 G_g5 GE_g5 B_g5 HBn K_g5; clear HB; have HB := HBn; clear HBn)
          | ((with_reducible refine gate_ (Op.store 139 (.tmp 5) (.tmp 20)) rfl ?_); refine ev_store HB B_g5 GE_g5 rfl 139 _ _ rfl rfl rfl (by kernel_rfl) rfl (by simp [Value.oneCell']) ?_; intro w4 B5 HBn K_w4; have c50 := B5.cell (i := 0) rfl; have c51 := B5.cell (i := 1) rfl; clear HB; have HB := HBn; clear HBn))
        go_ret
        exact ⟨by rw [HX.out]; rfl, HB.out⟩
      · have h1 : ((13 : Int) == (x : Int)) = false := beq_eq_false_iff_ne.mpr (by omega)
        have HX := Aside0.mk hx
        clear hx
        go_wp2_with (first
          | ((with_reducible refine gate_dst (N := 5) rfl ?_); refine ev_alloc HB rfl (#[.int .u8 0, .int .i64 0]) 139 ?hr ?_; (case hr => first | (go_simp; done) | (go_simp; rfl)); intro g5 w3 G_g5 GE_g5 B_g5 HBn K_g5; clear HB; have HB := HBn; clear HBn)
          | ((with_reducible refine gate_ (Op.store 139 (.tmp 5) (.tmp 20)) rfl ?_); refine ev_store HB B_g5 GE_g5 rfl 139 _ _ rfl rfl rfl (by kernel_rfl) rfl (by simp [Value.oneCell']) ?_; intro w4 B5 HBn K_w4; have c50 := B5.cell (i := 0) rfl; have c51 := B5.cell (i := 1) rfl; clear HB; have HB := HBn; clear HBn))
        go_roundw
        case rel => exact ⟨10, rfl, ⟨by decide⟩, ⟨kinds_next HJ.out (show kindsX.getD 9 0 ≠ x from fun e => HX.out e.symm)⟩, HB⟩
        case measure => decide
    · go_wp2
      go_ret
      exact ⟨by rw [kindN_none HJ.out]; rfl, HB.out⟩
end


open Go.Proofs.YtgddljealeklkaaDoorQ Go.Proofs.YtgddljealeklkaaDoorM in
set_option maxHeartbeats 1000000 in
set_option maxRecDepth 100000 in
theorem block_Join.calls (p q : Nat → Bool) (w : World) :
    Calls Tryd.prog 108 #[.agg (clsA p), .agg (clsA q)] w fun e w' => e = .returned (.agg (clsA (joinC p q))) ∧ Below w.heap.size w w' := by
  have HB := BelowH.refl w
  go_enter Tryd.func108, Tryd.ntmps108
  go_upto_region 1 with (first
    | ((with_reducible refine gate_dst (N := 2) rfl ?_); refine ev_alloc HB rfl (clsA (p)) 111 ?hr ?_; (case hr => first | (go_simp; done) | (go_simp; rfl)); intro g2 w1 G_g2 GE_g2 B_g2 HBn K_g2; clear HB; have HB := HBn; clear HBn)
    | ((with_reducible refine gate_dst (N := 3) rfl ?_); refine ev_alloc HB rfl (clsA (q)) 111 ?hr ?_; (case hr => first | (go_simp; done) | (go_simp; rfl)); intro g3 w2 G_g3 GE_g3 B_g3 HBn K_g3; clear HB; have HB := HBn; clear HBn)
    | ((with_reducible refine gate_dst (N := 4) rfl ?_); refine ev_alloc HB rfl (clsA fun _ => false) 111 ?hr ?_; (case hr => rw [← clsA_zero]; go_simp; rfl); intro g4 w3 G_g4 GE_g4 B_g4 HBn K_g4; clear HB; have HB := HBn; clear HBn))
  have D2 := ((B_g2.below K_g3.out).below K_g4.out)
  have D3 := (B_g3.below K_g4.out)
  have D4 := B_g4
  have N3 := Aside0.mk (show g2 < g3 by have := B_g2.lt; have := G_g3.out; have := B_g3.lt; have := G_g4.out; omega)
  have N4 := Aside0.mk (show g2 < g4 by have := B_g2.lt; have := G_g3.out; have := B_g3.lt; have := G_g4.out; omega)
  rw [mix_zero (joinC p q) p] at D2
  go_wp2
  go_loopw [6] (fun v6 wr => ∃ k : Nat, k ≤ 4 ∧ v6 = .int .i64 k ∧ Blk wr g2 (clsA (mixA (joinC p q) p k)) 111 ∧ Blk wr g3 (clsA q) 111 ∧ Blk wr g4 (clsA fun _ => false) 111 ∧ BelowH w wr) (fun v6 _ => 4 - (intOf v6).toNat)
  case atStart => exact ⟨0, by omega, rfl, D2, D3, D4, HB⟩
  case round =>
    clear D2 D3 D4 B_g2 B_g3 B_g4 HB
    obtain ⟨k, hk, rfl, B2, B3, B4, HB⟩ := hrel
    by_cases hlt : k < 4
    · have h1 : (k : Int) < 4 := by omega
      have KX := Aside0.mk hlt
      have c1 := B2.cell (clsA_get (mixA (joinC p q) p k) hlt)
      rw [mix_at] at c1
      have c2 := B3.cell (clsA_get q hlt)
      clear hlt hk
      go_upto_region 4 with (fail)
      go_still_tail 11, (by kernel_rfl)
      change wpList _ _ _ _ _ wr.drew
      have EB2 := B2.drew
      have EB3 := B3.drew
      have EB4 := B4.drew
      have HE := HB.drew
      clear B2 B3 B4 HB c1 c2
      go_wp2_with (first
        | ((with_reducible refine gate_ (Op.store 75 (.tmp 19) (.tmp 17)) rfl ?_); refine ev_store1 (i := k) HE EB2 GE_g2 rfl 75 _ _ rfl rfl (.int .u64 (bits .or .u64 (iv (clsW p k)) (iv (clsW q k)))) rfl (by rw [clsA_size]; exact KX.out) (by kernel_rfl) rfl ?_; intro w8 B8 HB8 K8))
      rw [mix_step (joinC p q) p KX.out (join_word p q k)] at B8
      go_roundw
      case rel => exact ⟨k + 1, by have := KX.out; omega, by go_num, B8, EB3.other K8 (Nat.ne_of_gt N3.out), EB4.other K8 (Nat.ne_of_gt N4.out), HB8⟩
      case measure =>
        simp [intOf]
        have := KX.out
        omega
    · obtain rfl : k = 4 := by omega
      rw [mix_end] at B2
      go_wp2_with (first
        | ((with_reducible refine gate_dst (N := 21) rfl ?_); (try (refine gate_guard (by rfl) ?_; dsimp only)); refine ev_loadS B2 rfl 111 _ rfl rfl Tryd.underlying111 rfl (sizeC' _) ?_)
        | ((with_reducible refine gate_ (Op.store 111 (.tmp 4) (.tmp 21)) rfl ?_); refine ev_store HB B4 GE_g4 rfl 111 _ _ rfl rfl rfl (sizeC' _) (by rw [clsA_size, clsA_size]) (clsA_one _) ?_; intro w9 B9 HBn K_w9; clear HB; have HB := HBn; clear HBn))
      refine bodyPost_ret (results_cell_row rfl _ _ g4 111 _ (0, 0) _ rfl B9.out Tryd.underlying111 rfl (sizeC' _)) rfl ?_
      exact ⟨rfl, HB.out⟩


open Go.Proofs.YtgddljealeklkaaDoorQ Go.Proofs.YtgddljealeklkaaDoorM in
set_option maxHeartbeats 400000 in
set_option maxRecDepth 100000 in
theorem block_Of.calls (s : ByteArray) (w : World) (hs : s.size ≤ 281474976702464) :
    Calls Tryd.prog 109 #[.string s] w fun e w' => e = .returned (.agg (clsA (inT s s.size))) ∧ Below w.heap.size w w' := by
  have HB := BelowH.refl w
  have HS := Aside0.mk hs
  clear hs
  go_enter Tryd.func109, Tryd.ntmps109
  go_wp2_with (first
    | ((with_reducible refine gate_dst (N := 2) rfl ?_); refine ev_alloc HB rfl (clsA fun _ => false) 111 ?hr ?_; (case hr => rw [← clsA_zero]; go_simp; rfl); intro g0 w1 G_g0 GE_g0 B_g0 HBn K_g0; clear HB; have HB := HBn; clear HBn)
    | ((with_reducible refine gate_dst (N := 3) rfl ?_); refine ev_alloc HB rfl (clsA fun _ => false) 111 ?hr ?_; (case hr => rw [← clsA_zero]; go_simp; rfl); intro g1 w2 G_g1 GE_g1 B_g1 HBn K_g1; clear HB; have HB := HBn; clear HBn))
  have N01 := Aside0.mk (show g0 < g1 by have := B_g0.lt; have := G_g1.out; omega)
  go_loopw [7] (fun v7 wr => ∃ i : Nat, i ≤ s.size ∧ v7 = .int .i64 i ∧ Blk wr g0 (clsA fun _ => false) 111 ∧ Blk wr g1 (clsA (inT s i)) 111 ∧ BelowH w wr) (fun v7 _ => s.size - (intOf v7).toNat)
  case atStart => exact ⟨0, by omega, rfl, B_g0.below K_g1.out, B_g1, HB⟩
  case round =>
    clear B_g0 B_g1 HB
    obtain ⟨i, hi, rfl, B0, B1, HB⟩ := hrel
    by_cases hlt : i < s.size
    · have KI := Aside0.mk hlt
      have hlt' : decide ((i : Int) < (s.size : Int)) = true := decide_eq_true (by omega)
      go_upto_region 5 with (fail)
      obtain ⟨k, hk⟩ : ∃ k : Nat, k = (s[i]'hlt).toNat / 64 := ⟨_, rfl⟩
      obtain ⟨m, hm⟩ : ∃ m : Nat, m = (s[i]'hlt).toNat % 64 := ⟨_, rfl⟩
      have hx : (s[i]'hlt).toNat < 256 := UInt8.toNat_lt _
      have hk1 : (((s[i]'hlt).toNat : Nat) : Int) / 64 = (k : Int) := by omega
      have hk4 : (k : Int) < 4 := by omega
      have hm1 : bits .and .u8 (((s[i]'hlt).toNat : Nat) : Int) 63 = (m : Int) := by rw [bits_and_u8_63 _ hx, hm]
      have hm4 : (m : Int) < 64 := by omega
      have hc := B1.cell (clsA_get _ (show k < 4 by omega))
      have HK := Aside0.mk hk
      have HM := Aside0.mk hm
      clear hk hm hx
      go_still_tail 14, (by kernel_rfl)
      change wpList _ _ _ _ _ wr.drew
      have B1' := B1.drew
      have B0' := B0.drew
      have HB' := HB.drew
      have HV := Aside0.mk (cls_or (p := inT s i) (q := inT s (i + 1)) (k := k) (m := m) (by omega) (inT_step hlt HK.out HM.out))
      clear HB B0 B1 hc hk1 hm1
      go_wp2_with (first
        | ((with_reducible refine gate_ (Op.store 75 (.tmp 24) (.tmp 22)) rfl ?_); refine ev_store1 (i := k) HB' B1' GE_g1 rfl 75 _ _ rfl rfl (.int .u64 (bits .or .u64 (iv (clsW (inT s i) k)) (IntKind.u64.wrap (2 ^ m)))) rfl (by rw [clsA_size]; omega) (by kernel_rfl) rfl ?_; intro w5 B5 HB5 K5))
      go_roundw
      case rel =>
        refine ⟨i + 1, by omega, by rw [w64_up KI.out HS.out], B0'.other K5 (Nat.ne_of_lt N01.out), ?_, HB5⟩
        rw [HV.out, clsA_set (q := inT s (i + 1)) (by omega) rfl (fun x _ hx => (inT_else hlt HK.out hx).symm)] at B5
        exact B5
      case measure =>
        rw [w64_up KI.out HS.out]
        simp [intOf]
        have := KI.out
        omega
    · obtain rfl : i = s.size := by omega
      go_wp2_with (first
        | ((with_reducible refine gate_dst (N := 26) rfl ?_); (try (refine gate_guard (by rfl) ?_; dsimp only)); refine ev_loadS B1 rfl 111 _ rfl rfl Tryd.underlying111 rfl (sizeC' _) ?_)
        | ((with_reducible refine gate_ (Op.store 111 (.tmp 2) (.tmp 26)) rfl ?_); refine ev_store HB B0 GE_g0 rfl 111 _ _ rfl rfl rfl (sizeC' _) (by rw [clsA_size, clsA_size]) (clsA_one _) ?_; intro w6 B6 HBn K_w6; clear HB; have HB := HBn; clear HBn))
      refine bodyPost_ret (results_cell_row rfl _ _ g0 111 _ (0, 0) _ rfl B6.out Tryd.underlying111 rfl (sizeC' _)) rfl ?_
      exact ⟨rfl, HB.out⟩


section
open Go.Proofs.YtgddljealeklkaaDoorQ Go.Proofs.YtgddljealeklkaaDoorM
set_option maxHeartbeats 2000000 in
set_option maxRecDepth 100000 in
theorem marks_classes.tells (w : World) :
    Calls Tryd.prog 84 #[] w fun e w' => e = .returned (.tuple #[.agg (clsA sgx), .agg (clsA blx)]) ∧ Below w.heap.size w w' := by
  have HB := BelowH.refl w
  go_enter Tryd.func84, Tryd.ntmps84
  go_wp2_with (first
    | ((with_reducible refine gate_dst (N := 0) rfl ?_); refine ev_alloc HB rfl (clsA fun _ => false) 111 ?hr ?_; (case hr => rw [← clsA_zero]; go_simp; rfl); intro g0 w1 G_g0 GE_g0 B_g0 HBn K_g0; clear HB; have HB := HBn; clear HBn)
    | ((with_reducible refine gate_dst (N := 1) rfl ?_); refine ev_alloc HB rfl (clsA fun _ => false) 111 ?hr ?_; (case hr => rw [← clsA_zero]; go_simp; rfl); intro g1 w2 G_g1 GE_g1 B_g1 HBn K_g1; clear HB; have HB := HBn; clear HBn))
  have N01 := Aside0.mk (show g0 < g1 by have := B_g0.lt; have := G_g1.out; omega)
  have B0 := (B_g0.below K_g1.out).eqA (low_zero sgx)
  have B1 := B_g1.eqA (low_zero blx)
  clear B_g0 B_g1 K_g0 K_g1 G_g0 G_g1
  go_loopw [3] (fun v3 wr => ∃ x : Nat, v3 = .int .i64 (x : Int) ∧ Aside0 (x ≤ 256) ∧ Blk wr g0 (clsA (lowC sgx x)) 111 ∧ Blk wr g1 (clsA (lowC blx x)) 111 ∧ BelowH w wr) (fun v3 _ => 256 - (intOf v3).toNat)
  case atStart => exact ⟨0, rfl, ⟨Nat.zero_le _⟩, B0, B1, HB⟩
  case round =>
    clear B0 B1 HB
    obtain ⟨x, rfl, HX, B0, B1, HB⟩ := hrel
    by_cases hlt : x < 256
    · have HLT := Aside0.mk hlt
      have h1 : (x : Int) < 256 := by omega
      have h2 : (0 : Int) ≤ (x : Int) := by omega
      have h3 : IntKind.u8.wrap (x : Int) = (x : Int) := u8_wrap hlt
      have hb8 := u8_of hlt
      have KN : Aside0 (∀ w, Calls Tryd.prog 107 #[.int .u8 (x : Int)] w fun e w' => e = .returned (.int .i64 (kindN x)) ∧ Below w.heap.size w w') := ⟨fun w => marks_kindOf.tells x HLT.out w⟩
      obtain ⟨str, hstr⟩ : ∃ str : ByteArray, str = ⟨#[UInt8.ofNat x]⟩ := ⟨_, rfl⟩
      obtain ⟨tx, htx⟩ : ∃ tx : Nat → Bool, tx = fun y => decide (y = x) := ⟨_, rfl⟩
      have OF : Aside0 (∀ w, Calls Tryd.prog 109 #[.string str] w fun e w' => e = .returned (.agg (clsA tx)) ∧ Below w.heap.size w w') := ⟨fun w => by
        rw [hstr, htx]
        have h := block_Of.calls (⟨#[UInt8.ofNat x]⟩ : ByteArray) w (show 1 ≤ 281474976702464 by decide)
        rw [show clsA (inT (⟨#[UInt8.ofNat x]⟩ : ByteArray) (⟨#[UInt8.ofNat x]⟩ : ByteArray).size) = clsA (fun y => decide (y = x)) from clsA_congr fun y _ => one_byte x HLT.out y] at h
        exact h⟩
      have HT := Aside0.mk htx
      have HSTR := Aside0.mk hstr
      have HB8 := Aside0.mk hb8
      clear hlt htx hstr hb8
      obtain ⟨kn, hkn⟩ : ∃ kn, kn = kindN x := ⟨_, rfl⟩
      rw [← hkn] at KN
      have HKN := Aside0.mk hkn
      clear hkn
      by_cases hs : sgx x = true
      · have hk1 : (kn == 1) = true := by rw [HKN.out, kindN_sign hs]; rfl
        have RX := Aside0.mk hs
        have OX := Aside0.mk (blx_of_sgx hs)
        clear hs
        go_upto_region 6 with (first
          | (go_at_call 107; (with_reducible refine (KN.out _).mono ?_); rintro e w4 ⟨rfl, hb4⟩; have B04 := B0.below hb4; have B14 := B1.below hb4; have HB4 := HB.step hb4; clear hb4 B0 B1 HB))
        clear hk1
        have hbd : Aside0 (Below w4.heap.size w4 w4.drew) := ⟨below_drew (Below.refl _ _)⟩
        have B05 := B04.below hbd.out
        have B15 := B14.below hbd.out
        have HB5 := HB4.step hbd.out
        clear B04 B14 HB4 hbd
        refine wp_region_noPanic ?_
        refine wp_region_last_drew (S := fun W' => Blk W' g0 (clsA (lowC sgx x)) 111) (ds := [7]) (by kernel_rfl) B05 (fun hS => ?_)
        refine wpAnyLast_take (i := 0) (oi := Oper.mk _ _ _ _ _ _) rfl (by kernel_rfl) (by kernel_rfl) (by kernel_rfl) (by kernel_rfl) (by kernel_rfl) (fun _ _ _ h => h) (rg_load (by rfl) (fun _ hS => hS) 111 _ rfl rfl Tryd.underlying111 rfl (sizeC' _)) hS ?_
        try simp only [Act.put, List.setIfInBounds_toArray, List.set_cons_zero, List.set_cons_succ]
        refine' wpAnyLast_take (i := 1) (oi := Oper.mk _ _ _ _ _ _) rfl (by kernel_rfl) (by kernel_rfl) (by kernel_rfl) (by kernel_rfl) (by kernel_rfl) (fun _ _ _ h => h) (Or.inl ⟨by rfl, ?hy1⟩) hS ?rest1
        case hy1 => (intro w hSw; (try dsimp only at hSw); first | (go_simp; done) | (go_simp; with_reducible rfl))
        try simp only [Act.put, List.setIfInBounds_toArray, List.set_cons_zero, List.set_cons_succ]
        refine' wpAnyLast_take (i := 2) (oi := Oper.mk _ _ _ _ _ _) rfl (by kernel_rfl) (by kernel_rfl) (by kernel_rfl) (by kernel_rfl) (by kernel_rfl) (fun _ _ _ h => h) (Or.inl ⟨by rfl, ?hy2⟩) hS ?rest2
        case hy2 => (intro w hSw; (try dsimp only at hSw); first | (go_simp; done) | (go_simp; with_reducible rfl))
        try simp only [Act.put, List.setIfInBounds_toArray, List.set_cons_zero, List.set_cons_succ]
        refine wpAnyLast_ready (rs := [3]) (by kernel_rfl) (by simp) ?_
        refine AllReadyL.cons (o := Oper.mk _ _ _ _ _ _) rfl (by decide) (fun K hK => ?_) ?_
        · refine rg_lit HB5 (by rfl) (.int .u8 (x : Int)) 5 (by first | (go_simp; done) | (go_simp; rfl)) ?_
          intro gN w6 sN HB6 hb
          have B06 := B05.below hb.out
          have B16 := B15.below hb.out
          have sN6 := sN.eqA (show (#[Value.int .u8 (x : Int)] : Array Value) = #[.int .u8 (((UInt8.ofNat x).toNat : Nat) : Int)] by rw [HB8.out])
          refine hK.out _ _ B06 (fun hS => ?_)
          clear hK K sN hb B05 B15 HB5
          try simp only [Act.put, List.setIfInBounds_toArray, List.set_cons_zero, List.set_cons_succ]
          refine wpAnyLast_ready (rs := [4]) (by kernel_rfl) (by simp) ?_
          refine AllReadyL.cons (o := Oper.mk _ _ _ _ _ _) rfl (by decide) (fun K hK => ?_) ?_
          · refine rg_str1 (by rfl) sN6 37 9 5 _ rfl rfl Tryd.underlying37 Tryd.underlying5 Tryd.underlying9 ?_
            rw [← HSTR.out]
            refine hK.out _ _ hS (fun hS => ?_)
            clear hK K sN6
            try simp only [Act.put, List.setIfInBounds_toArray, List.set_cons_zero, List.set_cons_succ]
            refine wpAnyLast_ready (rs := [5]) (by kernel_rfl) (by simp) ?_
            refine AllReadyL.cons (o := Oper.mk _ _ _ _ _ _) rfl (by decide) (fun K hK => ?_) ?_
            · refine rg_call (by rfl) _ _ (.agg (clsA tx)) (by first | (go_simp; done) | (go_simp; rfl)) (OF.out _) ?_
              intro W' hb
              have B07 := B06.below hb.out
              have B17 := B16.below hb.out
              have HB7 := HB6.step hb.out
              clear B06 B16 HB6
              refine hK.out _ _ B07 (fun hS => ?_)
              clear hK K
              try simp only [Act.put, List.setIfInBounds_toArray, List.set_cons_zero, List.set_cons_succ]
              refine wpAnyLast_ready (rs := [6]) (by kernel_rfl) (by simp) ?_
              refine AllReadyL.cons (o := Oper.mk _ _ _ _ _ _) rfl (by decide) (fun K hK => ?_) ?_
              · refine rg_call (by rfl) _ _ (.agg (clsA (joinC (lowC sgx x) tx))) (by first | (go_simp; done) | (go_simp; rfl)) (block_Join.calls (lowC sgx x) tx _) ?_
                intro W' hb
                have B08 := B07.below hb.out
                have B18 := B17.below hb.out
                have HB8' := HB7.step hb.out
                clear B07 B17 HB7
                refine hK.out _ _ B08 (fun hS => ?_)
                clear hK K
                try simp only [Act.put, List.setIfInBounds_toArray, List.set_cons_zero, List.set_cons_succ]
                refine wpAnyLast_ready (rs := [7]) (by kernel_rfl) (by simp) ?_
                refine AllReadyL.cons_last (o := Oper.mk _ _ _ _ _ _) rfl (by decide) (fun K hK => ?_) ?_
                · refine rg_store HB8' (by rfl) B08 GE_g0 111 _ _ rfl rfl rfl (sizeC' _) (by rw [clsA_size, clsA_size]) (clsA_one _) ?_
                  intro w9 B9 HB9 K9
                  have BO := B18.other K9 (Nat.ne_of_gt N01.out)
                  refine hK.out _ _ ?_
                  clear hK K
                  try simp only [Act.put, List.setIfInBounds_toArray, List.set_cons_zero, List.set_cons_succ]
                  refine wpAnyLast_done (by kernel_rfl) ?_ _
                  refine NoPanic.normal ?_
                  go_wp2
                  go_roundw
                  case rel => exact ⟨x + 1, by go_num, ⟨by have := HLT.out; omega⟩, B9.eqA (by rw [HT.out]; exact low_put sgx RX.out), BO.eqA (low_skip blx OX.out), HB9⟩
                  case measure => (simp [intOf]; have := HLT.out; omega)
                exact AllReadyL.nil
              exact AllReadyL.nil
            exact AllReadyL.nil
          exact AllReadyL.nil
        exact AllReadyL.nil
      · have hs0 : sgx x = false := by simpa using hs
        have hk1 : (kn == 1) = false := by rw [HKN.out]; exact kindN_not_sign hs0
        have OX := Aside0.mk hs0
        clear hs hs0
        by_cases hb : blx x = true
        · have hk2 : (kn == 2) = true := by rw [HKN.out, kindN_blank OX.out hb]; rfl
          have RX := Aside0.mk hb
          clear hb
          go_upto_region 8 with (first
          | (go_at_call 107; (with_reducible refine (KN.out _).mono ?_); rintro e w4 ⟨rfl, hb4⟩; have B04 := B0.below hb4; have B14 := B1.below hb4; have HB4 := HB.step hb4; clear hb4 B0 B1 HB))
          clear hk1 hk2
          have hbd : Aside0 (Below w4.heap.size w4 w4.drew) := ⟨below_drew (Below.refl _ _)⟩
          have B05 := B04.below hbd.out
          have B15 := B14.below hbd.out
          have HB5 := HB4.step hbd.out
          clear B04 B14 HB4 hbd
          refine wp_region_noPanic ?_
          refine wp_region_last_drew (S := fun W' => Blk W' g1 (clsA (lowC blx x)) 111) (ds := [7]) (by kernel_rfl) B15 (fun hS => ?_)
          refine wpAnyLast_take (i := 0) (oi := Oper.mk _ _ _ _ _ _) rfl (by kernel_rfl) (by kernel_rfl) (by kernel_rfl) (by kernel_rfl) (by kernel_rfl) (fun _ _ _ h => h) (rg_load (by rfl) (fun _ hS => hS) 111 _ rfl rfl Tryd.underlying111 rfl (sizeC' _)) hS ?_
          try simp only [Act.put, List.setIfInBounds_toArray, List.set_cons_zero, List.set_cons_succ]
          refine' wpAnyLast_take (i := 1) (oi := Oper.mk _ _ _ _ _ _) rfl (by kernel_rfl) (by kernel_rfl) (by kernel_rfl) (by kernel_rfl) (by kernel_rfl) (fun _ _ _ h => h) (Or.inl ⟨by rfl, ?hy3⟩) hS ?rest3
          case hy3 => (intro w hSw; (try dsimp only at hSw); first | (go_simp; done) | (go_simp; with_reducible rfl))
          try simp only [Act.put, List.setIfInBounds_toArray, List.set_cons_zero, List.set_cons_succ]
          refine' wpAnyLast_take (i := 2) (oi := Oper.mk _ _ _ _ _ _) rfl (by kernel_rfl) (by kernel_rfl) (by kernel_rfl) (by kernel_rfl) (by kernel_rfl) (fun _ _ _ h => h) (Or.inl ⟨by rfl, ?hy4⟩) hS ?rest4
          case hy4 => (intro w hSw; (try dsimp only at hSw); first | (go_simp; done) | (go_simp; with_reducible rfl))
          try simp only [Act.put, List.setIfInBounds_toArray, List.set_cons_zero, List.set_cons_succ]
          refine wpAnyLast_ready (rs := [3]) (by kernel_rfl) (by simp) ?_
          refine AllReadyL.cons (o := Oper.mk _ _ _ _ _ _) rfl (by decide) (fun K hK => ?_) ?_
          · refine rg_lit HB5 (by rfl) (.int .u8 (x : Int)) 5 (by first | (go_simp; done) | (go_simp; rfl)) ?_
            intro gN w6 sN HB6 hb
            have B06 := B05.below hb.out
            have B16 := B15.below hb.out
            have sN6 := sN.eqA (show (#[Value.int .u8 (x : Int)] : Array Value) = #[.int .u8 (((UInt8.ofNat x).toNat : Nat) : Int)] by rw [HB8.out])
            refine hK.out _ _ B16 (fun hS => ?_)
            clear hK K sN hb B05 B15 HB5
            try simp only [Act.put, List.setIfInBounds_toArray, List.set_cons_zero, List.set_cons_succ]
            refine wpAnyLast_ready (rs := [4]) (by kernel_rfl) (by simp) ?_
            refine AllReadyL.cons (o := Oper.mk _ _ _ _ _ _) rfl (by decide) (fun K hK => ?_) ?_
            · refine rg_str1 (by rfl) sN6 37 9 5 _ rfl rfl Tryd.underlying37 Tryd.underlying5 Tryd.underlying9 ?_
              rw [← HSTR.out]
              refine hK.out _ _ hS (fun hS => ?_)
              clear hK K sN6
              try simp only [Act.put, List.setIfInBounds_toArray, List.set_cons_zero, List.set_cons_succ]
              refine wpAnyLast_ready (rs := [5]) (by kernel_rfl) (by simp) ?_
              refine AllReadyL.cons (o := Oper.mk _ _ _ _ _ _) rfl (by decide) (fun K hK => ?_) ?_
              · refine rg_call (by rfl) _ _ (.agg (clsA tx)) (by first | (go_simp; done) | (go_simp; rfl)) (OF.out _) ?_
                intro W' hb
                have B07 := B06.below hb.out
                have B17 := B16.below hb.out
                have HB7 := HB6.step hb.out
                clear B06 B16 HB6
                refine hK.out _ _ B17 (fun hS => ?_)
                clear hK K
                try simp only [Act.put, List.setIfInBounds_toArray, List.set_cons_zero, List.set_cons_succ]
                refine wpAnyLast_ready (rs := [6]) (by kernel_rfl) (by simp) ?_
                refine AllReadyL.cons (o := Oper.mk _ _ _ _ _ _) rfl (by decide) (fun K hK => ?_) ?_
                · refine rg_call (by rfl) _ _ (.agg (clsA (joinC (lowC blx x) tx))) (by first | (go_simp; done) | (go_simp; rfl)) (block_Join.calls (lowC blx x) tx _) ?_
                  intro W' hb
                  have B08 := B07.below hb.out
                  have B18 := B17.below hb.out
                  have HB8' := HB7.step hb.out
                  clear B07 B17 HB7
                  refine hK.out _ _ B18 (fun hS => ?_)
                  clear hK K
                  try simp only [Act.put, List.setIfInBounds_toArray, List.set_cons_zero, List.set_cons_succ]
                  refine wpAnyLast_ready (rs := [7]) (by kernel_rfl) (by simp) ?_
                  refine AllReadyL.cons_last (o := Oper.mk _ _ _ _ _ _) rfl (by decide) (fun K hK => ?_) ?_
                  · refine rg_store HB8' (by rfl) B18 GE_g1 111 _ _ rfl rfl rfl (sizeC' _) (by rw [clsA_size, clsA_size]) (clsA_one _) ?_
                    intro w9 B9 HB9 K9
                    have BO := B08.other K9 (Nat.ne_of_lt N01.out)
                    refine hK.out _ _ ?_
                    clear hK K
                    try simp only [Act.put, List.setIfInBounds_toArray, List.set_cons_zero, List.set_cons_succ]
                    refine wpAnyLast_done (by kernel_rfl) ?_ _
                    refine NoPanic.normal ?_
                    go_wp2
                    go_roundw
                    case rel => exact ⟨x + 1, by go_num, ⟨by have := HLT.out; omega⟩, BO.eqA (low_skip sgx OX.out), B9.eqA (by rw [HT.out]; exact low_put blx RX.out), HB9⟩
                    case measure => (simp [intOf]; have := HLT.out; omega)
                  exact AllReadyL.nil
                exact AllReadyL.nil
              exact AllReadyL.nil
            exact AllReadyL.nil
          exact AllReadyL.nil
        · have hb0 : blx x = false := by simpa using hb
          have hk2 : (kn == 2) = false := by rw [HKN.out]; exact kindN_not_blank OX.out hb0
          have PX := Aside0.mk hb0
          clear hb hb0
          go_wp2_with (first
          | (go_at_call 107; (with_reducible refine (KN.out _).mono ?_); rintro e w4 ⟨rfl, hb4⟩; have B04 := B0.below hb4; have B14 := B1.below hb4; have HB4 := HB.step hb4; clear hb4 B0 B1 HB))
          go_roundw
          case rel => exact ⟨x + 1, by go_num, ⟨by have := HLT.out; omega⟩, B04.eqA (low_skip sgx OX.out), B14.eqA (low_skip blx PX.out), HB4⟩
          case measure => (simp [intOf]; have := HLT.out; omega)
    · obtain rfl : x = 256 := by have := HX.out; omega
      clear hlt
      have C0 := B0.eqA (low_end sgx)
      have C1 := B1.eqA (low_end blx)
      have hbd : Aside0 (Below wr.heap.size wr wr.drew) := ⟨below_drew (Below.refl _ _)⟩
      have D0 := C0.below hbd.out
      have D1 := C1.below hbd.out
      have HB5 := HB.step hbd.out
      clear B0 B1 HB hbd
      go_upto_region 10 with (fail)
      refine wp_region_noPanic ?_
      refine wp_region_last_drew (S := fun W' => Blk W' g0 (clsA sgx) 111 ∧ Blk W' g1 (clsA blx) 111) (ds := []) (by kernel_rfl) ⟨D0, D1⟩ (fun hS => ?_)
      refine wpAnyLast_take (i := 0) (oi := Oper.mk _ _ _ _ _ _) rfl (by kernel_rfl) (by kernel_rfl) (by kernel_rfl) (by kernel_rfl) (by kernel_rfl) (fun _ _ _ h => h) (rg_load (by rfl) (fun _ hS => hS.1) 111 _ rfl rfl Tryd.underlying111 rfl (sizeC' _)) hS ?_
      try simp only [Act.put, List.setIfInBounds_toArray, List.set_cons_zero, List.set_cons_succ]
      refine wpAnyLast_take (i := 1) (oi := Oper.mk _ _ _ _ _ _) rfl (by kernel_rfl) (by kernel_rfl) (by kernel_rfl) (by kernel_rfl) (by kernel_rfl) (fun _ _ _ h => h) (rg_load (by rfl) (fun _ hS => hS.2) 111 _ rfl rfl Tryd.underlying111 rfl (sizeC' _)) hS ?_
      try simp only [Act.put, List.setIfInBounds_toArray, List.set_cons_zero, List.set_cons_succ]
      refine wpAnyLast_ready (rs := [2]) (by kernel_rfl) (by simp) ?_
      refine AllReadyL.cons (o := Oper.mk _ _ _ _ _ _) rfl (by decide) (fun K hK => ?_) ?_
      · refine rg_store HB5 (by rfl) D0 GE_g0 111 _ _ rfl rfl rfl (sizeC' _) (by simp only [clsA_size]) (clsA_one _) ?_
        intro w6 E0 HB6 K2
        have E1 := D1.other K2 (Nat.ne_of_gt N01.out)
        refine hK.out _ _ ⟨E0, E1⟩ (fun hS => ?_)
        clear hK K
        try simp only [Act.put, List.setIfInBounds_toArray, List.set_cons_zero, List.set_cons_succ]
        refine wpAnyLast_ready (rs := [3]) (by kernel_rfl) (by simp) ?_
        refine AllReadyL.cons (o := Oper.mk _ _ _ _ _ _) rfl (by decide) (fun K hK => ?_) ?_
        · refine rg_store HB6 (by rfl) E1 GE_g1 111 _ _ rfl rfl rfl (sizeC' _) (by simp only [clsA_size]) (clsA_one _) ?_
          intro w7 F1 HB7 K3
          have F0 := E0.other K3 (Nat.ne_of_lt N01.out)
          refine hK.out _ _ ⟨F0, F1⟩ (fun hS => ?_)
          clear hK K
          try simp only [Act.put, List.setIfInBounds_toArray, List.set_cons_zero, List.set_cons_succ]
          refine wpAnyLast_done (by kernel_rfl) ?_ _
          refine NoPanic.normal ?_
          go_wp2
          exact bodyPost_ret (results_cells2 rfl _ _ g0 g1 111 _ _ _ rfl rfl F0 F1 Tryd.underlying111 rfl (sizeC' _) (sizeC' _)) rfl ⟨rfl, HB7.out⟩
        exact AllReadyL.nil
      exact AllReadyL.nil
end


open Go.Proofs.YtgddljealeklkaaDoorQ Go.Proofs.YtgddljealeklkaaDoorM in
set_option maxHeartbeats 400000 in
set_option maxRecDepth 100000 in
theorem block_Mask.calls (f : Nat → Int) (hf : ∀ i, 0 ≤ f i ∧ f i < 256) (p : Nat → Bool) (w : World) :
    Calls Tryd.prog 85 #[.agg (blkA f), .agg (clsA p)] w fun e w' => e = .returned (.int .u64 (iv (word fun j => p (f j).toNat))) ∧ Below w.heap.size w w' := by
  have HB := BelowH.refl w
  have HF := Aside0.mk fun i => hf i
  clear hf
  go_enter Tryd.func85, Tryd.ntmps85
  go_upto_region 1 with (first
    | ((with_reducible refine gate_dst (N := 2) rfl ?_); refine ev_alloc HB rfl (blkA f) 85 ?hr ?_; (case hr => first | (go_simp; done) | (go_simp; rfl)); intro g0 w1 G_g0 GE_g0 B_g0 HBn K_g0; clear HB; have HB := HBn; clear HBn)
    | ((with_reducible refine gate_dst (N := 3) rfl ?_); refine ev_alloc HB rfl (clsA (p)) 111 ?hr ?_; (case hr => first | (go_simp; done) | (go_simp; rfl)); intro g1 w2 G_g1 GE_g1 B_g1 HBn K_g1; clear HB; have HB := HBn; clear HBn))
  obtain ⟨bz, hbz⟩ : ∃ bz, bz = ((List.range 4).all fun j => iv (clsW p j) == 0) := ⟨_, rfl⟩
  have EQ : ∀ (W : World), (Op.equalIn 10000 109 (.agg (clsA p)) (.agg #[.int .u64 0, .int .u64 0, .int .u64 0, .int .u64 0])).run Tryd.prog W = .ok bz W := by
    intro W
    rw [hbz]
    exact run_eqArr (P := Tryd.prog) Tryd.underlying109 (by kernel_rfl) (by kernel_rfl) Tryd.underlying75 (fun j => iv (clsW p j)) (fun _ => 0) (fun j hj => clsA_get _ hj) (fun j hj => by
      have : ∀ j : Fin 4, (#[.int .u64 0, .int .u64 0, .int .u64 0, .int .u64 0] : Array Value)[j.val]? = some (.int .u64 0) := by
        intro j
        match j with
        | 0 => rfl
        | 1 => rfl
        | 2 => rfl
        | 3 => rfl
      exact this ⟨j, hj⟩) 9998 W
  cases bz with
  | true =>
    have HN := Aside0.mk (cls_none hbz.symm)
    clear hbz
    go_wp2_with (first
      | ((with_reducible refine gate_dst (N := 9) rfl ?_); refine ev_loadS B_g1 rfl 109 _ rfl rfl Tryd.underlying109 rfl (size4' _) ?_))
    go_ret
    exact ⟨by rw [word_none fun i _ => HN.out _ (by have := HF.out i; omega)]; rfl, HB.out⟩
  | false =>
    clear hbz
    go_upto_region 3 with (first
      | ((with_reducible refine gate_dst (N := 9) rfl ?_); refine ev_loadS B_g1 rfl 109 _ rfl rfl Tryd.underlying109 rfl (size4' _) ?_))
    clear EQ
    go_wp2_with (first
      | ((with_reducible refine gate_dst (N := 12) rfl ?_); refine ev_loadS (B_g0.below K_g1.out) rfl 85 _ rfl rfl Tryd.underlying85 rfl (size64' _) ?_))
    go_loopw [5, 13] (fun v5 v13 wr => ∃ i : Nat, i ≤ 64 ∧ v13 = .int .i64 i ∧ v5 = .int .u64 (iv (word fun j => decide (j < i) && p (f j).toNat)) ∧ Blk wr g1 (clsA p) 111 ∧ BelowH w wr) (fun _ v13 _ => 64 - (intOf v13).toNat)
    case atStart => exact ⟨0, by omega, rfl, by rw [word_none]; simp, B_g1, HB⟩
    case round =>
      clear B_g0 B_g1 HB
      obtain ⟨i, hi, rfl, rfl, B1, HB⟩ := hrel
      by_cases hlt : i < 64
      · obtain ⟨x, hx⟩ : ∃ x : Nat, f i = (x : Int) := ⟨(f i).toNat, by have := HF.out i; omega⟩
        have hx6 : x < 256 := by have := HF.out i; omega
        obtain ⟨k, hk⟩ : ∃ k : Nat, k = x / 64 := ⟨_, rfl⟩
        obtain ⟨m, hm⟩ : ∃ m : Nat, m = x % 64 := ⟨_, rfl⟩
        have hk1 : (x : Int) / 64 = (k : Int) := by omega
        have hk4 : (k : Int) < 4 := by omega
        have hm1 : bits .and .u8 (x : Int) 63 = (m : Int) := by rw [bits_and_u8_63 _ hx6, hm]
        have hm4 : (m : Int) < 64 := by omega
        have hc := B1.cell (clsA_get p (show k < 4 by omega))
        have hfi := blkA_get f hlt
        rw [hx] at hfi
        have IX : ∀ W : World, (Instr.index 85 (.agg (blkA f)) (.int .i64 (i : Int))).run Tryd.prog W = .ok (.int .u8 (x : Int)) W := fun W => run_index_arr (P := Tryd.prog) Tryd.underlying85 (by kernel_rfl) (by kernel_rfl) (by kernel_rfl) hlt hfi .i64 W
        have ST := Aside0.mk (mask_step_at p f hx hk hm hlt)
        have KI := Aside0.mk hlt
        have h1 : (i : Int) < 64 := by omega
        clear hx hx6 hk hm hlt hfi hi
        go_wp2
        go_roundw
        case rel => exact ⟨i + 1, by have := KI.out; omega, by go_num, by rw [ST.out], B1, HB⟩
        case measure =>
          simp [intOf]
          have := KI.out
          omega
      · obtain rfl : i = 64 := by omega
        go_wp2
        go_ret
        exact ⟨by rw [word_done]; rfl, HB.out⟩


end Go.Proofs.YtgddljealeklkaaDoor.PM
end
