-- Written by a program (myprint.py, over the kit's print) for this claim. Not trusted: Lean checks it.
import Derived.Test.YtoimelcdhkmceaaPMx0
namespace Go.Proofs.Ytoimelcdhkmceaa.PM
open Go.RowKit Go.Proofs.YtoimelcdhkmceaaW.PrintWords Go.Proofs.YtoimelcdhkmceaaW.PrintLast Go.Proofs.YtoimelcdhkmceaaW.PrintMore
attribute [local go_sem] max2_int min2_int max_two min_two max_three min_three max_four min_four   -- for this text's walks alone
set_option linter.unusedVariables false
set_option linter.unusedSimpArgs false

/-! ### quarryref02_with: function 46 -/
open Go.Proofs.YtoimelcdhkmceaaQ Go.Proofs.YtoimelcdhkmceaaM in
set_option maxHeartbeats 400000 in
set_option maxRecDepth 100000 in
theorem quarryref02_with.calls (p : Nat → Bool) (x : Nat) (hx : x < 256) (w : World) :
    Calls Try.prog 46 #[.agg (clsA p), .int .u8 (x : Int)] w fun e w' => e = .returned (.agg (clsA (clsPut p x))) ∧ Below w.heap.size w w' := by
  have HB := BelowH.refl w
  obtain ⟨k, hk⟩ : ∃ k : Nat, k = x / 64 := ⟨_, rfl⟩
  obtain ⟨m, hm⟩ : ∃ m : Nat, m = x % 64 := ⟨_, rfl⟩
  have h1 : Int.tdiv (x : Int) 64 = (k : Int) := by rw [tdiv64, hk]
  have h2 : Int.tmod (x : Int) 64 = (m : Int) := by rw [tmod64, hm]
  have hk4 : (k : Int) < 4 := by omega
  have hm4 : (m : Int) < 64 := by omega
  have HP := Aside0.mk (put_eq p hk hm)
  have HK := Aside0.mk hk
  have K4 := Aside0.mk (show k < 4 by omega)
  clear hk hm
  go_enter Try.func46, Try.ntmps46
  go_upto_region 2 with (first
    | ((with_reducible refine gate_dst (N := 2) rfl ?_); refine ev_alloc HB rfl (clsA (p)) 33 ?hr ?_; (case hr => first | (go_simp; done) | (go_simp; rfl)); intro g2 w1 G_g2 GE_g2 B_g2 HBn K_g2; clear HB; have HB := HBn; clear HBn)
    | ((with_reducible refine gate_dst (N := 4) rfl ?_); refine ev_alloc HB rfl (clsA fun _ => false) 33 ?hr ?_; (case hr => rw [← clsA_zero]; go_simp; rfl); intro g4 w2 G_g4 GE_g4 B_g4 HBn K_g4; clear HB; have HB := HBn; clear HBn))
  have N24 := Aside0.mk (show g2 < g4 by have := B_g2.lt; have := G_g4.out; omega)
  have B2 := B_g2.below K_g4.out
  clear B_g2 K_g4
  have hc := B2.cell (clsA_get p K4.out)
  go_upto_region 3 with (first
    | ((with_reducible refine gate_ (Op.store 30 (.tmp 23) (.tmp 21)) rfl ?_); refine ev_store1 (i := k) HB B2 GE_g2 rfl 30 _ _ rfl rfl (.int .u64 (bits .or .u64 (iv (clsW p k)) (IntKind.u64.wrap (2 ^ m)))) rfl (by rw [clsA_size]; exact K4.out) (by kernel_rfl) rfl ?_; intro w5 B5 HB5 K5))
  rw [HP.out, clsA_set (q := clsPut p x) K4.out rfl (fun y _ hy => put_else p HK.out hy)] at B5
  have B4 := B_g4.other K5 (Nat.ne_of_gt N24.out)
  clear hc B2 B_g4 HB
  have HB := HB5
  clear HB5
  go_wp2_with (first
    | ((with_reducible refine gate_dst (N := 24) rfl ?_); (try (refine gate_guard (by rfl) ?_; dsimp only)); refine ev_loadS B5 rfl 33 _ rfl rfl Try.underlying33 rfl (sizeC' _) ?_)
    | ((with_reducible refine gate_ (Op.store 33 (.tmp 4) (.tmp 24)) rfl ?_); refine ev_store HB B4 GE_g4 rfl 33 _ _ rfl rfl rfl (sizeC' _) (by rw [clsA_size, clsA_size]) (clsA_one _) ?_; intro w6 B6 HBn K_w6; clear HB; have HB := HBn; clear HBn))
  refine bodyPost_ret (results_cell_row rfl _ _ g4 33 _ (0, 0) _ rfl B6.out Try.underlying33 rfl (sizeC' _)) rfl ?_
  exact ⟨rfl, HB.out⟩


/-! ### quarryref02_Of: function 23 -/
open Go.Proofs.YtoimelcdhkmceaaQ Go.Proofs.YtoimelcdhkmceaaM in
set_option maxHeartbeats 400000 in
set_option maxRecDepth 100000 in
theorem quarryref02_Of.calls (s : ByteArray) (w : World) (hs : s.size ≤ 281474976702464) :
    Calls Try.prog 23 #[.string s] w fun e w' => e = .returned (.agg (clsA (inT s s.size))) ∧ Below w.heap.size w w' := by
  have HB := BelowH.refl w
  have HS := Aside0.mk hs
  clear hs
  go_enter Try.func23, Try.ntmps23
  go_wp2_with (first
    | ((with_reducible refine gate_dst (N := 2) rfl ?_); refine ev_alloc HB rfl (clsA fun _ => false) 33 ?hr ?_; (case hr => rw [← clsA_zero]; go_simp; rfl); intro g0 w1 G_g0 GE_g0 B_g0 HBn K_g0; clear HB; have HB := HBn; clear HBn)
    | ((with_reducible refine gate_dst (N := 3) rfl ?_); refine ev_alloc HB rfl (clsA fun _ => false) 33 ?hr ?_; (case hr => rw [← clsA_zero]; go_simp; rfl); intro g1 w2 G_g1 GE_g1 B_g1 HBn K_g1; clear HB; have HB := HBn; clear HBn))
  have N01 := Aside0.mk (show g0 < g1 by have := B_g0.lt; have := G_g1.out; omega)
  go_loopw [4] (fun v4 wr => ∃ i : Nat, i ≤ s.size ∧ v4 = .int .i64 i ∧ Blk wr g0 (clsA fun _ => false) 33 ∧ Blk wr g1 (clsA (inT s i)) 33 ∧ BelowH w wr) (fun v4 _ => s.size - (intOf v4).toNat)
  case atStart => exact ⟨0, by omega, rfl, B_g0.below K_g1.out, B_g1, HB⟩
  case round =>
    clear B_g0 B_g1 HB
    obtain ⟨i, hi, rfl, B0, B1, HB⟩ := hrel
    by_cases hlt : i < s.size
    · have KI := Aside0.mk hlt
      have hlt' : decide ((i : Int) < (s.size : Int)) = true := decide_eq_true (by omega)
      obtain ⟨x, hx⟩ : ∃ x : Nat, x = (s[i]'hlt).toNat := ⟨_, rfl⟩
      have hx6 : x < 256 := by rw [hx]; exact UInt8.toNat_lt _
      have hb : ∀ h : i < s.size, (((s[i]'h).toNat : Nat) : Int) = (x : Int) := fun h => by rw [hx]
      have IS := Aside0.mk (show clsPut (inT s i) x = inT s (i + 1) from funext fun y => (inT_put hlt hx y).symm)
      have CW := Aside0.mk (fun W => quarryref02_with.calls (inT s i) x hx6 W)
      rw [clsA_lit (inT s i)] at CW
      have c0 := B1.cell (clsA_get (inT s i) (i := 0) (by decide))
      have c1 := B1.cell (clsA_get (inT s i) (i := 1) (by decide))
      have c2 := B1.cell (clsA_get (inT s i) (i := 2) (by decide))
      have c3 := B1.cell (clsA_get (inT s i) (i := 3) (by decide))
      clear hx hx6
      go_upto_region 5 with (fail)
      go_still_tail 4, (by kernel_rfl)
      change wpList _ _ _ _ _ wr.drew
      have E1 := B1.drew
      have E0 := B0.drew
      have HE := HB.drew
      clear B1 B0 HB c0 c1 c2 c3
      go_wp2_with (first
        | (go_at_call 46; (with_reducible refine (CW.out _).mono ?_); rintro e w5 ⟨rfl, hb5⟩; have B1 := E1.below hb5; have B0 := E0.below hb5; have HB := HE.step hb5; clear E1 E0 HE hb5)
        | ((with_reducible refine gate_ (Op.store 33 (.tmp 3) (.tmp 15)) rfl ?_); refine ev_store HB B1 GE_g1 rfl 33 _ _ rfl rfl rfl (sizeC' _) (by rw [clsA_size, clsA_size]) (clsA_one _) ?_; intro w6 B6 HB6 K6))
      rw [IS.out] at B6
      go_roundw
      case rel => exact ⟨i + 1, by have := KI.out; omega, by rw [w64_up KI.out HS.out], B0.other K6 (Nat.ne_of_lt N01.out), B6, HB6⟩
      case measure =>
        rw [w64_up KI.out HS.out]
        simp [intOf]
        have := KI.out
        omega
    · obtain rfl : i = s.size := by omega
      have hlt' : decide ((s.size : Int) < (s.size : Int)) = false := decide_eq_false (by omega)
      go_wp2_with (first
        | ((with_reducible refine gate_dst (N := 16) rfl ?_); (try (refine gate_guard (by rfl) ?_; dsimp only)); refine ev_loadS B1 rfl 33 _ rfl rfl Try.underlying33 rfl (sizeC' _) ?_)
        | ((with_reducible refine gate_ (Op.store 33 (.tmp 2) (.tmp 16)) rfl ?_); refine ev_store HB B0 GE_g0 rfl 33 _ _ rfl rfl rfl (sizeC' _) (by rw [clsA_size, clsA_size]) (clsA_one _) ?_; intro w6 B6 HBn K_w6; clear HB; have HB := HBn; clear HBn))
      refine bodyPost_ret (results_cell_row rfl _ _ g0 33 _ (0, 0) _ rfl B6.out Try.underlying33 rfl (sizeC' _)) rfl ?_
      exact ⟨rfl, HB.out⟩


/-! ### block_Mask: function 33 -/
open Go.Proofs.YtoimelcdhkmceaaQ Go.Proofs.YtoimelcdhkmceaaM in
set_option maxHeartbeats 400000 in
set_option maxRecDepth 100000 in
theorem block_Mask.calls (f : Nat → Int) (hf : ∀ i, 0 ≤ f i ∧ f i < 256) (p : Nat → Bool) (w : World) :
    Calls Try.prog 33 #[.agg (blkA f), .agg (clsA p)] w fun e w' => e = .returned (.int .u64 (iv (word fun j => p (f j).toNat))) ∧ Below w.heap.size w w' := by
  have HB := BelowH.refl w
  have HF := Aside0.mk fun i => hf i
  clear hf
  go_enter Try.func33, Try.ntmps33
  go_upto_region 1 with (first
    | ((with_reducible refine gate_dst (N := 2) rfl ?_); refine ev_alloc HB rfl (blkA f) 26 ?hr ?_; (case hr => first | (go_simp; done) | (go_simp; rfl)); intro g0 w1 G_g0 GE_g0 B_g0 HBn K_g0; clear HB; have HB := HBn; clear HBn)
    | ((with_reducible refine gate_dst (N := 3) rfl ?_); refine ev_alloc HB rfl (clsA (p)) 33 ?hr ?_; (case hr => first | (go_simp; done) | (go_simp; rfl)); intro g1 w2 G_g1 GE_g1 B_g1 HBn K_g1; clear HB; have HB := HBn; clear HBn))
  obtain ⟨bz, hbz⟩ : ∃ bz, bz = ((List.range 4).all fun j => iv (clsW p j) == 0) := ⟨_, rfl⟩
  have EQ : ∀ (W : World), (Op.equalIn 10000 31 (.agg (clsA p)) (.agg #[.int .u64 0, .int .u64 0, .int .u64 0, .int .u64 0])).run Try.prog W = .ok bz W := by
    intro W
    rw [hbz]
    exact run_eqArr (P := Try.prog) Try.underlying31 (by kernel_rfl) (by kernel_rfl) Try.underlying30 (fun j => iv (clsW p j)) (fun _ => 0) (fun j hj => clsA_get _ hj) (fun j hj => by
      have : ∀ j : Fin 4, (#[.int .u64 0, .int .u64 0, .int .u64 0, .int .u64 0] : Array Value)[j.val]? = some (.int .u64 0) := by
        intro j
        match j with
        | 0 => rfl
        | 1 => rfl
        | 2 => rfl
        | 3 => rfl
      exact this ⟨j, hj⟩) 9998 W
  cases bz with
  | true =>
    have HN := Aside0.mk (cls_none hbz.symm)
    clear hbz
    go_wp2_with (first
      | ((with_reducible refine gate_dst (N := 9) rfl ?_); refine ev_loadS B_g1 rfl 31 _ rfl rfl Try.underlying31 rfl (size4' _) ?_))
    go_ret
    exact ⟨by rw [word_none fun i _ => HN.out _ (by have := HF.out i; omega)]; rfl, HB.out⟩
  | false =>
    clear hbz
    go_upto_region 3 with (first
      | ((with_reducible refine gate_dst (N := 9) rfl ?_); refine ev_loadS B_g1 rfl 31 _ rfl rfl Try.underlying31 rfl (size4' _) ?_))
    clear EQ
    go_wp2_with (first
      | ((with_reducible refine gate_dst (N := 12) rfl ?_); refine ev_loadS (B_g0.below K_g1.out) rfl 26 _ rfl rfl Try.underlying26 rfl (size64' _) ?_))
    go_loopw [5, 13] (fun v5 v13 wr => ∃ i : Nat, i ≤ 64 ∧ v13 = .int .i64 i ∧ v5 = .int .u64 (iv (word fun j => decide (j < i) && p (f j).toNat)) ∧ Blk wr g1 (clsA p) 33 ∧ BelowH w wr) (fun _ v13 _ => 64 - (intOf v13).toNat)
    case atStart => exact ⟨0, by omega, rfl, by rw [word_none]; simp, B_g1, HB⟩
    case round =>
      clear B_g0 B_g1 HB
      obtain ⟨i, hi, rfl, rfl, B1, HB⟩ := hrel
      by_cases hlt : i < 64
      · obtain ⟨x, hx⟩ : ∃ x : Nat, f i = (x : Int) := ⟨(f i).toNat, by have := HF.out i; omega⟩
        have hx6 : x < 256 := by have := HF.out i; omega
        obtain ⟨k, hk⟩ : ∃ k : Nat, k = x / 64 := ⟨_, rfl⟩
        obtain ⟨m, hm⟩ : ∃ m : Nat, m = x % 64 := ⟨_, rfl⟩
        have hk1 : (x : Int) / 64 = (k : Int) := by omega
        have hk4 : (k : Int) < 4 := by omega
        have hm1 : bits .and .u8 (x : Int) 63 = (m : Int) := by rw [bits_and_u8_63 _ hx6, hm]
        have hm4 : (m : Int) < 64 := by omega
        have hc := B1.cell (clsA_get p (show k < 4 by omega))
        have hfi := blkA_get f hlt
        rw [hx] at hfi
        have IX : ∀ W : World, (Instr.index 26 (.agg (blkA f)) (.int .i64 (i : Int))).run Try.prog W = .ok (.int .u8 (x : Int)) W := fun W => run_index_arr (P := Try.prog) Try.underlying26 (by kernel_rfl) (by kernel_rfl) (by kernel_rfl) hlt hfi .i64 W
        have ST := Aside0.mk (mask_step_at p f hx hk hm hlt)
        have KI := Aside0.mk hlt
        have h1 : (i : Int) < 64 := by omega
        clear hx hx6 hk hm hlt hfi hi
        go_wp2
        go_roundw
        case rel => exact ⟨i + 1, by have := KI.out; omega, by go_num, by rw [ST.out], B1, HB⟩
        case measure =>
          simp [intOf]
          have := KI.out
          omega
      · obtain rfl : i = 64 := by omega
        go_wp2
        go_ret
        exact ⟨by rw [word_done]; rfl, HB.out⟩


/-! ### lanes_Load: function 48 -/
open Go.Proofs.YtoimelcdhkmceaaQ Go.Proofs.YtoimelcdhkmceaaM in
set_option maxHeartbeats 4000000 in
set_option maxRecDepth 100000 in
theorem lanes_Load.calls (f : Nat → Int) (hf : ∀ i, 0 ≤ f i ∧ f i < 256) (w : World) :
    Calls Try.prog 48 #[.agg (arrA 8 f)] w fun e w' => e = .returned (.int .u64 (loadN f 8 : Nat)) ∧ Below w.heap.size w w' := by
  have HB := BelowH.refl w
  have HF := Aside0.mk fun i => hf i
  clear hf
  go_enter Try.func48, Try.ntmps48
  go_wp2_with (first
    | ((with_reducible refine gate_dst (N := 1) rfl ?_); refine ev_alloc HB rfl (arrA 8 f) 71 ?hr ?_; (case hr => first | (go_simp; done) | (go_simp; rfl)); intro g1 w1 G_g1 GE_g1 B_g1 HBn K_g1; clear HB; have HB := HBn; clear HBn))
  go_loopw [3, 6] (fun v3 v6 wr => ∃ i : Nat, i ≤ 8 ∧ v6 = .int .i64 i ∧ v3 = .int .u64 (loadN f i : Nat) ∧ Blk wr g1 (arrA 8 f) 71 ∧ BelowH w wr) (fun _ v6 _ => 8 - (intOf v6).toNat)
  case atStart => exact ⟨0, by omega, rfl, rfl, B_g1, HB⟩
  case round =>
    clear B_g1 HB
    obtain ⟨i, hi, rfl, rfl, B1, HB⟩ := hrel
    by_cases hlt : i < 8
    · have hc := B1.cell (arrA_get 8 f hlt)
      have h1 : (i : Int) < 8 := by omega
      go_wp2
      go_quiet (fail)
      go_wp2
      go_roundw
      case rel =>
        refine ⟨i + 1, by omega, by go_num, ?_, B1.drewN _, HB.drewN _⟩
        rw [load_step f HF.out hlt]
      case measure => simp [intOf]; omega
    · go_wp2
      go_ret
      obtain rfl : i = 8 := by omega
      exact ⟨rfl, HB.out⟩


/-! ### lanes_Fill: function 55 -/
def lanes_Fill.f (a0 : Int) : Option (Int) := some (IntKind.u64.wrap (72340172838076673 * (IntKind.u64.wrap (a0))))
set_option maxHeartbeats 8000000 in
set_option maxRecDepth 100000 in
theorem lanes_Fill.calls (a0 : Int) (r : Int) (w : World) (h : lanes_Fill.f a0 = some r) :
    Calls Try.prog 55 #[.int .u8 a0] w fun e w' => e = .returned (.int .u64 r) ∧ Drawn0 w w' := by
  have H : (some (IntKind.u64.wrap (72340172838076673 * (IntKind.u64.wrap (a0))))) = some r := h
  clear h
  obtain rfl := Option.some.inj H
  go_enter Try.func55, Try.ntmps55
  go_wp2
  go_ret
  exact ⟨by first | rfl | (simp; done) | (simp [*]; done), by repeat (first | exact Drawn0.refl _ | apply Drawn0.step)⟩

/-! ### lanes_tops: function 56 -/
def lanes_tops.f (a0 : Int) : Option (Int) := some (((IntKind.u64.wrap (((Go.bits .and .u64 a0 9259542123273814144) / 128) * 72624976668147840)) / 72057594037927936) % 256)
set_option maxHeartbeats 8000000 in
set_option maxRecDepth 100000 in
theorem lanes_tops.calls (a0 : Int) (r : Int) (w : World) (h : lanes_tops.f a0 = some r) :
    Calls Try.prog 56 #[.int .u64 a0] w fun e w' => e = .returned (.int .u8 r) ∧ Drawn0 w w' := by
  have H : (some (((IntKind.u64.wrap (((Go.bits .and .u64 a0 9259542123273814144) / 128) * 72624976668147840)) / 72057594037927936) % 256)) = some r := h
  clear h
  obtain rfl := Option.some.inj H
  go_enter Try.func56, Try.ntmps56
  go_wp2
  go_ret
  exact ⟨by first | rfl | (simp; done) | (simp [*]; done), by repeat (first | exact Drawn0.refl _ | apply Drawn0.step)⟩

/-! ### lanes_Equal: function 49 -/
open Go.Proofs.YtoimelcdhkmceaaQ Go.Proofs.YtoimelcdhkmceaaM in
set_option maxHeartbeats 4000000 in
set_option maxRecDepth 100000 in
theorem lanes_Equal.calls (f : Nat → Int) (hf : ∀ i, 0 ≤ f i ∧ f i < 256) (c : Int) (h0 : 0 ≤ c) (h1 : c < 256) (w : World) :
    Calls Try.prog 49 #[.int .u64 (loadN f 8 : Nat), .int .u8 c] w fun e w' => e = .returned (.int .u8 (wordN (fun j => decide (f j = c)) 8 : Nat)) ∧ Drawn0 w w' := by
  have E := Aside0.mk (equal_lanes f hf c h0 h1)
  clear hf h0 h1
  obtain ⟨x, hx⟩ : ∃ x : Int, x = ((loadN f 8 : Nat) : Int) := ⟨_, rfl⟩
  rw [← hx] at E ⊢
  clear hx
  go_enter Try.func49, Try.ntmps49
  go_wp2_with (first
    | (go_at_call 55; refine (lanes_Fill.calls c _ _ rfl).mono ?_; rintro e w' ⟨rfl, ⟨nd, rfl⟩⟩)
    | (go_at_call 56; refine (lanes_tops.calls _ _ _ rfl).mono ?_; rintro e w' ⟨rfl, ⟨nd2, rfl⟩⟩))
  go_ret
  refine ⟨?_, ?_⟩
  · rw [← E.out]; rfl
  · repeat (first | exact Drawn0.refl _ | apply Drawn0.step)


/-! ### block_Equal: function 34 -/
open Go.Proofs.YtoimelcdhkmceaaQ Go.Proofs.YtoimelcdhkmceaaM in
theorem size8' (f : Nat → Int) : (Try.prog.info? 71).map (·.size) = some (arrA 8 f).size := by
  rw [arrA_size]
  kernel_rfl
open Go.Proofs.YtoimelcdhkmceaaQ Go.Proofs.YtoimelcdhkmceaaM in
set_option maxHeartbeats 4000000 in
set_option maxRecDepth 100000 in
theorem block_Equal.calls (f : Nat → Int) (hf : ∀ i, 0 ≤ f i ∧ f i < 256) (c : Int) (h0 : 0 ≤ c) (h1 : c < 256) (w : World) :
    Calls Try.prog 34 #[.agg (blkA f), .int .u8 c] w fun e w' => e = .returned (.int .u64 (iv (word fun j => decide (f j = c)))) ∧ Below w.heap.size w w' := by
  have HB := BelowH.refl w
  have HF := Aside0.mk fun i => hf i
  have H0 := Aside0.mk h0
  have H1 := Aside0.mk h1
  clear hf h0 h1
  go_enter Try.func34, Try.ntmps34
  go_wp2_with (first | ((with_reducible refine gate_dst (N := 2) rfl ?_); refine ev_alloc HB rfl (blkA f) 26 ?hr ?_; (case hr => first | (go_simp; done) | (go_simp; rfl)); intro g1 w1 G_g1 GE_g1 B_g1 HBn K_g1; clear HB; have HB := HBn; clear HBn))
  go_loopw [5, 6] (fun v5 v6 wr => ∃ i : Nat, i ≤ 8 ∧ v6 = .int .i64 (8 * (i : Int)) ∧ v5 = .int .u64 (wordN (fun j => decide (f j = c)) (8 * i) : Nat) ∧ Blk wr g1 (blkA f) 26 ∧ BelowH w wr) (fun _ v6 _ => 64 - (intOf v6).toNat)
  case atStart => exact ⟨0, by omega, rfl, rfl, B_g1, HB⟩
  case round =>
    clear B_g1 HB
    obtain ⟨i, hi, rfl, rfl, B1, HB⟩ := hrel
    by_cases hlt : i < 8
    · have k1 : 8 * (i : Int) < 64 := by omega
      have KI := Aside0.mk hlt
      have K2 : Aside0 (∀ j, j < 8 → (blkA f)[8 * i + j]? = some (.int .u8 (f (8 * i + j)))) := ⟨fun j hj => blkA_get f (by omega)⟩
      have K3 : Aside0 (∀ j, 0 ≤ f (8 * i + j) ∧ f (8 * i + j) < 256) := ⟨fun j => HF.out _⟩
      go_wp2_with (first
        | ((with_reducible refine gate_dst (N := 15) rfl ?_); refine ev_sliceArr rfl 26 _ _ _ rfl g1 (8 * i) (8 * i + 8) 64 _ _ 5 rfl rfl rfl (by omega) (by omega) Try.underlying26 (by kernel_rfl) (by omega) (by omega) (by omega) ?_)
        | ((with_reducible refine gate_dst (N := 16) rfl ?_); refine ev_arrayAt rfl 71 _ rfl ⟨g1, 8 * i, none⟩ _ _ 8 5 rfl Try.underlying71 (by omega) ?_)
        | ((with_reducible refine gate_dst (N := 17) rfl ?_); refine ev_load_mid rfl 71 _ rfl g1 (8 * i) rfl (arrA 8 fun j => f (8 * i + j)) (fun j hj => by rw [arrA_size] at hj; rw [blk_cell B1.out, K2.out j hj, arrA_get 8 _ hj]) Try.underlying71 (size8' _) ?_)
        | (go_at_call 48; refine (lanes_Load.calls _ K3.out _).mono ?_; rintro e w2 ⟨rfl, hb2⟩; have B2 := B1.below hb2; have HB2 := HB.step hb2; clear hb2)
        | (go_at_call 49; refine (lanes_Equal.calls _ K3.out c H0.out H1.out _).mono ?_; rintro e w3 ⟨rfl, ⟨nd, rfl⟩⟩))
      go_roundw
      case rel =>
        refine ⟨i + 1, by omega, by simp; omega, ?_, B2.drewN _, HB2.drewN _⟩
        rw [← eight_step _ KI.out]
      case measure => simp [intOf]; omega
    · obtain rfl : i = 8 := by omega
      go_wp2
      go_ret
      exact ⟨by rw [iv_word]; rfl, HB.out⟩


/-! ### quarryref02_Has: function 24 -/
open Go.Proofs.YtoimelcdhkmceaaQ Go.Proofs.YtoimelcdhkmceaaM in
set_option maxHeartbeats 400000 in
set_option maxRecDepth 100000 in
theorem quarryref02_Has.calls (p : Nat → Bool) (x : Nat) (hx : x < 256) (w : World) :
    Calls Try.prog 24 #[.agg (clsA p), .int .u8 (x : Int)] w fun e w' => e = .returned (.bool (p x)) ∧ Below w.heap.size w w' := by
  have HB := BelowH.refl w
  obtain ⟨k, hk⟩ : ∃ k : Nat, k = x / 64 := ⟨_, rfl⟩
  obtain ⟨m, hm⟩ : ∃ m : Nat, m = x % 64 := ⟨_, rfl⟩
  have h1 : Int.tdiv (x : Int) 64 = (k : Int) := by rw [tdiv64, hk]
  have h2 : Int.tmod (x : Int) 64 = (m : Int) := by rw [tmod64, hm]
  have hk4 : (k : Int) < 4 := by omega
  have hm4 : (m : Int) < 64 := by omega
  have HE := Aside0.mk (has_eq p hk hm)
  have K4 := Aside0.mk (show k < 4 by omega)
  clear hk hm
  go_enter Try.func24, Try.ntmps24
  go_upto_region 1 with (first
    | ((with_reducible refine gate_dst (N := 2) rfl ?_); refine ev_alloc HB rfl (clsA (p)) 33 ?hr ?_; (case hr => first | (go_simp; done) | (go_simp; rfl)); intro g2 w1 G_g2 GE_g2 B_g2 HBn K_g2; clear HB; have HB := HBn; clear HBn))
  have hc := B_g2.cell (clsA_get p K4.out)
  go_wp2
  go_ret
  exact ⟨by rw [← HE.out]; rfl, HB.out⟩


/-! ### quarryref02_Mask: function 35 -/
open Go.Proofs.YtoimelcdhkmceaaQ Go.Proofs.YtoimelcdhkmceaaM in
set_option maxHeartbeats 400000 in
set_option maxRecDepth 100000 in
theorem quarryref02_Mask.calls (f : Nat → Int) (hf : ∀ i, 0 ≤ f i ∧ f i < 256) (p : Nat → Bool) (w : World) :
    Calls Try.prog 35 #[.agg (blkA f), .agg (clsA p)] w fun e w' => e = .returned (.int .u64 (iv (word fun j => p (f j).toNat))) ∧ Below w.heap.size w w' := by
  have HB := BelowH.refl w
  have HF := Aside0.mk fun i => hf i
  obtain ⟨q, hq⟩ : ∃ q : Nat → Bool, q = fun j => p (f j).toNat := ⟨_, rfl⟩
  rw [← hq]
  have HQ := Aside0.mk hq
  clear hf hq
  go_enter Try.func35, Try.ntmps35
  go_upto_region 1 with (first
    | ((with_reducible refine gate_dst (N := 2) rfl ?_); refine ev_alloc HB rfl (blkA f) 26 ?hr ?_; (case hr => first | (go_simp; done) | (go_simp; rfl)); intro g2 w1 G_g2 GE_g2 B_g2 HBn K_g2; clear HB; have HB := HBn; clear HBn)
    | ((with_reducible refine gate_dst (N := 3) rfl ?_); refine ev_alloc HB rfl (clsA (p)) 33 ?hr ?_; (case hr => first | (go_simp; done) | (go_simp; rfl)); intro g3 w2 G_g3 GE_g3 B_g3 HBn K_g3; clear HB; have HB := HBn; clear HBn))
  have B2 := B_g2.below K_g3.out
  go_wp2
  go_loopw [5, 6] (fun v5 v6 wr => ∃ i : Nat, i ≤ 64 ∧ v6 = .int .i64 i ∧ v5 = .int .u64 (iv (word fun j => decide (j < i) && q j)) ∧ Blk wr g3 (clsA p) 33 ∧ Blk wr g2 (blkA f) 26 ∧ BelowH w wr) (fun _ v6 _ => 64 - (intOf v6).toNat)
  case atStart => exact ⟨0, by omega, rfl, by rw [word_none]; simp, B_g3, B2, HB⟩
  case round =>
    clear B_g2 B_g3 B2 HB
    obtain ⟨i, hi, rfl, rfl, B3, B2, HB⟩ := hrel
    by_cases hlt : i < 64
    · obtain ⟨x, hx⟩ : ∃ x : Nat, f i = (x : Int) := ⟨(f i).toNat, by have := HF.out i; omega⟩
      have hx6 : x < 256 := by have := HF.out i; omega
      have KI := Aside0.mk hlt
      have h1 : (i : Int) < 64 := by omega
      have hqi : q i = p x := by
        rw [HQ.out]
        show p (f i).toNat = p x
        rw [hx]
        rfl
      have hc := B2.cell (blkA_get f hlt)
      rw [hx] at hc
      obtain ⟨b, hb⟩ : ∃ b, b = p x := ⟨_, rfl⟩
      have CH := Aside0.mk (fun W => quarryref02_Has.calls p x hx6 W)
      rw [clsA_lit p, ← hb] at CH
      rw [← hb] at hqi
      have HQI := Aside0.mk hqi
      have c0 := B3.cell (clsA_get p (i := 0) (by decide))
      have c1 := B3.cell (clsA_get p (i := 1) (by decide))
      have c2 := B3.cell (clsA_get p (i := 2) (by decide))
      have c3 := B3.cell (clsA_get p (i := 3) (by decide))
      clear hx hx6 hlt hb hqi
      go_upto_region 5 with (fail)
      go_still_tail 4, (by kernel_rfl)
      change wpList _ _ _ _ _ wr.drew
      have E2 := B2.drew
      have E3 := B3.drew
      have HE := HB.drew
      clear B2 B3 HB c0 c1 c2 c3 hc
      cases b with
      | true =>
        have ST := Aside0.mk (mask_put q KI.out HQI.out)
        go_wp2_with (first
          | (go_at_call 24; (with_reducible refine (CH.out _).mono ?_); rintro e w5 ⟨rfl, hb5⟩; have B3 := E3.below hb5; have B2 := E2.below hb5; have HB := HE.step hb5; clear E2 E3 HE hb5))
        go_roundw
        case rel => exact ⟨i + 1, by have := KI.out; omega, by go_num, by rw [ST.out], B3, B2, HB⟩
        case measure =>
          simp [intOf]
          have := KI.out
          omega
      | false =>
        have ST := Aside0.mk (mask_skip q HQI.out)
        go_wp2_with (first
          | (go_at_call 24; (with_reducible refine (CH.out _).mono ?_); rintro e w5 ⟨rfl, hb5⟩; have B3 := E3.below hb5; have B2 := E2.below hb5; have HB := HE.step hb5; clear E2 E3 HE hb5))
        go_roundw
        case rel => exact ⟨i + 1, by have := KI.out; omega, by go_num, by rw [ST.out], B3, B2, HB⟩
        case measure =>
          simp [intOf]
          have := KI.out
          omega
    · obtain rfl : i = 64 := by omega
      go_wp2
      go_ret
      exact ⟨by rw [word_done]; rfl, HB.out⟩


/-! ### quarryref02_Equal: function 36 -/
open Go.Proofs.YtoimelcdhkmceaaQ Go.Proofs.YtoimelcdhkmceaaM in
set_option maxHeartbeats 400000 in
set_option maxRecDepth 100000 in
theorem quarryref02_Equal.calls (f : Nat → Int) (c : Int) (w : World) :
    Calls Try.prog 36 #[.agg (blkA f), .int .u8 c] w fun e w' => e = .returned (.int .u64 (iv (word fun j => decide (f j = c)))) ∧ Below w.heap.size w w' := by
  have HB := BelowH.refl w
  obtain ⟨q, hq⟩ : ∃ q : Nat → Bool, q = fun j => decide (f j = c) := ⟨_, rfl⟩
  rw [← hq]
  have HQ := Aside0.mk hq
  clear hq
  go_enter Try.func36, Try.ntmps36
  go_upto_region 1 with (first
    | ((with_reducible refine gate_dst (N := 2) rfl ?_); refine ev_alloc HB rfl (blkA f) 26 ?hr ?_; (case hr => first | (go_simp; done) | (go_simp; rfl)); intro g2 w1 G_g2 GE_g2 B_g2 HBn K_g2; clear HB; have HB := HBn; clear HBn))
  go_wp2
  go_loopw [5, 6] (fun v5 v6 wr => ∃ i : Nat, i ≤ 64 ∧ v6 = .int .i64 i ∧ v5 = .int .u64 (iv (word fun j => decide (j < i) && q j)) ∧ Blk wr g2 (blkA f) 26 ∧ BelowH w wr) (fun _ v6 _ => 64 - (intOf v6).toNat)
  case atStart => exact ⟨0, by omega, rfl, by rw [word_none]; simp, B_g2, HB⟩
  case round =>
    clear B_g2 HB
    obtain ⟨i, hi, rfl, rfl, B2, HB⟩ := hrel
    by_cases hlt : i < 64
    · have KI := Aside0.mk hlt
      have h1 : (i : Int) < 64 := by omega
      have hc := B2.cell (blkA_get f hlt)
      clear hlt
      by_cases e : f i = c
      · have ST := Aside0.mk (mask_put q KI.out (by rw [HQ.out]; exact decide_eq_true e))
        have eb : (f i == c) = true := beq_iff_eq.mpr e
        clear e
        go_wp2
        go_roundw
        case rel => exact ⟨i + 1, by have := KI.out; omega, by go_num, by rw [ST.out], B2, HB⟩
        case measure =>
          simp [intOf]
          have := KI.out
          omega
      · have ST := Aside0.mk (mask_skip q (i := i) (by rw [HQ.out]; exact decide_eq_false e))
        have eb : (f i == c) = false := beq_eq_false_iff_ne.mpr e
        clear e
        go_wp2
        go_roundw
        case rel => exact ⟨i + 1, by have := KI.out; omega, by go_num, by rw [ST.out], B2, HB⟩
        case measure =>
          simp [intOf]
          have := KI.out
          omega
    · obtain rfl : i = 64 := by omega
      go_wp2
      go_ret
      exact ⟨by rw [word_done]; rfl, HB.out⟩


/-! ### quarrylaw02_BlockMasks: function 8 -/
section
open Go.Proofs.YtoimelcdhkmceaaQ Go.Proofs.YtoimelcdhkmceaaM
def quarrylaw02_BlockMasks.Pure : Prop := True
def headF (j : Nat) : Int := if j = 63 then 98 else if j = 7 then 97 else 0
theorem head_set (f : Nat → Int) (h : ∀ j, f j = if j = 7 then 97 else 0) : (blkA f).setIfInBounds 63 (.int .u8 98) = blkA headF := blkA_set (by decide) rfl (fun j hj => by rw [h]; unfold headF; rw [if_neg hj])
theorem head_seven : (blkA fun _ => 0).setIfInBounds 7 (.int .u8 97) = blkA (fun j => if j = 7 then 97 else 0) := blkA_set (by decide) rfl (fun j hj => by rw [if_neg hj])
set_option maxHeartbeats 1000000 in
set_option maxRecDepth 100000 in
theorem quarrylaw02_BlockMasks.walk (f : Nat → Int) (p : Nat → Bool) (x : Int) (w : World) (hf : ∀ i, 0 ≤ f i ∧ f i < 256) (hx0 : (Lit.int .u8 x).wf = true) :
    Calls Try.prog 8 #[.agg (blkA f), .agg (clsA p), .int .u8 x] w fun e w' => e = .returned (.bool true) ∧ Below w.heap.size w w' := by
  have HB := BelowH.refl w
  have hx : 0 ≤ x ∧ x < 256 := by
    simp [Lit.wf, IntKind.min, IntKind.max, IntKind.signed, IntKind.bits] at hx0
    omega
  clear hx0
  have H1 : iv (word fun j => inT (⟨#[97, 98]⟩ : ByteArray) 2 (headF j).toNat) = 9223372036854775936 := by decide +kernel
  have H2 : iv (word fun j => decide (headF j = 97)) = 128 := by decide +kernel
  have hh : ∀ i, 0 ≤ headF i ∧ headF i < 256 := fun i => by unfold headF; split <;> (try split) <;> omega
  have C1 : Aside0 (∀ W, Calls Try.prog 33 #[.agg (blkA headF), .agg (clsA (inT (⟨#[97, 98]⟩ : ByteArray) 2))] W fun e w' => e = .returned (.int .u64 9223372036854775936) ∧ Below W.heap.size W w') := ⟨fun W => H1 ▸ block_Mask.calls headF hh (inT (⟨#[97, 98]⟩ : ByteArray) 2) W⟩
  have C2 : Aside0 (∀ W, Calls Try.prog 34 #[.agg (blkA headF), .int .u8 97] W fun e w' => e = .returned (.int .u64 128) ∧ Below W.heap.size W w') := ⟨fun W => H2 ▸ block_Equal.calls headF hh 97 (by decide) (by decide) W⟩
  have C3 : Aside0 (∀ W, Calls Try.prog 23 #[.string (⟨#[97, 98]⟩ : ByteArray)] W fun e w' => e = .returned (.agg (clsA (inT (⟨#[97, 98]⟩ : ByteArray) 2))) ∧ Below W.heap.size W w') := ⟨fun W => quarryref02_Of.calls (⟨#[97, 98]⟩ : ByteArray) W (by decide)⟩
  obtain ⟨m1, hm1⟩ : ∃ m, m = iv (word fun j => p (f j).toNat) := ⟨_, rfl⟩
  obtain ⟨m2, hm2⟩ : ∃ m, m = iv (word fun j => decide (f j = x)) := ⟨_, rfl⟩
  have D1 : Aside0 (∀ W, Calls Try.prog 33 #[.agg (blkA f), .agg (clsA p)] W fun e w' => e = .returned (.int .u64 m1) ∧ Below W.heap.size W w') := ⟨fun W => hm1 ▸ block_Mask.calls f hf p W⟩
  have D2 : Aside0 (∀ W, Calls Try.prog 35 #[.agg (blkA f), .agg (clsA p)] W fun e w' => e = .returned (.int .u64 m1) ∧ Below W.heap.size W w') := ⟨fun W => hm1 ▸ quarryref02_Mask.calls f hf p W⟩
  have D3 : Aside0 (∀ W, Calls Try.prog 34 #[.agg (blkA f), .int .u8 x] W fun e w' => e = .returned (.int .u64 m2) ∧ Below W.heap.size W w') := ⟨fun W => hm2 ▸ block_Equal.calls f hf x hx.1 hx.2 W⟩
  have D4 : Aside0 (∀ W, Calls Try.prog 36 #[.agg (blkA f), .int .u8 x] W fun e w' => e = .returned (.int .u64 m2) ∧ Below W.heap.size W w') := ⟨fun W => hm2 ▸ quarryref02_Equal.calls f x W⟩
  clear hm1 hm2 H1 H2 hh hf hx
  go_enter Try.func8, Try.ntmps8
  go_upto_region 2 with (first
    | ((with_reducible refine gate_dst (N := 3) rfl ?_); refine ev_alloc HB rfl (blkA f) 26 ?hr ?_; (case hr => first | (go_simp; done) | (go_simp; rfl)); intro g3 w1 G_g3 GE_g3 B_g3 HBn K_g3; clear HB; have HB := HBn; clear HBn)
    | ((with_reducible refine gate_dst (N := 4) rfl ?_); refine ev_alloc HB rfl (clsA (p)) 33 ?hr ?_; (case hr => first | (go_simp; done) | (go_simp; rfl)); intro g4 w2 G_g4 GE_g4 B_g4 HBn K_g4; clear HB; have HB := HBn; clear HBn)
    | ((with_reducible refine gate_dst (N := 7) rfl ?_); refine ev_alloc HB rfl (blkA fun _ => 0) 26 ?hr ?_; (case hr => (rw [← blkA_zero]; go_simp; rfl)); intro g7 w3 G_g7 GE_g7 B_g7 HBn K_g7; clear HB; have HB := HBn; clear HBn))
  have N37 := Aside0.mk (show g3 < g7 by have := B_g3.lt; have := G_g4.out; have := B_g4.lt; have := G_g7.out; omega)
  have N47 := Aside0.mk (show g4 < g7 by have := B_g4.lt; have := G_g7.out; omega)
  have E3 := (B_g3.below K_g4.out).below K_g7.out
  have E4 := B_g4.below K_g7.out
  clear B_g3 B_g4 K_g3 K_g4 K_g7
  go_upto_region 3 with (first
    | ((with_reducible refine gate_ (Op.store 5 (.tmp 8) (.const (.int .u8 97))) rfl ?_); refine ev_store1 (i := 7) HB B_g7 GE_g7 rfl 5 _ _ rfl rfl (.int .u8 97) rfl (by rw [blkA_size]; decide) (by kernel_rfl) rfl ?_; intro w4 B7 HB4 K4))
  rw [head_seven] at B7
  go_upto_region 4 with (first
    | ((with_reducible refine gate_ (Op.store 5 (.tmp 9) (.const (.int .u8 98))) rfl ?_); refine ev_store1 (i := 63) HB4 B7 GE_g7 rfl 5 _ _ rfl rfl (.int .u8 98) rfl (by rw [blkA_size]; decide) (by kernel_rfl) rfl ?_; intro w5 s7 HB5 K5))
  rw [head_set _ fun _ => rfl] at s7
  have s3 := (E3.other K4 (Nat.ne_of_lt N37.out)).other K5 (Nat.ne_of_lt N37.out)
  have s4 := (E4.other K4 (Nat.ne_of_lt N47.out)).other K5 (Nat.ne_of_lt N47.out)
  clear E3 E4 B7 HB HB4 K4 K5 B_g7
  have HB := HB5
  clear HB5
  try simp only [Act.put, List.setIfInBounds_toArray, List.set_cons_zero, List.set_cons_succ]
  refine wp_region_noPanic ?_
  refine wp_region_held_drew (S := fun W => Blk W g3 (blkA f) 26 ∧ Blk W g4 (clsA p) 33 ∧ Blk W g7 (blkA headF) 26 ∧ BelowH w W) (by kernel_rfl) ⟨s3.drew, s4.drew, s7.drew, HB.drew⟩ (fun hS => ?_)
  clear s3 s4 s7 HB
  refine wpAnyH_take (i := 0) (oi := { dst := some 10, op := Go.Op.load 26 (Go.Operand.tmp 7), type := 26, pos := "law.go:35", after := #[], guard := none }) rfl (by kernel_rfl) (by kernel_rfl) (by kernel_rfl) (fun _ _ _ h => h) (rg_load (by rfl) (fun _ hS => hS.2.2.1) 26 _ rfl rfl Try.underlying26 rfl (size64' _)) hS ?_
  try simp only [Act.put, List.setIfInBounds_toArray, List.set_cons_zero, List.set_cons_succ]
  refine wpAnyH_ready (rs := [1]) (by kernel_rfl) (by simp) ?_
  refine AllReadyH.cons (o := { dst := some 11, op := Go.Op.call { callee := Go.Callee.value (Go.Operand.func 23), args := #[Go.Operand.const (Go.Value.string { data := #[97, 98] })], argTypes := #[9] }, type := 33, pos := "law.go:35", after := #[], guard := none }) rfl (fun K hK => ?_) ?_
  · obtain ⟨s3, s4, s7, HB⟩ := hS
    refine rg_call (by rfl) _ _ (.agg (clsA (inT (⟨#[97, 98]⟩ : ByteArray) 2))) (by first | (go_simp; done) | (go_simp; rfl)) (C3.out _) ?_
    intro W' hb
    refine hK.out _ _ ⟨s3.below hb.out, s4.below hb.out, s7.below hb.out, HB.step hb.out⟩ (fun hS => ?_)
    clear hK K hb s3 s4 s7 HB
    try simp only [Act.put, List.setIfInBounds_toArray, List.set_cons_zero, List.set_cons_succ]
    refine wpAnyH_ready (rs := [2]) (by kernel_rfl) (by simp) ?_
    refine AllReadyH.cons (o := { dst := some 12, op := Go.Op.call { callee := Go.Callee.value (Go.Operand.func 33), args := #[Go.Operand.tmp 10, Go.Operand.tmp 11], argTypes := #[26, 33] }, type := 30, pos := "law.go:35", after := #[{ on := 0, ground := Go.Ground.data }, { on := 1, ground := Go.Ground.data }, { on := 1, ground := Go.Ground.chain }], guard := none }) rfl (fun K hK => ?_) ?_
    · obtain ⟨s3, s4, s7, HB⟩ := hS
      refine rg_call (by rfl) _ _ (.int .u64 9223372036854775936) (by first | (go_simp; done) | (go_simp; rfl)) (C1.out _) ?_
      intro W' hb
      refine hK.out _ _ ⟨s3.below hb.out, s4.below hb.out, s7.below hb.out, HB.step hb.out⟩ (fun hS => ?_)
      clear hK K hb s3 s4 s7 HB
      try simp only [Act.put, List.setIfInBounds_toArray, List.set_cons_zero, List.set_cons_succ]
      refine' wpAnyH_take (i := 3) (oi := { dst := some 13, op := Go.Op.binOp Go.BinOp.neq 30 (Go.Operand.tmp 12) (Go.Operand.const (Go.Value.int Go.IntKind.u64 9223372036854775936)) 30, type := 4, pos := "law.go:35", after := #[{ on := 2, ground := Go.Ground.data }], guard := none }) rfl (by kernel_rfl) (by kernel_rfl) (by kernel_rfl) (fun _ _ _ h => h) (Or.inl ⟨by rfl, ?hy8⟩) hS ?rest8
      case hy8 => (intro w hSw; first | (go_simp; done) | (go_simp; with_reducible rfl))
      try simp only [Act.put, List.setIfInBounds_toArray, List.set_cons_zero, List.set_cons_succ]
      refine' wpAnyH_take (i := 4) (oi := { dst := some 14, op := Go.Op.move (Go.Operand.tmp 13), type := 4, pos := "law.go:35", after := #[{ on := 3, ground := Go.Ground.data }, { on := 2, ground := Go.Ground.chain }], guard := none }) rfl (by kernel_rfl) (by kernel_rfl) (by kernel_rfl) (fun _ _ _ h => h) (Or.inl ⟨by rfl, ?hy9⟩) hS ?rest9
      case hy9 => (intro w hSw; first | (go_simp; done) | (go_simp; with_reducible rfl))
      try simp only [Act.put, List.setIfInBounds_toArray, List.set_cons_zero, List.set_cons_succ]
      refine wpAnyH_take (i := 5) (oi := { dst := some 15, op := Go.Op.load 26 (Go.Operand.tmp 7), type := 26, pos := "law.go:35", after := #[{ on := 4, ground := Go.Ground.guard }], guard := some (4, false) }) rfl (by kernel_rfl) (by kernel_rfl) (by kernel_rfl) (fun _ _ _ h => h) (rg_load (by rfl) (fun _ hS => hS.2.2.1) 26 _ rfl rfl Try.underlying26 rfl (size64' _)) hS ?_
      try simp only [Act.put, List.setIfInBounds_toArray, List.set_cons_zero, List.set_cons_succ]
      refine wpAnyH_ready (rs := [6]) (by kernel_rfl) (by simp) ?_
      refine AllReadyH.cons (o := { dst := some 16, op := Go.Op.call { callee := Go.Callee.value (Go.Operand.func 34), args := #[Go.Operand.tmp 15, Go.Operand.const (Go.Value.int Go.IntKind.u8 97)], argTypes := #[26, 5] }, type := 30, pos := "law.go:35", after := #[{ on := 5, ground := Go.Ground.data }, { on := 4, ground := Go.Ground.chain }, { on := 4, ground := Go.Ground.guard }], guard := some (4, false) }) rfl (fun K hK => ?_) ?_
      · obtain ⟨s3, s4, s7, HB⟩ := hS
        refine rg_call (by rfl) _ _ (.int .u64 128) (by first | (go_simp; done) | (go_simp; rfl)) (C2.out _) ?_
        intro W' hb
        refine hK.out _ _ ⟨s3.below hb.out, s4.below hb.out, s7.below hb.out, HB.step hb.out⟩ (fun hS => ?_)
        clear hK K hb s3 s4 s7 HB
        try simp only [Act.put, List.setIfInBounds_toArray, List.set_cons_zero, List.set_cons_succ]
        refine' wpAnyH_take (i := 7) (oi := { dst := some 17, op := Go.Op.binOp Go.BinOp.neq 30 (Go.Operand.tmp 16) (Go.Operand.const (Go.Value.int Go.IntKind.u64 128)) 30, type := 4, pos := "law.go:35", after := #[{ on := 6, ground := Go.Ground.data }, { on := 4, ground := Go.Ground.guard }], guard := some (4, false) }) rfl (by kernel_rfl) (by kernel_rfl) (by kernel_rfl) (fun _ _ _ h => h) (Or.inl ⟨by rfl, ?hy10⟩) hS ?rest10
        case hy10 => (intro w hSw; first | (go_simp; done) | (go_simp; with_reducible rfl))
        try simp only [Act.put, List.setIfInBounds_toArray, List.set_cons_zero, List.set_cons_succ]
        refine' wpAnyH_take (i := 8) (oi := { dst := some 18, op := Go.Op.pick (Go.Operand.tmp 14) (Go.Operand.const (Go.Value.bool true)) (Go.Operand.tmp 17), type := 4, pos := "law.go:35", after := #[{ on := 4, ground := Go.Ground.data }, { on := 7, ground := Go.Ground.data }], guard := none }) rfl (by kernel_rfl) (by kernel_rfl) (by kernel_rfl) (fun _ _ _ h => h) (Or.inl ⟨by rfl, ?hy11⟩) hS ?rest11
        case hy11 => (intro w hSw; first | (go_simp; done) | (go_simp; with_reducible rfl))
        try simp only [Act.put, List.setIfInBounds_toArray, List.set_cons_zero, List.set_cons_succ]
        refine wpAnyH_done (by kernel_rfl) ?_ _
        refine NoPanic.normal ?_
        obtain ⟨s3, s4, s7, HB⟩ := hS
        go_upto_region 6 with (fail)
        try simp only [Act.put, List.setIfInBounds_toArray, List.set_cons_zero, List.set_cons_succ]
        refine wp_region_noPanic ?_
        refine wp_region_held_drew (S := fun W => Blk W g3 (blkA f) 26 ∧ Blk W g4 (clsA p) 33 ∧ Blk W g7 (blkA headF) 26 ∧ BelowH w W) (by kernel_rfl) ⟨s3.drew, s4.drew, s7.drew, HB.drew⟩ (fun hS => ?_)
        clear s3 s4 s7 HB
        refine wpAnyH_take (i := 0) (oi := { dst := some 19, op := Go.Op.load 26 (Go.Operand.tmp 3), type := 26, pos := "law.go:38", after := #[], guard := none }) rfl (by kernel_rfl) (by kernel_rfl) (by kernel_rfl) (fun _ _ _ h => h) (rg_load (by rfl) (fun _ hS => hS.1) 26 _ rfl rfl Try.underlying26 rfl (size64' _)) hS ?_
        try simp only [Act.put, List.setIfInBounds_toArray, List.set_cons_zero, List.set_cons_succ]
        refine wpAnyH_take (i := 1) (oi := { dst := some 20, op := Go.Op.load 33 (Go.Operand.tmp 4), type := 33, pos := "law.go:38", after := #[], guard := none }) rfl (by kernel_rfl) (by kernel_rfl) (by kernel_rfl) (fun _ _ _ h => h) (rg_load (by rfl) (fun _ hS => hS.2.1) 33 _ rfl rfl Try.underlying33 rfl (sizeC' _)) hS ?_
        try simp only [Act.put, List.setIfInBounds_toArray, List.set_cons_zero, List.set_cons_succ]
        refine wpAnyH_take (i := 3) (oi := { dst := some 22, op := Go.Op.load 26 (Go.Operand.tmp 3), type := 26, pos := "law.go:38", after := #[], guard := none }) rfl (by kernel_rfl) (by kernel_rfl) (by kernel_rfl) (fun _ _ _ h => h) (rg_load (by rfl) (fun _ hS => hS.1) 26 _ rfl rfl Try.underlying26 rfl (size64' _)) hS ?_
        try simp only [Act.put, List.setIfInBounds_toArray, List.set_cons_zero, List.set_cons_succ]
        refine wpAnyH_take (i := 4) (oi := { dst := some 23, op := Go.Op.load 33 (Go.Operand.tmp 4), type := 33, pos := "law.go:38", after := #[], guard := none }) rfl (by kernel_rfl) (by kernel_rfl) (by kernel_rfl) (fun _ _ _ h => h) (rg_load (by rfl) (fun _ hS => hS.2.1) 33 _ rfl rfl Try.underlying33 rfl (sizeC' _)) hS ?_
        try simp only [Act.put, List.setIfInBounds_toArray, List.set_cons_zero, List.set_cons_succ]
        refine wpAnyH_ready (rs := [2]) (by kernel_rfl) (by simp) ?_
        refine AllReadyH.cons (o := { dst := some 21, op := Go.Op.call { callee := Go.Callee.value (Go.Operand.func 33), args := #[Go.Operand.tmp 19, Go.Operand.tmp 20], argTypes := #[26, 33] }, type := 30, pos := "law.go:38", after := #[{ on := 0, ground := Go.Ground.data }, { on := 1, ground := Go.Ground.data }], guard := none }) rfl (fun K hK => ?_) ?_
        · obtain ⟨s3, s4, s7, HB⟩ := hS
          refine rg_call (by rfl) _ _ (.int .u64 m1) (by first | (go_simp; done) | (go_simp; rfl)) (D1.out _) ?_
          intro W' hb
          refine hK.out _ _ ⟨s3.below hb.out, s4.below hb.out, s7.below hb.out, HB.step hb.out⟩ (fun hS => ?_)
          clear hK K hb s3 s4 s7 HB
          try simp only [Act.put, List.setIfInBounds_toArray, List.set_cons_zero, List.set_cons_succ]
          refine wpAnyH_ready (rs := [5]) (by kernel_rfl) (by simp) ?_
          refine AllReadyH.cons (o := { dst := some 24, op := Go.Op.call { callee := Go.Callee.value (Go.Operand.func 35), args := #[Go.Operand.tmp 22, Go.Operand.tmp 23], argTypes := #[26, 33] }, type := 30, pos := "law.go:38", after := #[{ on := 3, ground := Go.Ground.data }, { on := 4, ground := Go.Ground.data }, { on := 2, ground := Go.Ground.chain }], guard := none }) rfl (fun K hK => ?_) ?_
          · obtain ⟨s3, s4, s7, HB⟩ := hS
            refine rg_call (by rfl) _ _ (.int .u64 m1) (by first | (go_simp; done) | (go_simp; rfl)) (D2.out _) ?_
            intro W' hb
            refine hK.out _ _ ⟨s3.below hb.out, s4.below hb.out, s7.below hb.out, HB.step hb.out⟩ (fun hS => ?_)
            clear hK K hb s3 s4 s7 HB
            try simp only [Act.put, List.setIfInBounds_toArray, List.set_cons_zero, List.set_cons_succ]
            refine' wpAnyH_take (i := 6) (oi := { dst := some 25, op := Go.Op.binOp Go.BinOp.eql 30 (Go.Operand.tmp 21) (Go.Operand.tmp 24) 30, type := 4, pos := "law.go:38", after := #[{ on := 2, ground := Go.Ground.data }, { on := 5, ground := Go.Ground.data }], guard := none }) rfl (by kernel_rfl) (by kernel_rfl) (by kernel_rfl) (fun _ _ _ h => h) (Or.inl ⟨by rfl, ?hy1⟩) hS ?rest1
            case hy1 => (intro w hSw; first | (go_simp; done) | (go_simp; with_reducible rfl))
            try simp only [Act.put, List.setIfInBounds_toArray, List.set_cons_zero, List.set_cons_succ]
            refine' wpAnyH_take (i := 7) (oi := { dst := some 26, op := Go.Op.move (Go.Operand.tmp 25), type := 4, pos := "law.go:38", after := #[{ on := 6, ground := Go.Ground.data }, { on := 5, ground := Go.Ground.chain }], guard := none }) rfl (by kernel_rfl) (by kernel_rfl) (by kernel_rfl) (fun _ _ _ h => h) (Or.inl ⟨by rfl, ?hy2⟩) hS ?rest2
            case hy2 => (intro w hSw; first | (go_simp; done) | (go_simp; with_reducible rfl))
            try simp only [Act.put, List.setIfInBounds_toArray, List.set_cons_zero, List.set_cons_succ]
            refine wpAnyH_take (i := 8) (oi := { dst := some 27, op := Go.Op.load 26 (Go.Operand.tmp 3), type := 26, pos := "law.go:38", after := #[{ on := 7, ground := Go.Ground.guard }], guard := some (7, true) }) rfl (by kernel_rfl) (by kernel_rfl) (by kernel_rfl) (fun _ _ _ h => h) (rg_load (by rfl) (fun _ hS => hS.1) 26 _ rfl rfl Try.underlying26 rfl (size64' _)) hS ?_
            try simp only [Act.put, List.setIfInBounds_toArray, List.set_cons_zero, List.set_cons_succ]
            refine' wpAnyH_take (i := 9) (oi := { dst := some 28, op := Go.Op.move (Go.Operand.tmp 2), type := 5, pos := "law.go:38", after := #[{ on := 7, ground := Go.Ground.guard }], guard := some (7, true) }) rfl (by kernel_rfl) (by kernel_rfl) (by kernel_rfl) (fun _ _ _ h => h) (Or.inl ⟨by rfl, ?hy3⟩) hS ?rest3
            case hy3 => (intro w hSw; first | (go_simp; done) | (go_simp; with_reducible rfl))
            try simp only [Act.put, List.setIfInBounds_toArray, List.set_cons_zero, List.set_cons_succ]
            refine wpAnyH_take (i := 11) (oi := { dst := some 30, op := Go.Op.load 26 (Go.Operand.tmp 3), type := 26, pos := "law.go:38", after := #[{ on := 7, ground := Go.Ground.guard }], guard := some (7, true) }) rfl (by kernel_rfl) (by kernel_rfl) (by kernel_rfl) (fun _ _ _ h => h) (rg_load (by rfl) (fun _ hS => hS.1) 26 _ rfl rfl Try.underlying26 rfl (size64' _)) hS ?_
            try simp only [Act.put, List.setIfInBounds_toArray, List.set_cons_zero, List.set_cons_succ]
            refine' wpAnyH_take (i := 12) (oi := { dst := some 31, op := Go.Op.move (Go.Operand.tmp 2), type := 5, pos := "law.go:38", after := #[{ on := 7, ground := Go.Ground.guard }], guard := some (7, true) }) rfl (by kernel_rfl) (by kernel_rfl) (by kernel_rfl) (fun _ _ _ h => h) (Or.inl ⟨by rfl, ?hy4⟩) hS ?rest4
            case hy4 => (intro w hSw; first | (go_simp; done) | (go_simp; with_reducible rfl))
            try simp only [Act.put, List.setIfInBounds_toArray, List.set_cons_zero, List.set_cons_succ]
            refine wpAnyH_ready (rs := [10]) (by kernel_rfl) (by simp) ?_
            refine AllReadyH.cons (o := { dst := some 29, op := Go.Op.call { callee := Go.Callee.value (Go.Operand.func 34), args := #[Go.Operand.tmp 27, Go.Operand.tmp 28], argTypes := #[26, 5] }, type := 30, pos := "law.go:38", after := #[{ on := 8, ground := Go.Ground.data }, { on := 9, ground := Go.Ground.data }, { on := 7, ground := Go.Ground.chain }, { on := 7, ground := Go.Ground.guard }], guard := some (7, true) }) rfl (fun K hK => ?_) ?_
            · obtain ⟨s3, s4, s7, HB⟩ := hS
              refine rg_call (by rfl) _ _ (.int .u64 m2) (by first | (go_simp; done) | (go_simp; rfl)) (D3.out _) ?_
              intro W' hb
              refine hK.out _ _ ⟨s3.below hb.out, s4.below hb.out, s7.below hb.out, HB.step hb.out⟩ (fun hS => ?_)
              clear hK K hb s3 s4 s7 HB
              try simp only [Act.put, List.setIfInBounds_toArray, List.set_cons_zero, List.set_cons_succ]
              refine wpAnyH_ready (rs := [13]) (by kernel_rfl) (by simp) ?_
              refine AllReadyH.cons (o := { dst := some 32, op := Go.Op.call { callee := Go.Callee.value (Go.Operand.func 36), args := #[Go.Operand.tmp 30, Go.Operand.tmp 31], argTypes := #[26, 5] }, type := 30, pos := "law.go:38", after := #[{ on := 11, ground := Go.Ground.data }, { on := 12, ground := Go.Ground.data }, { on := 10, ground := Go.Ground.chain }, { on := 7, ground := Go.Ground.guard }], guard := some (7, true) }) rfl (fun K hK => ?_) ?_
              · obtain ⟨s3, s4, s7, HB⟩ := hS
                refine rg_call (by rfl) _ _ (.int .u64 m2) (by first | (go_simp; done) | (go_simp; rfl)) (D4.out _) ?_
                intro W' hb
                refine hK.out _ _ ⟨s3.below hb.out, s4.below hb.out, s7.below hb.out, HB.step hb.out⟩ (fun hS => ?_)
                clear hK K hb s3 s4 s7 HB
                try simp only [Act.put, List.setIfInBounds_toArray, List.set_cons_zero, List.set_cons_succ]
                refine' wpAnyH_take (i := 14) (oi := { dst := some 33, op := Go.Op.binOp Go.BinOp.eql 30 (Go.Operand.tmp 29) (Go.Operand.tmp 32) 30, type := 4, pos := "law.go:38", after := #[{ on := 10, ground := Go.Ground.data }, { on := 13, ground := Go.Ground.data }, { on := 7, ground := Go.Ground.guard }], guard := some (7, true) }) rfl (by kernel_rfl) (by kernel_rfl) (by kernel_rfl) (fun _ _ _ h => h) (Or.inl ⟨by rfl, ?hy5⟩) hS ?rest5
                case hy5 => (intro w hSw; first | (go_simp; done) | (go_simp; with_reducible rfl))
                try simp only [Act.put, List.setIfInBounds_toArray, List.set_cons_zero, List.set_cons_succ]
                refine' wpAnyH_take (i := 15) (oi := { dst := some 34, op := Go.Op.pick (Go.Operand.tmp 26) (Go.Operand.tmp 33) (Go.Operand.const (Go.Value.bool false)), type := 4, pos := "law.go:38", after := #[{ on := 7, ground := Go.Ground.data }, { on := 14, ground := Go.Ground.data }], guard := none }) rfl (by kernel_rfl) (by kernel_rfl) (by kernel_rfl) (fun _ _ _ h => h) (Or.inl ⟨by rfl, ?hy6⟩) hS ?rest6
                case hy6 => (intro w hSw; first | (go_simp; done) | (go_simp; with_reducible rfl))
                try simp only [Act.put, List.setIfInBounds_toArray, List.set_cons_zero, List.set_cons_succ]
                refine' wpAnyH_take (i := 16) (oi := { dst := some 6, op := Go.Op.assign (Go.Operand.tmp 34), type := 4, pos := "law.go:38", after := #[{ on := 15, ground := Go.Ground.data }, { on := 13, ground := Go.Ground.chain }, { on := 0, ground := Go.Ground.phase }, { on := 1, ground := Go.Ground.phase }, { on := 2, ground := Go.Ground.phase }, { on := 3, ground := Go.Ground.phase }, { on := 4, ground := Go.Ground.phase }, { on := 5, ground := Go.Ground.phase }, { on := 6, ground := Go.Ground.phase }, { on := 7, ground := Go.Ground.phase }, { on := 8, ground := Go.Ground.phase }, { on := 9, ground := Go.Ground.phase }, { on := 10, ground := Go.Ground.phase }, { on := 11, ground := Go.Ground.phase }, { on := 12, ground := Go.Ground.phase }, { on := 13, ground := Go.Ground.phase }, { on := 14, ground := Go.Ground.phase }, { on := 15, ground := Go.Ground.phase }], guard := none }) rfl (by kernel_rfl) (by kernel_rfl) (by kernel_rfl) (fun _ _ _ h => h) (Or.inl ⟨by rfl, ?hy7⟩) hS ?rest7
                case hy7 => (intro w hSw; first | (go_simp; done) | (go_simp; with_reducible rfl))
                try simp only [Act.put, List.setIfInBounds_toArray, List.set_cons_zero, List.set_cons_succ]
                refine wpAnyH_done (by kernel_rfl) ?_ _
                refine NoPanic.normal ?_
                obtain ⟨s3, s4, s7, HB⟩ := hS
                go_wp2
                go_ret
                exact ⟨rfl, HB.out⟩
              exact AllReadyH.nil
            exact AllReadyH.nil
          exact AllReadyH.nil
        exact AllReadyH.nil
      exact AllReadyH.nil
    exact AllReadyH.nil
  exact AllReadyH.nil
end


end Go.Proofs.Ytoimelcdhkmceaa.PM
