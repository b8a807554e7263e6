-- Written by a program (myprint.py, over the kit's print) for this claim. Not trusted: Lean checks it.
import Derived.Test.YtoimelcdhkmceaaPLx0
namespace Go.Proofs.Ytoimelcdhkmceaa.PL
open Go.RowKit Go.Proofs.YtoimelcdhkmceaaW.PrintWords Go.Proofs.YtoimelcdhkmceaaW.PrintLast Go.Proofs.YtoimelcdhkmceaaW.PrintMore
attribute [local go_sem] max2_int min2_int max_two min_two max_three min_three max_four min_four   -- for this text's walks alone
set_option linter.unusedVariables false
set_option linter.unusedSimpArgs false

/-! ### block_Of: function 21 -/
open Go.Proofs.YtoimelcdhkmceaaQ Go.Proofs.YtoimelcdhkmceaaM in
set_option maxHeartbeats 400000 in
set_option maxRecDepth 100000 in
theorem block_Of.calls (s : ByteArray) (w : World) (hs : s.size ≤ 281474976702464) :
    Calls Try.prog 21 #[.string s] w fun e w' => e = .returned (.agg (clsA (inT s s.size))) ∧ Below w.heap.size w w' := by
  have HB := BelowH.refl w
  have HS := Aside0.mk hs
  clear hs
  go_enter Try.func21, Try.ntmps21
  go_wp2_with (first
    | ((with_reducible refine gate_dst (N := 2) rfl ?_); refine ev_alloc HB rfl (clsA fun _ => false) 33 ?hr ?_; (case hr => rw [← clsA_zero]; go_simp; rfl); intro g0 w1 G_g0 GE_g0 B_g0 HBn K_g0; clear HB; have HB := HBn; clear HBn)
    | ((with_reducible refine gate_dst (N := 3) rfl ?_); refine ev_alloc HB rfl (clsA fun _ => false) 33 ?hr ?_; (case hr => rw [← clsA_zero]; go_simp; rfl); intro g1 w2 G_g1 GE_g1 B_g1 HBn K_g1; clear HB; have HB := HBn; clear HBn))
  have N01 := Aside0.mk (show g0 < g1 by have := B_g0.lt; have := G_g1.out; omega)
  go_loopw [7] (fun v7 wr => ∃ i : Nat, i ≤ s.size ∧ v7 = .int .i64 i ∧ Blk wr g0 (clsA fun _ => false) 33 ∧ Blk wr g1 (clsA (inT s i)) 33 ∧ BelowH w wr) (fun v7 _ => s.size - (intOf v7).toNat)
  case atStart => exact ⟨0, by omega, rfl, B_g0.below K_g1.out, B_g1, HB⟩
  case round =>
    clear B_g0 B_g1 HB
    obtain ⟨i, hi, rfl, B0, B1, HB⟩ := hrel
    by_cases hlt : i < s.size
    · have KI := Aside0.mk hlt
      have hlt' : decide ((i : Int) < (s.size : Int)) = true := decide_eq_true (by omega)
      go_upto_region 5 with (fail)
      obtain ⟨k, hk⟩ : ∃ k : Nat, k = (s[i]'hlt).toNat / 64 := ⟨_, rfl⟩
      obtain ⟨m, hm⟩ : ∃ m : Nat, m = (s[i]'hlt).toNat % 64 := ⟨_, rfl⟩
      have hx : (s[i]'hlt).toNat < 256 := UInt8.toNat_lt _
      have hk1 : (((s[i]'hlt).toNat : Nat) : Int) / 64 = (k : Int) := by omega
      have hk4 : (k : Int) < 4 := by omega
      have hm1 : bits .and .u8 (((s[i]'hlt).toNat : Nat) : Int) 63 = (m : Int) := by rw [bits_and_u8_63 _ hx, hm]
      have hm4 : (m : Int) < 64 := by omega
      have hc := B1.cell (clsA_get _ (show k < 4 by omega))
      have HK := Aside0.mk hk
      have HM := Aside0.mk hm
      clear hk hm hx
      go_still_tail 14, (by kernel_rfl)
      change wpList _ _ _ _ _ wr.drew
      have B1' := B1.drew
      have B0' := B0.drew
      have HB' := HB.drew
      have HV := Aside0.mk (cls_or (p := inT s i) (q := inT s (i + 1)) (k := k) (m := m) (by omega) (inT_step hlt HK.out HM.out))
      clear HB B0 B1 hc hk1 hm1
      go_wp2_with (first
        | ((with_reducible refine gate_ (Op.store 30 (.tmp 24) (.tmp 22)) rfl ?_); refine ev_store1 (i := k) HB' B1' GE_g1 rfl 30 _ _ rfl rfl (.int .u64 (bits .or .u64 (iv (clsW (inT s i) k)) (IntKind.u64.wrap (2 ^ m)))) rfl (by rw [clsA_size]; omega) (by kernel_rfl) rfl ?_; intro w5 B5 HB5 K5))
      go_roundw
      case rel =>
        refine ⟨i + 1, by omega, by rw [w64_up KI.out HS.out], B0'.other K5 (Nat.ne_of_lt N01.out), ?_, HB5⟩
        rw [HV.out, clsA_set (q := inT s (i + 1)) (by omega) rfl (fun x _ hx => (inT_else hlt HK.out hx).symm)] at B5
        exact B5
      case measure =>
        rw [w64_up KI.out HS.out]
        simp [intOf]
        have := KI.out
        omega
    · obtain rfl : i = s.size := by omega
      go_wp2_with (first
        | ((with_reducible refine gate_dst (N := 26) rfl ?_); (try (refine gate_guard (by rfl) ?_; dsimp only)); refine ev_loadS B1 rfl 33 _ rfl rfl Try.underlying33 rfl (sizeC' _) ?_)
        | ((with_reducible refine gate_ (Op.store 33 (.tmp 2) (.tmp 26)) rfl ?_); refine ev_store HB B0 GE_g0 rfl 33 _ _ rfl rfl rfl (sizeC' _) (by rw [clsA_size, clsA_size]) (clsA_one _) ?_; intro w6 B6 HBn K_w6; clear HB; have HB := HBn; clear HBn))
      refine bodyPost_ret (results_cell_row rfl _ _ g0 33 _ (0, 0) _ rfl B6.out Try.underlying33 rfl (sizeC' _)) rfl ?_
      exact ⟨rfl, HB.out⟩


/-! ### block_Has: function 22 -/
open Go.Proofs.YtoimelcdhkmceaaQ Go.Proofs.YtoimelcdhkmceaaM in
set_option maxHeartbeats 400000 in
set_option maxRecDepth 100000 in
theorem block_Has.calls (p : Nat → Bool) (x : Nat) (hx : x < 256) (w : World) :
    Calls Try.prog 22 #[.agg (clsA p), .int .u8 (x : Int)] w fun e w' => e = .returned (.bool (p x)) ∧ Below w.heap.size w w' := by
  have HB := BelowH.refl w
  obtain ⟨k, hk⟩ : ∃ k : Nat, k = x / 64 := ⟨_, rfl⟩
  obtain ⟨m, hm⟩ : ∃ m : Nat, m = x % 64 := ⟨_, rfl⟩
  have h1 : (x : Int) / 64 = (k : Int) := by omega
  have h2 : bits .and .u8 (x : Int) 63 = (m : Int) := by rw [bits_and_u8_63 _ hx, hm]
  have hk4 : (k : Int) < 4 := by omega
  have hm4 : (m : Int) < 64 := by omega
  have HE := Aside0.mk (has_eq p hk hm)
  have K4 := Aside0.mk (show k < 4 by omega)
  clear hk hm
  go_enter Try.func22, Try.ntmps22
  go_upto_region 1 with (first
    | ((with_reducible refine gate_dst (N := 2) rfl ?_); refine ev_alloc HB rfl (clsA (p)) 33 ?hr ?_; (case hr => first | (go_simp; done) | (go_simp; rfl)); intro g2 w1 G_g2 GE_g2 B_g2 HBn K_g2; clear HB; have HB := HBn; clear HBn))
  have hc := B_g2.cell (clsA_get p K4.out)
  go_wp2
  go_ret
  exact ⟨by rw [← HE.out]; rfl, HB.out⟩


/-! ### quarryref02_with: function 46 -/
open Go.Proofs.YtoimelcdhkmceaaQ Go.Proofs.YtoimelcdhkmceaaM in
set_option maxHeartbeats 400000 in
set_option maxRecDepth 100000 in
theorem quarryref02_with.calls (p : Nat → Bool) (x : Nat) (hx : x < 256) (w : World) :
    Calls Try.prog 46 #[.agg (clsA p), .int .u8 (x : Int)] w fun e w' => e = .returned (.agg (clsA (clsPut p x))) ∧ Below w.heap.size w w' := by
  have HB := BelowH.refl w
  obtain ⟨k, hk⟩ : ∃ k : Nat, k = x / 64 := ⟨_, rfl⟩
  obtain ⟨m, hm⟩ : ∃ m : Nat, m = x % 64 := ⟨_, rfl⟩
  have h1 : Int.tdiv (x : Int) 64 = (k : Int) := by rw [tdiv64, hk]
  have h2 : Int.tmod (x : Int) 64 = (m : Int) := by rw [tmod64, hm]
  have hk4 : (k : Int) < 4 := by omega
  have hm4 : (m : Int) < 64 := by omega
  have HP := Aside0.mk (put_eq p hk hm)
  have HK := Aside0.mk hk
  have K4 := Aside0.mk (show k < 4 by omega)
  clear hk hm
  go_enter Try.func46, Try.ntmps46
  go_upto_region 2 with (first
    | ((with_reducible refine gate_dst (N := 2) rfl ?_); refine ev_alloc HB rfl (clsA (p)) 33 ?hr ?_; (case hr => first | (go_simp; done) | (go_simp; rfl)); intro g2 w1 G_g2 GE_g2 B_g2 HBn K_g2; clear HB; have HB := HBn; clear HBn)
    | ((with_reducible refine gate_dst (N := 4) rfl ?_); refine ev_alloc HB rfl (clsA fun _ => false) 33 ?hr ?_; (case hr => rw [← clsA_zero]; go_simp; rfl); intro g4 w2 G_g4 GE_g4 B_g4 HBn K_g4; clear HB; have HB := HBn; clear HBn))
  have N24 := Aside0.mk (show g2 < g4 by have := B_g2.lt; have := G_g4.out; omega)
  have B2 := B_g2.below K_g4.out
  clear B_g2 K_g4
  have hc := B2.cell (clsA_get p K4.out)
  go_upto_region 3 with (first
    | ((with_reducible refine gate_ (Op.store 30 (.tmp 23) (.tmp 21)) rfl ?_); refine ev_store1 (i := k) HB B2 GE_g2 rfl 30 _ _ rfl rfl (.int .u64 (bits .or .u64 (iv (clsW p k)) (IntKind.u64.wrap (2 ^ m)))) rfl (by rw [clsA_size]; exact K4.out) (by kernel_rfl) rfl ?_; intro w5 B5 HB5 K5))
  rw [HP.out, clsA_set (q := clsPut p x) K4.out rfl (fun y _ hy => put_else p HK.out hy)] at B5
  have B4 := B_g4.other K5 (Nat.ne_of_gt N24.out)
  clear hc B2 B_g4 HB
  have HB := HB5
  clear HB5
  go_wp2_with (first
    | ((with_reducible refine gate_dst (N := 24) rfl ?_); (try (refine gate_guard (by rfl) ?_; dsimp only)); refine ev_loadS B5 rfl 33 _ rfl rfl Try.underlying33 rfl (sizeC' _) ?_)
    | ((with_reducible refine gate_ (Op.store 33 (.tmp 4) (.tmp 24)) rfl ?_); refine ev_store HB B4 GE_g4 rfl 33 _ _ rfl rfl rfl (sizeC' _) (by rw [clsA_size, clsA_size]) (clsA_one _) ?_; intro w6 B6 HBn K_w6; clear HB; have HB := HBn; clear HBn))
  refine bodyPost_ret (results_cell_row rfl _ _ g4 33 _ (0, 0) _ rfl B6.out Try.underlying33 rfl (sizeC' _)) rfl ?_
  exact ⟨rfl, HB.out⟩


/-! ### quarryref02_Of: function 23 -/
open Go.Proofs.YtoimelcdhkmceaaQ Go.Proofs.YtoimelcdhkmceaaM in
set_option maxHeartbeats 400000 in
set_option maxRecDepth 100000 in
theorem quarryref02_Of.calls (s : ByteArray) (w : World) (hs : s.size ≤ 281474976702464) :
    Calls Try.prog 23 #[.string s] w fun e w' => e = .returned (.agg (clsA (inT s s.size))) ∧ Below w.heap.size w w' := by
  have HB := BelowH.refl w
  have HS := Aside0.mk hs
  clear hs
  go_enter Try.func23, Try.ntmps23
  go_wp2_with (first
    | ((with_reducible refine gate_dst (N := 2) rfl ?_); refine ev_alloc HB rfl (clsA fun _ => false) 33 ?hr ?_; (case hr => rw [← clsA_zero]; go_simp; rfl); intro g0 w1 G_g0 GE_g0 B_g0 HBn K_g0; clear HB; have HB := HBn; clear HBn)
    | ((with_reducible refine gate_dst (N := 3) rfl ?_); refine ev_alloc HB rfl (clsA fun _ => false) 33 ?hr ?_; (case hr => rw [← clsA_zero]; go_simp; rfl); intro g1 w2 G_g1 GE_g1 B_g1 HBn K_g1; clear HB; have HB := HBn; clear HBn))
  have N01 := Aside0.mk (show g0 < g1 by have := B_g0.lt; have := G_g1.out; omega)
  go_loopw [4] (fun v4 wr => ∃ i : Nat, i ≤ s.size ∧ v4 = .int .i64 i ∧ Blk wr g0 (clsA fun _ => false) 33 ∧ Blk wr g1 (clsA (inT s i)) 33 ∧ BelowH w wr) (fun v4 _ => s.size - (intOf v4).toNat)
  case atStart => exact ⟨0, by omega, rfl, B_g0.below K_g1.out, B_g1, HB⟩
  case round =>
    clear B_g0 B_g1 HB
    obtain ⟨i, hi, rfl, B0, B1, HB⟩ := hrel
    by_cases hlt : i < s.size
    · have KI := Aside0.mk hlt
      have hlt' : decide ((i : Int) < (s.size : Int)) = true := decide_eq_true (by omega)
      obtain ⟨x, hx⟩ : ∃ x : Nat, x = (s[i]'hlt).toNat := ⟨_, rfl⟩
      have hx6 : x < 256 := by rw [hx]; exact UInt8.toNat_lt _
      have hb : ∀ h : i < s.size, (((s[i]'h).toNat : Nat) : Int) = (x : Int) := fun h => by rw [hx]
      have IS := Aside0.mk (show clsPut (inT s i) x = inT s (i + 1) from funext fun y => (inT_put hlt hx y).symm)
      have CW := Aside0.mk (fun W => quarryref02_with.calls (inT s i) x hx6 W)
      rw [clsA_lit (inT s i)] at CW
      have c0 := B1.cell (clsA_get (inT s i) (i := 0) (by decide))
      have c1 := B1.cell (clsA_get (inT s i) (i := 1) (by decide))
      have c2 := B1.cell (clsA_get (inT s i) (i := 2) (by decide))
      have c3 := B1.cell (clsA_get (inT s i) (i := 3) (by decide))
      clear hx hx6
      go_upto_region 5 with (fail)
      go_still_tail 4, (by kernel_rfl)
      change wpList _ _ _ _ _ wr.drew
      have E1 := B1.drew
      have E0 := B0.drew
      have HE := HB.drew
      clear B1 B0 HB c0 c1 c2 c3
      go_wp2_with (first
        | (go_at_call 46; (with_reducible refine (CW.out _).mono ?_); rintro e w5 ⟨rfl, hb5⟩; have B1 := E1.below hb5; have B0 := E0.below hb5; have HB := HE.step hb5; clear E1 E0 HE hb5)
        | ((with_reducible refine gate_ (Op.store 33 (.tmp 3) (.tmp 15)) rfl ?_); refine ev_store HB B1 GE_g1 rfl 33 _ _ rfl rfl rfl (sizeC' _) (by rw [clsA_size, clsA_size]) (clsA_one _) ?_; intro w6 B6 HB6 K6))
      rw [IS.out] at B6
      go_roundw
      case rel => exact ⟨i + 1, by have := KI.out; omega, by rw [w64_up KI.out HS.out], B0.other K6 (Nat.ne_of_lt N01.out), B6, HB6⟩
      case measure =>
        rw [w64_up KI.out HS.out]
        simp [intOf]
        have := KI.out
        omega
    · obtain rfl : i = s.size := by omega
      have hlt' : decide ((s.size : Int) < (s.size : Int)) = false := decide_eq_false (by omega)
      go_wp2_with (first
        | ((with_reducible refine gate_dst (N := 16) rfl ?_); (try (refine gate_guard (by rfl) ?_; dsimp only)); refine ev_loadS B1 rfl 33 _ rfl rfl Try.underlying33 rfl (sizeC' _) ?_)
        | ((with_reducible refine gate_ (Op.store 33 (.tmp 2) (.tmp 16)) rfl ?_); refine ev_store HB B0 GE_g0 rfl 33 _ _ rfl rfl rfl (sizeC' _) (by rw [clsA_size, clsA_size]) (clsA_one _) ?_; intro w6 B6 HBn K_w6; clear HB; have HB := HBn; clear HBn))
      refine bodyPost_ret (results_cell_row rfl _ _ g0 33 _ (0, 0) _ rfl B6.out Try.underlying33 rfl (sizeC' _)) rfl ?_
      exact ⟨rfl, HB.out⟩


/-! ### quarryref02_Has: function 24 -/
open Go.Proofs.YtoimelcdhkmceaaQ Go.Proofs.YtoimelcdhkmceaaM in
set_option maxHeartbeats 400000 in
set_option maxRecDepth 100000 in
theorem quarryref02_Has.calls (p : Nat → Bool) (x : Nat) (hx : x < 256) (w : World) :
    Calls Try.prog 24 #[.agg (clsA p), .int .u8 (x : Int)] w fun e w' => e = .returned (.bool (p x)) ∧ Below w.heap.size w w' := by
  have HB := BelowH.refl w
  obtain ⟨k, hk⟩ : ∃ k : Nat, k = x / 64 := ⟨_, rfl⟩
  obtain ⟨m, hm⟩ : ∃ m : Nat, m = x % 64 := ⟨_, rfl⟩
  have h1 : Int.tdiv (x : Int) 64 = (k : Int) := by rw [tdiv64, hk]
  have h2 : Int.tmod (x : Int) 64 = (m : Int) := by rw [tmod64, hm]
  have hk4 : (k : Int) < 4 := by omega
  have hm4 : (m : Int) < 64 := by omega
  have HE := Aside0.mk (has_eq p hk hm)
  have K4 := Aside0.mk (show k < 4 by omega)
  clear hk hm
  go_enter Try.func24, Try.ntmps24
  go_upto_region 1 with (first
    | ((with_reducible refine gate_dst (N := 2) rfl ?_); refine ev_alloc HB rfl (clsA (p)) 33 ?hr ?_; (case hr => first | (go_simp; done) | (go_simp; rfl)); intro g2 w1 G_g2 GE_g2 B_g2 HBn K_g2; clear HB; have HB := HBn; clear HBn))
  have hc := B_g2.cell (clsA_get p K4.out)
  go_wp2
  go_ret
  exact ⟨by rw [← HE.out]; rfl, HB.out⟩


/-! ### block_Join: function 25 -/
open Go.Proofs.YtoimelcdhkmceaaQ Go.Proofs.YtoimelcdhkmceaaM in
set_option maxHeartbeats 1000000 in
set_option maxRecDepth 100000 in
theorem block_Join.calls (p q : Nat → Bool) (w : World) :
    Calls Try.prog 25 #[.agg (clsA p), .agg (clsA q)] w fun e w' => e = .returned (.agg (clsA (joinC p q))) ∧ Below w.heap.size w w' := by
  have HB := BelowH.refl w
  go_enter Try.func25, Try.ntmps25
  go_upto_region 1 with (first
    | ((with_reducible refine gate_dst (N := 2) rfl ?_); refine ev_alloc HB rfl (clsA (p)) 33 ?hr ?_; (case hr => first | (go_simp; done) | (go_simp; rfl)); intro g2 w1 G_g2 GE_g2 B_g2 HBn K_g2; clear HB; have HB := HBn; clear HBn)
    | ((with_reducible refine gate_dst (N := 3) rfl ?_); refine ev_alloc HB rfl (clsA (q)) 33 ?hr ?_; (case hr => first | (go_simp; done) | (go_simp; rfl)); intro g3 w2 G_g3 GE_g3 B_g3 HBn K_g3; clear HB; have HB := HBn; clear HBn)
    | ((with_reducible refine gate_dst (N := 4) rfl ?_); refine ev_alloc HB rfl (clsA fun _ => false) 33 ?hr ?_; (case hr => rw [← clsA_zero]; go_simp; rfl); intro g4 w3 G_g4 GE_g4 B_g4 HBn K_g4; clear HB; have HB := HBn; clear HBn))
  have D2 := ((B_g2.below K_g3.out).below K_g4.out)
  have D3 := (B_g3.below K_g4.out)
  have D4 := B_g4
  have N3 := Aside0.mk (show g2 < g3 by have := B_g2.lt; have := G_g3.out; have := B_g3.lt; have := G_g4.out; omega)
  have N4 := Aside0.mk (show g2 < g4 by have := B_g2.lt; have := G_g3.out; have := B_g3.lt; have := G_g4.out; omega)
  rw [mix_zero (joinC p q) p] at D2
  go_wp2
  go_loopw [6] (fun v6 wr => ∃ k : Nat, k ≤ 4 ∧ v6 = .int .i64 k ∧ Blk wr g2 (clsA (mixA (joinC p q) p k)) 33 ∧ Blk wr g3 (clsA q) 33 ∧ Blk wr g4 (clsA fun _ => false) 33 ∧ BelowH w wr) (fun v6 _ => 4 - (intOf v6).toNat)
  case atStart => exact ⟨0, by omega, rfl, D2, D3, D4, HB⟩
  case round =>
    clear D2 D3 D4 B_g2 B_g3 B_g4 HB
    obtain ⟨k, hk, rfl, B2, B3, B4, HB⟩ := hrel
    by_cases hlt : k < 4
    · have h1 : (k : Int) < 4 := by omega
      have KX := Aside0.mk hlt
      have c1 := B2.cell (clsA_get (mixA (joinC p q) p k) hlt)
      rw [mix_at] at c1
      have c2 := B3.cell (clsA_get q hlt)
      clear hlt hk
      go_upto_region 4 with (fail)
      go_still_tail 11, (by kernel_rfl)
      change wpList _ _ _ _ _ wr.drew
      have EB2 := B2.drew
      have EB3 := B3.drew
      have EB4 := B4.drew
      have HE := HB.drew
      clear B2 B3 B4 HB c1 c2
      go_wp2_with (first
        | ((with_reducible refine gate_ (Op.store 30 (.tmp 19) (.tmp 17)) rfl ?_); refine ev_store1 (i := k) HE EB2 GE_g2 rfl 30 _ _ rfl rfl (.int .u64 (bits .or .u64 (iv (clsW p k)) (iv (clsW q k)))) rfl (by rw [clsA_size]; exact KX.out) (by kernel_rfl) rfl ?_; intro w8 B8 HB8 K8))
      rw [mix_step (joinC p q) p KX.out (join_word p q k)] at B8
      go_roundw
      case rel => exact ⟨k + 1, by have := KX.out; omega, by go_num, B8, EB3.other K8 (Nat.ne_of_gt N3.out), EB4.other K8 (Nat.ne_of_gt N4.out), HB8⟩
      case measure =>
        simp [intOf]
        have := KX.out
        omega
    · obtain rfl : k = 4 := by omega
      rw [mix_end] at B2
      go_wp2_with (first
        | ((with_reducible refine gate_dst (N := 21) rfl ?_); (try (refine gate_guard (by rfl) ?_; dsimp only)); refine ev_loadS B2 rfl 33 _ rfl rfl Try.underlying33 rfl (sizeC' _) ?_)
        | ((with_reducible refine gate_ (Op.store 33 (.tmp 4) (.tmp 21)) rfl ?_); refine ev_store HB B4 GE_g4 rfl 33 _ _ rfl rfl rfl (sizeC' _) (by rw [clsA_size, clsA_size]) (clsA_one _) ?_; intro w9 B9 HBn K_w9; clear HB; have HB := HBn; clear HBn))
      refine bodyPost_ret (results_cell_row rfl _ _ g4 33 _ (0, 0) _ rfl B9.out Try.underlying33 rfl (sizeC' _)) rfl ?_
      exact ⟨rfl, HB.out⟩


/-! ### quarryref02_Join: function 26 -/
open Go.Proofs.YtoimelcdhkmceaaQ Go.Proofs.YtoimelcdhkmceaaM in
set_option maxHeartbeats 1000000 in
set_option maxRecDepth 100000 in
theorem quarryref02_Join.calls (p q : Nat → Bool) (w : World) :
    Calls Try.prog 26 #[.agg (clsA p), .agg (clsA q)] w fun e w' => e = .returned (.agg (clsA (joinC p q))) ∧ Below w.heap.size w w' := by
  have HB := BelowH.refl w
  go_enter Try.func26, Try.ntmps26
  go_wp2_with (first
    | ((with_reducible refine gate_dst (N := 2) rfl ?_); refine ev_alloc HB rfl (clsA (p)) 33 ?hr ?_; (case hr => first | (go_simp; done) | (go_simp; rfl)); intro g2 w1 G_g2 GE_g2 B_g2 HBn K_g2; clear HB; have HB := HBn; clear HBn)
    | ((with_reducible refine gate_dst (N := 3) rfl ?_); refine ev_alloc HB rfl (clsA (q)) 33 ?hr ?_; (case hr => first | (go_simp; done) | (go_simp; rfl)); intro g3 w2 G_g3 GE_g3 B_g3 HBn K_g3; clear HB; have HB := HBn; clear HBn)
    | ((with_reducible refine gate_dst (N := 4) rfl ?_); refine ev_alloc HB rfl (clsA fun _ => false) 33 ?hr ?_; (case hr => rw [← clsA_zero]; go_simp; rfl); intro g4 w3 G_g4 GE_g4 B_g4 HBn K_g4; clear HB; have HB := HBn; clear HBn)
    | ((with_reducible refine gate_dst (N := 5) rfl ?_); refine ev_alloc HB rfl (clsA fun _ => false) 33 ?hr ?_; (case hr => rw [← clsA_zero]; go_simp; rfl); intro g5 w4 G_g5 GE_g5 B_g5 HBn K_g5; clear HB; have HB := HBn; clear HBn))
  have D2 := (((B_g2.below K_g3.out).below K_g4.out).below K_g5.out)
  have D3 := ((B_g3.below K_g4.out).below K_g5.out)
  have D4 := (B_g4.below K_g5.out)
  have N2 := Aside0.mk (show g2 < g5 by have := B_g2.lt; have := G_g3.out; have := B_g3.lt; have := G_g4.out; have := B_g4.lt; have := G_g5.out; omega)
  have N3 := Aside0.mk (show g3 < g5 by have := B_g2.lt; have := G_g3.out; have := B_g3.lt; have := G_g4.out; have := B_g4.lt; have := G_g5.out; omega)
  have N4 := Aside0.mk (show g4 < g5 by have := B_g2.lt; have := G_g3.out; have := B_g3.lt; have := G_g4.out; have := B_g4.lt; have := G_g5.out; omega)
  rw [low_zero (joinC p q)] at B_g5
  go_loopw [6] (fun v6 wr => ∃ x : Nat, x ≤ 256 ∧ v6 = .int .i64 x ∧ Blk wr g2 (clsA p) 33 ∧ Blk wr g3 (clsA q) 33 ∧ Blk wr g4 (clsA fun _ => false) 33 ∧ Blk wr g5 (clsA (lowC (joinC p q) x)) 33 ∧ BelowH w wr) (fun v6 _ => 256 - (intOf v6).toNat)
  case atStart => exact ⟨0, by omega, rfl, D2, D3, D4, B_g5, HB⟩
  case round =>
    clear D2 D3 D4 B_g2 B_g3 B_g4 B_g5 HB
    obtain ⟨x, hx, rfl, B2, B3, B4, B5, HB⟩ := hrel
    by_cases hlt : x < 256
    · have h1 : (x : Int) < 256 := by omega
      have KX := Aside0.mk hlt
      have hcv : IntKind.u8.wrap (x : Int) = (x : Int) := u8_wrap hlt
      have hcv2 : (x : Int) % 256 = (x : Int) := by omega
      obtain ⟨a, ha⟩ : ∃ a, a = p x := ⟨_, rfl⟩
      have CA := Aside0.mk (fun W => quarryref02_Has.calls p x hlt W)
      rw [← ha] at CA
      obtain ⟨b, hb⟩ : ∃ b, b = q x := ⟨_, rfl⟩
      have CB := Aside0.mk (fun W => quarryref02_Has.calls q x hlt W)
      rw [← hb] at CB
      have CP := Aside0.mk (fun W => quarryref02_with.calls (lowC (joinC p q) x) x hlt W)
      have HR := Aside0.mk (show (joinC p q) x = (a || b) by unfold joinC; rw [ha, hb])
      clear ha hb hlt hx
      cases a <;> cases b
      · go_wp2_with (first
          | ((with_reducible refine gate_dst (N := 11) rfl ?_); (try (refine gate_guard (by rfl) ?_; dsimp only)); refine ev_loadS B2 rfl 33 _ rfl rfl Try.underlying33 rfl (sizeC' _) ?_)
          | (go_at_call 24; (with_reducible refine (CA.out _).mono ?_); rintro e w5 ⟨rfl, hb5⟩; have HBn := HB.step hb5; have nB2 := B2.below hb5; have nB3 := B3.below hb5; have nB4 := B4.below hb5; have nB5 := B5.below hb5; clear HB hb5 B2 B3 B4 B5; have HB := HBn; have B2 := nB2; have B3 := nB3; have B4 := nB4; have B5 := nB5; clear HBn nB2 nB3 nB4 nB5)
          | ((with_reducible refine gate_dst (N := 16) rfl ?_); (try (refine gate_guard (by rfl) ?_; dsimp only)); refine ev_loadS B3 rfl 33 _ rfl rfl Try.underlying33 rfl (sizeC' _) ?_)
          | (go_at_call 24; (with_reducible refine (CB.out _).mono ?_); rintro e w6 ⟨rfl, hb6⟩; have HBn := HB.step hb6; have nB2 := B2.below hb6; have nB3 := B3.below hb6; have nB4 := B4.below hb6; have nB5 := B5.below hb6; clear HB hb6 B2 B3 B4 B5; have HB := HBn; have B2 := nB2; have B3 := nB3; have B4 := nB4; have B5 := nB5; clear HBn nB2 nB3 nB4 nB5)
          | fail)
        rw [low_skip (joinC p q) (by rw [HR.out]; rfl)] at B5
        go_roundw
        case rel => exact ⟨x + 1, by have := KX.out; omega, by simp, B2, B3, B4, B5, HB⟩
        case measure =>
          simp [intOf]
          have := KX.out
          omega
      · go_wp2_with (first
          | ((with_reducible refine gate_dst (N := 11) rfl ?_); (try (refine gate_guard (by rfl) ?_; dsimp only)); refine ev_loadS B2 rfl 33 _ rfl rfl Try.underlying33 rfl (sizeC' _) ?_)
          | (go_at_call 24; (with_reducible refine (CA.out _).mono ?_); rintro e w5 ⟨rfl, hb5⟩; have HBn := HB.step hb5; have nB2 := B2.below hb5; have nB3 := B3.below hb5; have nB4 := B4.below hb5; have nB5 := B5.below hb5; clear HB hb5 B2 B3 B4 B5; have HB := HBn; have B2 := nB2; have B3 := nB3; have B4 := nB4; have B5 := nB5; clear HBn nB2 nB3 nB4 nB5)
          | ((with_reducible refine gate_dst (N := 16) rfl ?_); (try (refine gate_guard (by rfl) ?_; dsimp only)); refine ev_loadS B3 rfl 33 _ rfl rfl Try.underlying33 rfl (sizeC' _) ?_)
          | (go_at_call 24; (with_reducible refine (CB.out _).mono ?_); rintro e w6 ⟨rfl, hb6⟩; have HBn := HB.step hb6; have nB2 := B2.below hb6; have nB3 := B3.below hb6; have nB4 := B4.below hb6; have nB5 := B5.below hb6; clear HB hb6 B2 B3 B4 B5; have HB := HBn; have B2 := nB2; have B3 := nB3; have B4 := nB4; have B5 := nB5; clear HBn nB2 nB3 nB4 nB5)
          | ((with_reducible refine gate_dst (N := 21) rfl ?_); (try (refine gate_guard (by rfl) ?_; dsimp only)); refine ev_loadS B5 rfl 33 _ rfl rfl Try.underlying33 rfl (sizeC' _) ?_)
          | (go_at_call 46; (with_reducible refine (CP.out _).mono ?_); rintro e w7 ⟨rfl, hb7⟩; have HBn := HB.step hb7; have nB2 := B2.below hb7; have nB3 := B3.below hb7; have nB4 := B4.below hb7; have nB5 := B5.below hb7; clear HB hb7 B2 B3 B4 B5; have HB := HBn; have B2 := nB2; have B3 := nB3; have B4 := nB4; have B5 := nB5; clear HBn nB2 nB3 nB4 nB5)
          | ((with_reducible refine gate_ (Op.store 33 (.tmp 5) (.tmp 24)) rfl ?_); refine ev_store HB B5 GE_g5 rfl 33 _ _ rfl rfl rfl (sizeC' _) (by rw [clsA_size, clsA_size]) (clsA_one _) ?_; intro w8 B8 HB8 K8))
        rw [low_put (joinC p q) (by rw [HR.out]; rfl)] at B8
        go_roundw
        case rel => exact ⟨x + 1, by have := KX.out; omega, by simp, B2.other K8 (Nat.ne_of_lt N2.out), B3.other K8 (Nat.ne_of_lt N3.out), B4.other K8 (Nat.ne_of_lt N4.out), B8, HB8⟩
        case measure =>
          simp [intOf]
          have := KX.out
          omega
      · go_wp2_with (first
          | ((with_reducible refine gate_dst (N := 11) rfl ?_); (try (refine gate_guard (by rfl) ?_; dsimp only)); refine ev_loadS B2 rfl 33 _ rfl rfl Try.underlying33 rfl (sizeC' _) ?_)
          | (go_at_call 24; (with_reducible refine (CA.out _).mono ?_); rintro e w5 ⟨rfl, hb5⟩; have HBn := HB.step hb5; have nB2 := B2.below hb5; have nB3 := B3.below hb5; have nB4 := B4.below hb5; have nB5 := B5.below hb5; clear HB hb5 B2 B3 B4 B5; have HB := HBn; have B2 := nB2; have B3 := nB3; have B4 := nB4; have B5 := nB5; clear HBn nB2 nB3 nB4 nB5)
          | ((with_reducible refine gate_dst (N := 16) rfl ?_); (try (refine gate_guard (by rfl) ?_; dsimp only)); refine ev_loadS B3 rfl 33 _ rfl rfl Try.underlying33 rfl (sizeC' _) ?_)
          | (go_at_call 24; (with_reducible refine (CB.out _).mono ?_); rintro e w6 ⟨rfl, hb6⟩; have HBn := HB.step hb6; have nB2 := B2.below hb6; have nB3 := B3.below hb6; have nB4 := B4.below hb6; have nB5 := B5.below hb6; clear HB hb6 B2 B3 B4 B5; have HB := HBn; have B2 := nB2; have B3 := nB3; have B4 := nB4; have B5 := nB5; clear HBn nB2 nB3 nB4 nB5)
          | ((with_reducible refine gate_dst (N := 21) rfl ?_); (try (refine gate_guard (by rfl) ?_; dsimp only)); refine ev_loadS B5 rfl 33 _ rfl rfl Try.underlying33 rfl (sizeC' _) ?_)
          | (go_at_call 46; (with_reducible refine (CP.out _).mono ?_); rintro e w7 ⟨rfl, hb7⟩; have HBn := HB.step hb7; have nB2 := B2.below hb7; have nB3 := B3.below hb7; have nB4 := B4.below hb7; have nB5 := B5.below hb7; clear HB hb7 B2 B3 B4 B5; have HB := HBn; have B2 := nB2; have B3 := nB3; have B4 := nB4; have B5 := nB5; clear HBn nB2 nB3 nB4 nB5)
          | ((with_reducible refine gate_ (Op.store 33 (.tmp 5) (.tmp 24)) rfl ?_); refine ev_store HB B5 GE_g5 rfl 33 _ _ rfl rfl rfl (sizeC' _) (by rw [clsA_size, clsA_size]) (clsA_one _) ?_; intro w8 B8 HB8 K8))
        rw [low_put (joinC p q) (by rw [HR.out]; rfl)] at B8
        go_roundw
        case rel => exact ⟨x + 1, by have := KX.out; omega, by simp, B2.other K8 (Nat.ne_of_lt N2.out), B3.other K8 (Nat.ne_of_lt N3.out), B4.other K8 (Nat.ne_of_lt N4.out), B8, HB8⟩
        case measure =>
          simp [intOf]
          have := KX.out
          omega
      · go_wp2_with (first
          | ((with_reducible refine gate_dst (N := 11) rfl ?_); (try (refine gate_guard (by rfl) ?_; dsimp only)); refine ev_loadS B2 rfl 33 _ rfl rfl Try.underlying33 rfl (sizeC' _) ?_)
          | (go_at_call 24; (with_reducible refine (CA.out _).mono ?_); rintro e w5 ⟨rfl, hb5⟩; have HBn := HB.step hb5; have nB2 := B2.below hb5; have nB3 := B3.below hb5; have nB4 := B4.below hb5; have nB5 := B5.below hb5; clear HB hb5 B2 B3 B4 B5; have HB := HBn; have B2 := nB2; have B3 := nB3; have B4 := nB4; have B5 := nB5; clear HBn nB2 nB3 nB4 nB5)
          | ((with_reducible refine gate_dst (N := 16) rfl ?_); (try (refine gate_guard (by rfl) ?_; dsimp only)); refine ev_loadS B3 rfl 33 _ rfl rfl Try.underlying33 rfl (sizeC' _) ?_)
          | (go_at_call 24; (with_reducible refine (CB.out _).mono ?_); rintro e w6 ⟨rfl, hb6⟩; have HBn := HB.step hb6; have nB2 := B2.below hb6; have nB3 := B3.below hb6; have nB4 := B4.below hb6; have nB5 := B5.below hb6; clear HB hb6 B2 B3 B4 B5; have HB := HBn; have B2 := nB2; have B3 := nB3; have B4 := nB4; have B5 := nB5; clear HBn nB2 nB3 nB4 nB5)
          | ((with_reducible refine gate_dst (N := 21) rfl ?_); (try (refine gate_guard (by rfl) ?_; dsimp only)); refine ev_loadS B5 rfl 33 _ rfl rfl Try.underlying33 rfl (sizeC' _) ?_)
          | (go_at_call 46; (with_reducible refine (CP.out _).mono ?_); rintro e w7 ⟨rfl, hb7⟩; have HBn := HB.step hb7; have nB2 := B2.below hb7; have nB3 := B3.below hb7; have nB4 := B4.below hb7; have nB5 := B5.below hb7; clear HB hb7 B2 B3 B4 B5; have HB := HBn; have B2 := nB2; have B3 := nB3; have B4 := nB4; have B5 := nB5; clear HBn nB2 nB3 nB4 nB5)
          | ((with_reducible refine gate_ (Op.store 33 (.tmp 5) (.tmp 24)) rfl ?_); refine ev_store HB B5 GE_g5 rfl 33 _ _ rfl rfl rfl (sizeC' _) (by rw [clsA_size, clsA_size]) (clsA_one _) ?_; intro w8 B8 HB8 K8))
        rw [low_put (joinC p q) (by rw [HR.out]; rfl)] at B8
        go_roundw
        case rel => exact ⟨x + 1, by have := KX.out; omega, by simp, B2.other K8 (Nat.ne_of_lt N2.out), B3.other K8 (Nat.ne_of_lt N3.out), B4.other K8 (Nat.ne_of_lt N4.out), B8, HB8⟩
        case measure =>
          simp [intOf]
          have := KX.out
          omega
    · obtain rfl : x = 256 := by omega
      rw [low_end] at B5
      go_wp2_with (first
        | ((with_reducible refine gate_dst (N := 25) rfl ?_); (try (refine gate_guard (by rfl) ?_; dsimp only)); refine ev_loadS B5 rfl 33 _ rfl rfl Try.underlying33 rfl (sizeC' _) ?_)
        | ((with_reducible refine gate_ (Op.store 33 (.tmp 4) (.tmp 25)) rfl ?_); refine ev_store HB B4 GE_g4 rfl 33 _ _ rfl rfl rfl (sizeC' _) (by rw [clsA_size, clsA_size]) (clsA_one _) ?_; intro w9 B9 HBn K_w9; clear HB; have HB := HBn; clear HBn))
      refine bodyPost_ret (results_cell_row rfl _ _ g4 33 _ (0, 0) _ rfl B9.out Try.underlying33 rfl (sizeC' _)) rfl ?_
      exact ⟨rfl, HB.out⟩


/-! ### block_Minus: function 27 -/
open Go.Proofs.YtoimelcdhkmceaaQ Go.Proofs.YtoimelcdhkmceaaM in
set_option maxHeartbeats 1000000 in
set_option maxRecDepth 100000 in
theorem block_Minus.calls (p q : Nat → Bool) (w : World) :
    Calls Try.prog 27 #[.agg (clsA p), .agg (clsA q)] w fun e w' => e = .returned (.agg (clsA (minusC p q))) ∧ Below w.heap.size w w' := by
  have HB := BelowH.refl w
  go_enter Try.func27, Try.ntmps27
  go_upto_region 1 with (first
    | ((with_reducible refine gate_dst (N := 2) rfl ?_); refine ev_alloc HB rfl (clsA (p)) 33 ?hr ?_; (case hr => first | (go_simp; done) | (go_simp; rfl)); intro g2 w1 G_g2 GE_g2 B_g2 HBn K_g2; clear HB; have HB := HBn; clear HBn)
    | ((with_reducible refine gate_dst (N := 3) rfl ?_); refine ev_alloc HB rfl (clsA (q)) 33 ?hr ?_; (case hr => first | (go_simp; done) | (go_simp; rfl)); intro g3 w2 G_g3 GE_g3 B_g3 HBn K_g3; clear HB; have HB := HBn; clear HBn)
    | ((with_reducible refine gate_dst (N := 4) rfl ?_); refine ev_alloc HB rfl (clsA fun _ => false) 33 ?hr ?_; (case hr => rw [← clsA_zero]; go_simp; rfl); intro g4 w3 G_g4 GE_g4 B_g4 HBn K_g4; clear HB; have HB := HBn; clear HBn))
  have D2 := ((B_g2.below K_g3.out).below K_g4.out)
  have D3 := (B_g3.below K_g4.out)
  have D4 := B_g4
  have N3 := Aside0.mk (show g2 < g3 by have := B_g2.lt; have := G_g3.out; have := B_g3.lt; have := G_g4.out; omega)
  have N4 := Aside0.mk (show g2 < g4 by have := B_g2.lt; have := G_g3.out; have := B_g3.lt; have := G_g4.out; omega)
  rw [mix_zero (minusC p q) p] at D2
  go_wp2
  go_loopw [6] (fun v6 wr => ∃ k : Nat, k ≤ 4 ∧ v6 = .int .i64 k ∧ Blk wr g2 (clsA (mixA (minusC p q) p k)) 33 ∧ Blk wr g3 (clsA q) 33 ∧ Blk wr g4 (clsA fun _ => false) 33 ∧ BelowH w wr) (fun v6 _ => 4 - (intOf v6).toNat)
  case atStart => exact ⟨0, by omega, rfl, D2, D3, D4, HB⟩
  case round =>
    clear D2 D3 D4 B_g2 B_g3 B_g4 HB
    obtain ⟨k, hk, rfl, B2, B3, B4, HB⟩ := hrel
    by_cases hlt : k < 4
    · have h1 : (k : Int) < 4 := by omega
      have KX := Aside0.mk hlt
      have c1 := B2.cell (clsA_get (mixA (minusC p q) p k) hlt)
      rw [mix_at] at c1
      have c2 := B3.cell (clsA_get q hlt)
      clear hlt hk
      go_upto_region 4 with (fail)
      go_still_tail 11, (by kernel_rfl)
      change wpList _ _ _ _ _ wr.drew
      have EB2 := B2.drew
      have EB3 := B3.drew
      have EB4 := B4.drew
      have HE := HB.drew
      clear B2 B3 B4 HB c1 c2
      go_wp2_with (first
        | ((with_reducible refine gate_ (Op.store 30 (.tmp 19) (.tmp 17)) rfl ?_); refine ev_store1 (i := k) HE EB2 GE_g2 rfl 30 _ _ rfl rfl (.int .u64 (bits .andNot .u64 (iv (clsW p k)) (iv (clsW q k)))) rfl (by rw [clsA_size]; exact KX.out) (by kernel_rfl) rfl ?_; intro w8 B8 HB8 K8))
      rw [mix_step (minusC p q) p KX.out (minus_word p q k)] at B8
      go_roundw
      case rel => exact ⟨k + 1, by have := KX.out; omega, by go_num, B8, EB3.other K8 (Nat.ne_of_gt N3.out), EB4.other K8 (Nat.ne_of_gt N4.out), HB8⟩
      case measure =>
        simp [intOf]
        have := KX.out
        omega
    · obtain rfl : k = 4 := by omega
      rw [mix_end] at B2
      go_wp2_with (first
        | ((with_reducible refine gate_dst (N := 21) rfl ?_); (try (refine gate_guard (by rfl) ?_; dsimp only)); refine ev_loadS B2 rfl 33 _ rfl rfl Try.underlying33 rfl (sizeC' _) ?_)
        | ((with_reducible refine gate_ (Op.store 33 (.tmp 4) (.tmp 21)) rfl ?_); refine ev_store HB B4 GE_g4 rfl 33 _ _ rfl rfl rfl (sizeC' _) (by rw [clsA_size, clsA_size]) (clsA_one _) ?_; intro w9 B9 HBn K_w9; clear HB; have HB := HBn; clear HBn))
      refine bodyPost_ret (results_cell_row rfl _ _ g4 33 _ (0, 0) _ rfl B9.out Try.underlying33 rfl (sizeC' _)) rfl ?_
      exact ⟨rfl, HB.out⟩


/-! ### quarryref02_Minus: function 28 -/
open Go.Proofs.YtoimelcdhkmceaaQ Go.Proofs.YtoimelcdhkmceaaM in
set_option maxHeartbeats 1000000 in
set_option maxRecDepth 100000 in
theorem quarryref02_Minus.calls (p q : Nat → Bool) (w : World) :
    Calls Try.prog 28 #[.agg (clsA p), .agg (clsA q)] w fun e w' => e = .returned (.agg (clsA (minusC p q))) ∧ Below w.heap.size w w' := by
  have HB := BelowH.refl w
  go_enter Try.func28, Try.ntmps28
  go_wp2_with (first
    | ((with_reducible refine gate_dst (N := 2) rfl ?_); refine ev_alloc HB rfl (clsA (p)) 33 ?hr ?_; (case hr => first | (go_simp; done) | (go_simp; rfl)); intro g2 w1 G_g2 GE_g2 B_g2 HBn K_g2; clear HB; have HB := HBn; clear HBn)
    | ((with_reducible refine gate_dst (N := 3) rfl ?_); refine ev_alloc HB rfl (clsA (q)) 33 ?hr ?_; (case hr => first | (go_simp; done) | (go_simp; rfl)); intro g3 w2 G_g3 GE_g3 B_g3 HBn K_g3; clear HB; have HB := HBn; clear HBn)
    | ((with_reducible refine gate_dst (N := 4) rfl ?_); refine ev_alloc HB rfl (clsA fun _ => false) 33 ?hr ?_; (case hr => rw [← clsA_zero]; go_simp; rfl); intro g4 w3 G_g4 GE_g4 B_g4 HBn K_g4; clear HB; have HB := HBn; clear HBn)
    | ((with_reducible refine gate_dst (N := 5) rfl ?_); refine ev_alloc HB rfl (clsA fun _ => false) 33 ?hr ?_; (case hr => rw [← clsA_zero]; go_simp; rfl); intro g5 w4 G_g5 GE_g5 B_g5 HBn K_g5; clear HB; have HB := HBn; clear HBn))
  have D2 := (((B_g2.below K_g3.out).below K_g4.out).below K_g5.out)
  have D3 := ((B_g3.below K_g4.out).below K_g5.out)
  have D4 := (B_g4.below K_g5.out)
  have N2 := Aside0.mk (show g2 < g5 by have := B_g2.lt; have := G_g3.out; have := B_g3.lt; have := G_g4.out; have := B_g4.lt; have := G_g5.out; omega)
  have N3 := Aside0.mk (show g3 < g5 by have := B_g2.lt; have := G_g3.out; have := B_g3.lt; have := G_g4.out; have := B_g4.lt; have := G_g5.out; omega)
  have N4 := Aside0.mk (show g4 < g5 by have := B_g2.lt; have := G_g3.out; have := B_g3.lt; have := G_g4.out; have := B_g4.lt; have := G_g5.out; omega)
  rw [low_zero (minusC p q)] at B_g5
  go_loopw [6] (fun v6 wr => ∃ x : Nat, x ≤ 256 ∧ v6 = .int .i64 x ∧ Blk wr g2 (clsA p) 33 ∧ Blk wr g3 (clsA q) 33 ∧ Blk wr g4 (clsA fun _ => false) 33 ∧ Blk wr g5 (clsA (lowC (minusC p q) x)) 33 ∧ BelowH w wr) (fun v6 _ => 256 - (intOf v6).toNat)
  case atStart => exact ⟨0, by omega, rfl, D2, D3, D4, B_g5, HB⟩
  case round =>
    clear D2 D3 D4 B_g2 B_g3 B_g4 B_g5 HB
    obtain ⟨x, hx, rfl, B2, B3, B4, B5, HB⟩ := hrel
    by_cases hlt : x < 256
    · have h1 : (x : Int) < 256 := by omega
      have KX := Aside0.mk hlt
      have hcv : IntKind.u8.wrap (x : Int) = (x : Int) := u8_wrap hlt
      have hcv2 : (x : Int) % 256 = (x : Int) := by omega
      obtain ⟨a, ha⟩ : ∃ a, a = p x := ⟨_, rfl⟩
      have CA := Aside0.mk (fun W => quarryref02_Has.calls p x hlt W)
      rw [← ha] at CA
      obtain ⟨b, hb⟩ : ∃ b, b = q x := ⟨_, rfl⟩
      have CB := Aside0.mk (fun W => quarryref02_Has.calls q x hlt W)
      rw [← hb] at CB
      have CP := Aside0.mk (fun W => quarryref02_with.calls (lowC (minusC p q) x) x hlt W)
      have HR := Aside0.mk (show (minusC p q) x = (a && !b) by unfold minusC; rw [ha, hb])
      clear ha hb hlt hx
      cases a <;> cases b
      · go_wp2_with (first
          | ((with_reducible refine gate_dst (N := 11) rfl ?_); (try (refine gate_guard (by rfl) ?_; dsimp only)); refine ev_loadS B2 rfl 33 _ rfl rfl Try.underlying33 rfl (sizeC' _) ?_)
          | (go_at_call 24; (with_reducible refine (CA.out _).mono ?_); rintro e w5 ⟨rfl, hb5⟩; have HBn := HB.step hb5; have nB2 := B2.below hb5; have nB3 := B3.below hb5; have nB4 := B4.below hb5; have nB5 := B5.below hb5; clear HB hb5 B2 B3 B4 B5; have HB := HBn; have B2 := nB2; have B3 := nB3; have B4 := nB4; have B5 := nB5; clear HBn nB2 nB3 nB4 nB5)
          | ((with_reducible refine gate_dst (N := 16) rfl ?_); (try (refine gate_guard (by rfl) ?_; dsimp only)); refine ev_loadS B3 rfl 33 _ rfl rfl Try.underlying33 rfl (sizeC' _) ?_)
          | (go_at_call 24; (with_reducible refine (CB.out _).mono ?_); rintro e w6 ⟨rfl, hb6⟩; have HBn := HB.step hb6; have nB2 := B2.below hb6; have nB3 := B3.below hb6; have nB4 := B4.below hb6; have nB5 := B5.below hb6; clear HB hb6 B2 B3 B4 B5; have HB := HBn; have B2 := nB2; have B3 := nB3; have B4 := nB4; have B5 := nB5; clear HBn nB2 nB3 nB4 nB5)
          | fail)
        rw [low_skip (minusC p q) (by rw [HR.out]; rfl)] at B5
        go_roundw
        case rel => exact ⟨x + 1, by have := KX.out; omega, by simp, B2, B3, B4, B5, HB⟩
        case measure =>
          simp [intOf]
          have := KX.out
          omega
      · go_wp2_with (first
          | ((with_reducible refine gate_dst (N := 11) rfl ?_); (try (refine gate_guard (by rfl) ?_; dsimp only)); refine ev_loadS B2 rfl 33 _ rfl rfl Try.underlying33 rfl (sizeC' _) ?_)
          | (go_at_call 24; (with_reducible refine (CA.out _).mono ?_); rintro e w5 ⟨rfl, hb5⟩; have HBn := HB.step hb5; have nB2 := B2.below hb5; have nB3 := B3.below hb5; have nB4 := B4.below hb5; have nB5 := B5.below hb5; clear HB hb5 B2 B3 B4 B5; have HB := HBn; have B2 := nB2; have B3 := nB3; have B4 := nB4; have B5 := nB5; clear HBn nB2 nB3 nB4 nB5)
          | ((with_reducible refine gate_dst (N := 16) rfl ?_); (try (refine gate_guard (by rfl) ?_; dsimp only)); refine ev_loadS B3 rfl 33 _ rfl rfl Try.underlying33 rfl (sizeC' _) ?_)
          | (go_at_call 24; (with_reducible refine (CB.out _).mono ?_); rintro e w6 ⟨rfl, hb6⟩; have HBn := HB.step hb6; have nB2 := B2.below hb6; have nB3 := B3.below hb6; have nB4 := B4.below hb6; have nB5 := B5.below hb6; clear HB hb6 B2 B3 B4 B5; have HB := HBn; have B2 := nB2; have B3 := nB3; have B4 := nB4; have B5 := nB5; clear HBn nB2 nB3 nB4 nB5)
          | fail)
        rw [low_skip (minusC p q) (by rw [HR.out]; rfl)] at B5
        go_roundw
        case rel => exact ⟨x + 1, by have := KX.out; omega, by simp, B2, B3, B4, B5, HB⟩
        case measure =>
          simp [intOf]
          have := KX.out
          omega
      · go_wp2_with (first
          | ((with_reducible refine gate_dst (N := 11) rfl ?_); (try (refine gate_guard (by rfl) ?_; dsimp only)); refine ev_loadS B2 rfl 33 _ rfl rfl Try.underlying33 rfl (sizeC' _) ?_)
          | (go_at_call 24; (with_reducible refine (CA.out _).mono ?_); rintro e w5 ⟨rfl, hb5⟩; have HBn := HB.step hb5; have nB2 := B2.below hb5; have nB3 := B3.below hb5; have nB4 := B4.below hb5; have nB5 := B5.below hb5; clear HB hb5 B2 B3 B4 B5; have HB := HBn; have B2 := nB2; have B3 := nB3; have B4 := nB4; have B5 := nB5; clear HBn nB2 nB3 nB4 nB5)
          | ((with_reducible refine gate_dst (N := 16) rfl ?_); (try (refine gate_guard (by rfl) ?_; dsimp only)); refine ev_loadS B3 rfl 33 _ rfl rfl Try.underlying33 rfl (sizeC' _) ?_)
          | (go_at_call 24; (with_reducible refine (CB.out _).mono ?_); rintro e w6 ⟨rfl, hb6⟩; have HBn := HB.step hb6; have nB2 := B2.below hb6; have nB3 := B3.below hb6; have nB4 := B4.below hb6; have nB5 := B5.below hb6; clear HB hb6 B2 B3 B4 B5; have HB := HBn; have B2 := nB2; have B3 := nB3; have B4 := nB4; have B5 := nB5; clear HBn nB2 nB3 nB4 nB5)
          | ((with_reducible refine gate_dst (N := 22) rfl ?_); (try (refine gate_guard (by rfl) ?_; dsimp only)); refine ev_loadS B5 rfl 33 _ rfl rfl Try.underlying33 rfl (sizeC' _) ?_)
          | (go_at_call 46; (with_reducible refine (CP.out _).mono ?_); rintro e w7 ⟨rfl, hb7⟩; have HBn := HB.step hb7; have nB2 := B2.below hb7; have nB3 := B3.below hb7; have nB4 := B4.below hb7; have nB5 := B5.below hb7; clear HB hb7 B2 B3 B4 B5; have HB := HBn; have B2 := nB2; have B3 := nB3; have B4 := nB4; have B5 := nB5; clear HBn nB2 nB3 nB4 nB5)
          | ((with_reducible refine gate_ (Op.store 33 (.tmp 5) (.tmp 25)) rfl ?_); refine ev_store HB B5 GE_g5 rfl 33 _ _ rfl rfl rfl (sizeC' _) (by rw [clsA_size, clsA_size]) (clsA_one _) ?_; intro w8 B8 HB8 K8))
        rw [low_put (minusC p q) (by rw [HR.out]; rfl)] at B8
        go_roundw
        case rel => exact ⟨x + 1, by have := KX.out; omega, by simp, B2.other K8 (Nat.ne_of_lt N2.out), B3.other K8 (Nat.ne_of_lt N3.out), B4.other K8 (Nat.ne_of_lt N4.out), B8, HB8⟩
        case measure =>
          simp [intOf]
          have := KX.out
          omega
      · go_wp2_with (first
          | ((with_reducible refine gate_dst (N := 11) rfl ?_); (try (refine gate_guard (by rfl) ?_; dsimp only)); refine ev_loadS B2 rfl 33 _ rfl rfl Try.underlying33 rfl (sizeC' _) ?_)
          | (go_at_call 24; (with_reducible refine (CA.out _).mono ?_); rintro e w5 ⟨rfl, hb5⟩; have HBn := HB.step hb5; have nB2 := B2.below hb5; have nB3 := B3.below hb5; have nB4 := B4.below hb5; have nB5 := B5.below hb5; clear HB hb5 B2 B3 B4 B5; have HB := HBn; have B2 := nB2; have B3 := nB3; have B4 := nB4; have B5 := nB5; clear HBn nB2 nB3 nB4 nB5)
          | ((with_reducible refine gate_dst (N := 16) rfl ?_); (try (refine gate_guard (by rfl) ?_; dsimp only)); refine ev_loadS B3 rfl 33 _ rfl rfl Try.underlying33 rfl (sizeC' _) ?_)
          | (go_at_call 24; (with_reducible refine (CB.out _).mono ?_); rintro e w6 ⟨rfl, hb6⟩; have HBn := HB.step hb6; have nB2 := B2.below hb6; have nB3 := B3.below hb6; have nB4 := B4.below hb6; have nB5 := B5.below hb6; clear HB hb6 B2 B3 B4 B5; have HB := HBn; have B2 := nB2; have B3 := nB3; have B4 := nB4; have B5 := nB5; clear HBn nB2 nB3 nB4 nB5)
          | fail)
        rw [low_skip (minusC p q) (by rw [HR.out]; rfl)] at B5
        go_roundw
        case rel => exact ⟨x + 1, by have := KX.out; omega, by simp, B2, B3, B4, B5, HB⟩
        case measure =>
          simp [intOf]
          have := KX.out
          omega
    · obtain rfl : x = 256 := by omega
      rw [low_end] at B5
      go_wp2_with (first
        | ((with_reducible refine gate_dst (N := 26) rfl ?_); (try (refine gate_guard (by rfl) ?_; dsimp only)); refine ev_loadS B5 rfl 33 _ rfl rfl Try.underlying33 rfl (sizeC' _) ?_)
        | ((with_reducible refine gate_ (Op.store 33 (.tmp 4) (.tmp 26)) rfl ?_); refine ev_store HB B4 GE_g4 rfl 33 _ _ rfl rfl rfl (sizeC' _) (by rw [clsA_size, clsA_size]) (clsA_one _) ?_; intro w9 B9 HBn K_w9; clear HB; have HB := HBn; clear HBn))
      refine bodyPost_ret (results_cell_row rfl _ _ g4 33 _ (0, 0) _ rfl B9.out Try.underlying33 rfl (sizeC' _)) rfl ?_
      exact ⟨rfl, HB.out⟩


/-! ### block_Not: function 29 -/
open Go.Proofs.YtoimelcdhkmceaaQ Go.Proofs.YtoimelcdhkmceaaM in
set_option maxHeartbeats 1000000 in
set_option maxRecDepth 100000 in
theorem block_Not.calls (p : Nat → Bool) (w : World) :
    Calls Try.prog 29 #[.agg (clsA p)] w fun e w' => e = .returned (.agg (clsA (notC p))) ∧ Below w.heap.size w w' := by
  have HB := BelowH.refl w
  go_enter Try.func29, Try.ntmps29
  go_upto_region 1 with (first
    | ((with_reducible refine gate_dst (N := 1) rfl ?_); refine ev_alloc HB rfl (clsA (p)) 33 ?hr ?_; (case hr => first | (go_simp; done) | (go_simp; rfl)); intro g1 w1 G_g1 GE_g1 B_g1 HBn K_g1; clear HB; have HB := HBn; clear HBn)
    | ((with_reducible refine gate_dst (N := 2) rfl ?_); refine ev_alloc HB rfl (clsA fun _ => false) 33 ?hr ?_; (case hr => rw [← clsA_zero]; go_simp; rfl); intro g2 w3 G_g2 GE_g2 B_g2 HBn K_g2; clear HB; have HB := HBn; clear HBn))
  have D1 := (B_g1.below K_g2.out)
  have D2 := B_g2
  have N2 := Aside0.mk (show g1 < g2 by have := B_g1.lt; have := G_g2.out; omega)
  rw [mix_zero (notC p) p] at D1
  go_wp2
  go_loopw [4] (fun v4 wr => ∃ k : Nat, k ≤ 4 ∧ v4 = .int .i64 k ∧ Blk wr g1 (clsA (mixA (notC p) p k)) 33 ∧ Blk wr g2 (clsA fun _ => false) 33 ∧ BelowH w wr) (fun v4 _ => 4 - (intOf v4).toNat)
  case atStart => exact ⟨0, by omega, rfl, D1, D2, HB⟩
  case round =>
    clear D1 D2 B_g1 B_g2 HB
    obtain ⟨k, hk, rfl, B1, B2, HB⟩ := hrel
    by_cases hlt : k < 4
    · have h1 : (k : Int) < 4 := by omega
      have KX := Aside0.mk hlt
      have c1 := B1.cell (clsA_get (mixA (notC p) p k) hlt)
      rw [mix_at] at c1
      clear hlt hk
      go_wp2_with (first
        | ((with_reducible refine gate_ (Op.store 30 (.tmp 14) (.tmp 12)) rfl ?_); refine ev_store1 (i := k) HB B1 GE_g1 rfl 30 _ _ rfl rfl (.int .u64 (bits .xor .u64 18446744073709551615 (iv (clsW p k)))) rfl (by rw [clsA_size]; exact KX.out) (by kernel_rfl) rfl ?_; intro w8 B8 HB8 K8))
      rw [mix_step (notC p) p KX.out (not_word p k)] at B8
      go_roundw
      case rel => exact ⟨k + 1, by have := KX.out; omega, by go_num, B8, B2.other K8 (Nat.ne_of_gt N2.out), HB8⟩
      case measure =>
        simp [intOf]
        have := KX.out
        omega
    · obtain rfl : k = 4 := by omega
      rw [mix_end] at B1
      go_wp2_with (first
        | ((with_reducible refine gate_dst (N := 16) rfl ?_); (try (refine gate_guard (by rfl) ?_; dsimp only)); refine ev_loadS B1 rfl 33 _ rfl rfl Try.underlying33 rfl (sizeC' _) ?_)
        | ((with_reducible refine gate_ (Op.store 33 (.tmp 2) (.tmp 16)) rfl ?_); refine ev_store HB B2 GE_g2 rfl 33 _ _ rfl rfl rfl (sizeC' _) (by rw [clsA_size, clsA_size]) (clsA_one _) ?_; intro w9 B9 HBn K_w9; clear HB; have HB := HBn; clear HBn))
      refine bodyPost_ret (results_cell_row rfl _ _ g2 33 _ (0, 0) _ rfl B9.out Try.underlying33 rfl (sizeC' _)) rfl ?_
      exact ⟨rfl, HB.out⟩


/-! ### quarryref02_Not: function 30 -/
open Go.Proofs.YtoimelcdhkmceaaQ Go.Proofs.YtoimelcdhkmceaaM in
set_option maxHeartbeats 1000000 in
set_option maxRecDepth 100000 in
theorem quarryref02_Not.calls (p : Nat → Bool) (w : World) :
    Calls Try.prog 30 #[.agg (clsA p)] w fun e w' => e = .returned (.agg (clsA (notC p))) ∧ Below w.heap.size w w' := by
  have HB := BelowH.refl w
  go_enter Try.func30, Try.ntmps30
  go_wp2_with (first
    | ((with_reducible refine gate_dst (N := 1) rfl ?_); refine ev_alloc HB rfl (clsA (p)) 33 ?hr ?_; (case hr => first | (go_simp; done) | (go_simp; rfl)); intro g1 w1 G_g1 GE_g1 B_g1 HBn K_g1; clear HB; have HB := HBn; clear HBn)
    | ((with_reducible refine gate_dst (N := 2) rfl ?_); refine ev_alloc HB rfl (clsA fun _ => false) 33 ?hr ?_; (case hr => rw [← clsA_zero]; go_simp; rfl); intro g2 w3 G_g2 GE_g2 B_g2 HBn K_g2; clear HB; have HB := HBn; clear HBn)
    | ((with_reducible refine gate_dst (N := 3) rfl ?_); refine ev_alloc HB rfl (clsA fun _ => false) 33 ?hr ?_; (case hr => rw [← clsA_zero]; go_simp; rfl); intro g3 w4 G_g3 GE_g3 B_g3 HBn K_g3; clear HB; have HB := HBn; clear HBn))
  have D1 := ((B_g1.below K_g2.out).below K_g3.out)
  have D2 := (B_g2.below K_g3.out)
  have N1 := Aside0.mk (show g1 < g3 by have := B_g1.lt; have := G_g2.out; have := B_g2.lt; have := G_g3.out; omega)
  have N2 := Aside0.mk (show g2 < g3 by have := B_g1.lt; have := G_g2.out; have := B_g2.lt; have := G_g3.out; omega)
  rw [low_zero (notC p)] at B_g3
  go_loopw [4] (fun v4 wr => ∃ x : Nat, x ≤ 256 ∧ v4 = .int .i64 x ∧ Blk wr g1 (clsA p) 33 ∧ Blk wr g2 (clsA fun _ => false) 33 ∧ Blk wr g3 (clsA (lowC (notC p) x)) 33 ∧ BelowH w wr) (fun v4 _ => 256 - (intOf v4).toNat)
  case atStart => exact ⟨0, by omega, rfl, D1, D2, B_g3, HB⟩
  case round =>
    clear D1 D2 B_g1 B_g2 B_g3 HB
    obtain ⟨x, hx, rfl, B1, B2, B3, HB⟩ := hrel
    by_cases hlt : x < 256
    · have h1 : (x : Int) < 256 := by omega
      have KX := Aside0.mk hlt
      have hcv : IntKind.u8.wrap (x : Int) = (x : Int) := u8_wrap hlt
      have hcv2 : (x : Int) % 256 = (x : Int) := by omega
      obtain ⟨a, ha⟩ : ∃ a, a = p x := ⟨_, rfl⟩
      have CA := Aside0.mk (fun W => quarryref02_Has.calls p x hlt W)
      rw [← ha] at CA
      have CP := Aside0.mk (fun W => quarryref02_with.calls (lowC (notC p) x) x hlt W)
      have HR := Aside0.mk (show (notC p) x = (!a) by unfold notC; rw [ha])
      clear ha hlt hx
      cases a <;> skip
      · go_wp2_with (first
          | ((with_reducible refine gate_dst (N := 9) rfl ?_); (try (refine gate_guard (by rfl) ?_; dsimp only)); refine ev_loadS B1 rfl 33 _ rfl rfl Try.underlying33 rfl (sizeC' _) ?_)
          | (go_at_call 24; (with_reducible refine (CA.out _).mono ?_); rintro e w5 ⟨rfl, hb5⟩; have HBn := HB.step hb5; have nB1 := B1.below hb5; have nB2 := B2.below hb5; have nB3 := B3.below hb5; clear HB hb5 B1 B2 B3; have HB := HBn; have B1 := nB1; have B2 := nB2; have B3 := nB3; clear HBn nB1 nB2 nB3)
          | ((with_reducible refine gate_dst (N := 14) rfl ?_); (try (refine gate_guard (by rfl) ?_; dsimp only)); refine ev_loadS B3 rfl 33 _ rfl rfl Try.underlying33 rfl (sizeC' _) ?_)
          | (go_at_call 46; (with_reducible refine (CP.out _).mono ?_); rintro e w7 ⟨rfl, hb7⟩; have HBn := HB.step hb7; have nB1 := B1.below hb7; have nB2 := B2.below hb7; have nB3 := B3.below hb7; clear HB hb7 B1 B2 B3; have HB := HBn; have B1 := nB1; have B2 := nB2; have B3 := nB3; clear HBn nB1 nB2 nB3)
          | ((with_reducible refine gate_ (Op.store 33 (.tmp 3) (.tmp 17)) rfl ?_); refine ev_store HB B3 GE_g3 rfl 33 _ _ rfl rfl rfl (sizeC' _) (by rw [clsA_size, clsA_size]) (clsA_one _) ?_; intro w8 B8 HB8 K8))
        rw [low_put (notC p) (by rw [HR.out]; rfl)] at B8
        go_roundw
        case rel => exact ⟨x + 1, by have := KX.out; omega, by simp, B1.other K8 (Nat.ne_of_lt N1.out), B2.other K8 (Nat.ne_of_lt N2.out), B8, HB8⟩
        case measure =>
          simp [intOf]
          have := KX.out
          omega
      · go_wp2_with (first
          | ((with_reducible refine gate_dst (N := 9) rfl ?_); (try (refine gate_guard (by rfl) ?_; dsimp only)); refine ev_loadS B1 rfl 33 _ rfl rfl Try.underlying33 rfl (sizeC' _) ?_)
          | (go_at_call 24; (with_reducible refine (CA.out _).mono ?_); rintro e w5 ⟨rfl, hb5⟩; have HBn := HB.step hb5; have nB1 := B1.below hb5; have nB2 := B2.below hb5; have nB3 := B3.below hb5; clear HB hb5 B1 B2 B3; have HB := HBn; have B1 := nB1; have B2 := nB2; have B3 := nB3; clear HBn nB1 nB2 nB3)
          | fail)
        rw [low_skip (notC p) (by rw [HR.out]; rfl)] at B3
        go_roundw
        case rel => exact ⟨x + 1, by have := KX.out; omega, by simp, B1, B2, B3, HB⟩
        case measure =>
          simp [intOf]
          have := KX.out
          omega
    · obtain rfl : x = 256 := by omega
      rw [low_end] at B3
      go_wp2_with (first
        | ((with_reducible refine gate_dst (N := 18) rfl ?_); (try (refine gate_guard (by rfl) ?_; dsimp only)); refine ev_loadS B3 rfl 33 _ rfl rfl Try.underlying33 rfl (sizeC' _) ?_)
        | ((with_reducible refine gate_ (Op.store 33 (.tmp 2) (.tmp 18)) rfl ?_); refine ev_store HB B2 GE_g2 rfl 33 _ _ rfl rfl rfl (sizeC' _) (by rw [clsA_size, clsA_size]) (clsA_one _) ?_; intro w9 B9 HBn K_w9; clear HB; have HB := HBn; clear HBn))
      refine bodyPost_ret (results_cell_row rfl _ _ g2 33 _ (0, 0) _ rfl B9.out Try.underlying33 rfl (sizeC' _)) rfl ?_
      exact ⟨rfl, HB.out⟩


end Go.Proofs.Ytoimelcdhkmceaa.PL
