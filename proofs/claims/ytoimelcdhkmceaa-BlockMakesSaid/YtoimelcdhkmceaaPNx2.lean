-- Written by a program (myprint.py, over the kit's print) for this claim. Not trusted: Lean checks it.
import Derived.Test.YtoimelcdhkmceaaPNx0
import Derived.Test.YtoimelcdhkmceaaPNx1
namespace Go.Proofs.Ytoimelcdhkmceaa.PN
open Go.RowKit Go.Proofs.YtoimelcdhkmceaaW.PrintWords Go.Proofs.YtoimelcdhkmceaaW.PrintLast Go.Proofs.YtoimelcdhkmceaaW.PrintMore
attribute [local go_sem] max2_int min2_int max_two min_two max_three min_three max_four min_four   -- for this text's walks alone
set_option linter.unusedVariables false
set_option linter.unusedSimpArgs false

/-! ### quarrylaw02_BlockMakes: function 10 -/
section
open Go.Proofs.YtoimelcdhkmceaaQ Go.Proofs.YtoimelcdhkmceaaM
def quarrylaw02_BlockMakes.Pure : Prop := True
set_option maxHeartbeats 4000000 in
set_option maxRecDepth 100000 in
theorem quarrylaw02_BlockMakes.walk (f : Nat → Int) (c d : Nat → Bool) (w : World) (hf : ∀ i, 0 ≤ f i ∧ f i < 256) :
    Calls Try.prog 10 #[.agg (blkA f), .agg (clsA c), .agg (clsA d)] w fun e w' => e = .returned (.bool true) ∧ Below w.heap.size w w' := by
  have HB := BelowH.refl w
  obtain ⟨m1, hm1⟩ : ∃ m, m = iv (word fun j => (c) (f j).toNat) := ⟨_, rfl⟩
  have M1 : Aside0 (∀ W, Calls Try.prog 33 #[.agg (blkA f), .agg (clsA (c))] W fun e w' => e = .returned (.int .u64 m1) ∧ Below W.heap.size W w') := ⟨fun W => hm1 ▸ block_Mask.calls f hf (c) W⟩
  obtain ⟨m2, hm2⟩ : ∃ m, m = iv (word fun j => (d) (f j).toNat) := ⟨_, rfl⟩
  have M2 : Aside0 (∀ W, Calls Try.prog 33 #[.agg (blkA f), .agg (clsA (d))] W fun e w' => e = .returned (.int .u64 m2) ∧ Below W.heap.size W w') := ⟨fun W => hm2 ▸ block_Mask.calls f hf (d) W⟩
  obtain ⟨m3, hm3⟩ : ∃ m, m = iv (word fun j => (joinC c d) (f j).toNat) := ⟨_, rfl⟩
  have M3 : Aside0 (∀ W, Calls Try.prog 33 #[.agg (blkA f), .agg (clsA (joinC c d))] W fun e w' => e = .returned (.int .u64 m3) ∧ Below W.heap.size W w') := ⟨fun W => hm3 ▸ block_Mask.calls f hf (joinC c d) W⟩
  obtain ⟨m4, hm4⟩ : ∃ m, m = iv (word fun j => (minusC c d) (f j).toNat) := ⟨_, rfl⟩
  have M4 : Aside0 (∀ W, Calls Try.prog 33 #[.agg (blkA f), .agg (clsA (minusC c d))] W fun e w' => e = .returned (.int .u64 m4) ∧ Below W.heap.size W w') := ⟨fun W => hm4 ▸ block_Mask.calls f hf (minusC c d) W⟩
  obtain ⟨m5, hm5⟩ : ∃ m, m = iv (word fun j => (notC c) (f j).toNat) := ⟨_, rfl⟩
  have M5 : Aside0 (∀ W, Calls Try.prog 33 #[.agg (blkA f), .agg (clsA (notC c))] W fun e w' => e = .returned (.int .u64 m5) ∧ Below W.heap.size W w') := ⟨fun W => hm5 ▸ block_Mask.calls f hf (notC c) W⟩
  have J : Aside0 (∀ W, Calls Try.prog 25 #[.agg (clsA c), .agg (clsA d)] W fun e w' => e = .returned (.agg (clsA (joinC c d))) ∧ Below W.heap.size W w') := ⟨fun W => block_Join.calls c d W⟩
  have MI : Aside0 (∀ W, Calls Try.prog 27 #[.agg (clsA c), .agg (clsA d)] W fun e w' => e = .returned (.agg (clsA (minusC c d))) ∧ Below W.heap.size W w') := ⟨fun W => block_Minus.calls c d W⟩
  have NO : Aside0 (∀ W, Calls Try.prog 29 #[.agg (clsA c)] W fun e w' => e = .returned (.agg (clsA (notC c))) ∧ Below W.heap.size W w') := ⟨fun W => block_Not.calls c W⟩
  have OR : bits .or .u64 m1 m2 = m3 := by rw [hm1, hm2, hm3, mask_or]; rfl
  have AN : bits .andNot .u64 m1 m2 = m4 := by rw [hm1, hm2, hm4, mask_andNot]; rfl
  have XO : bits .xor .u64 18446744073709551615 m1 = m5 := by rw [hm1, hm5, mask_not]; rfl
  have XP : bits .xor .u64 IntKind.u64.max m1 = m5 := XO
  have XQ : (m5 != bits .xor .u64 (if IntKind.u64.signed = true then -1 else IntKind.u64.max) m1) = false := bne_eq_false_iff_eq.mpr XO.symm
  have XR : (m5 != bits .xor .u64 IntKind.u64.max m1) = false := bne_eq_false_iff_eq.mpr XO.symm
  have HF := Aside0.mk hf
  have HM := Aside0.mk hm1
  clear hf hm1 hm2 hm3 hm4 hm5
  go_enter Try.func10, Try.ntmps10
  go_upto_region 1 with (first
    | ((with_reducible refine gate_dst (N := 3) rfl ?_); refine ev_alloc HB rfl (blkA f) 26 ?hr ?_; (case hr => first | (go_simp; done) | (go_simp; rfl)); intro g3 w1 G_g3 GE_g3 B_g3 HBn K_g3; clear HB; have HB := HBn; clear HBn)
    | ((with_reducible refine gate_dst (N := 4) rfl ?_); refine ev_alloc HB rfl (clsA (c)) 33 ?hr ?_; (case hr => first | (go_simp; done) | (go_simp; rfl)); intro g4 w2 G_g4 GE_g4 B_g4 HBn K_g4; clear HB; have HB := HBn; clear HBn)
    | ((with_reducible refine gate_dst (N := 5) rfl ?_); refine ev_alloc HB rfl (clsA (d)) 33 ?hr ?_; (case hr => first | (go_simp; done) | (go_simp; rfl)); intro g5 w3 G_g5 GE_g5 B_g5 HBn K_g5; clear HB; have HB := HBn; clear HBn))
  have t3 := (B_g3.below K_g4.out).below K_g5.out
  have t4 := B_g4.below K_g5.out
  clear B_g3 B_g4 K_g3 K_g4 K_g5 G_g3 G_g4 G_g5
  go_upto_region 3 with (first
    | (go_at_call 37; (with_reducible refine (quarrylaw02_awake.calls _).mono ?_); rintro e w4 ⟨rfl, hb4⟩; have s3 := t3.below hb4; have s4 := t4.below hb4; have s5 := B_g5.below hb4; have HBn := HB.step hb4; clear HB hb4; have HB := HBn; clear HBn t3 t4 B_g5))
  try simp only [Act.put, List.setIfInBounds_toArray, List.set_cons_zero, List.set_cons_succ]
  refine wp_region_noPanic ?_
  refine wp_region_held_drew (S := fun W => Blk W g3 (blkA f) 26 ∧ Blk W g4 (clsA c) 33 ∧ Blk W g5 (clsA d) 33 ∧ BelowH w W) (by kernel_rfl) ⟨s3.drew, s4.drew, s5.drew, HB.drew⟩ (fun hS => ?_)
  clear s3 s4 s5 HB
  refine wpAnyH_take (i := 0) (oi := { dst := some 12, op := Go.Op.load 26 (Go.Operand.tmp 3), type := 26, pos := "outright.go:21", after := #[], guard := none }) rfl (by kernel_rfl) (by kernel_rfl) (by kernel_rfl) (fun _ _ _ h => h) (rg_load (by rfl) (fun _ hS => hS.1) 26 _ rfl rfl Try.underlying26 rfl (size64' _)) hS ?_
  try simp only [Act.put, List.setIfInBounds_toArray, List.set_cons_zero, List.set_cons_succ]
  refine wpAnyH_take (i := 1) (oi := { dst := some 13, op := Go.Op.load 33 (Go.Operand.tmp 4), type := 33, pos := "outright.go:21", after := #[], guard := none }) rfl (by kernel_rfl) (by kernel_rfl) (by kernel_rfl) (fun _ _ _ h => h) (rg_load (by rfl) (fun _ hS => hS.2.1) 33 _ rfl rfl Try.underlying33 rfl (sizeC' _)) hS ?_
  try simp only [Act.put, List.setIfInBounds_toArray, List.set_cons_zero, List.set_cons_succ]
  refine wpAnyH_take (i := 3) (oi := { dst := some 15, op := Go.Op.load 26 (Go.Operand.tmp 3), type := 26, pos := "outright.go:21", after := #[], guard := none }) rfl (by kernel_rfl) (by kernel_rfl) (by kernel_rfl) (fun _ _ _ h => h) (rg_load (by rfl) (fun _ hS => hS.1) 26 _ rfl rfl Try.underlying26 rfl (size64' _)) hS ?_
  try simp only [Act.put, List.setIfInBounds_toArray, List.set_cons_zero, List.set_cons_succ]
  refine wpAnyH_take (i := 4) (oi := { dst := some 16, op := Go.Op.load 33 (Go.Operand.tmp 5), type := 33, pos := "outright.go:21", after := #[], guard := none }) rfl (by kernel_rfl) (by kernel_rfl) (by kernel_rfl) (fun _ _ _ h => h) (rg_load (by rfl) (fun _ hS => hS.2.2.1) 33 _ rfl rfl Try.underlying33 rfl (sizeC' _)) hS ?_
  try simp only [Act.put, List.setIfInBounds_toArray, List.set_cons_zero, List.set_cons_succ]
  refine wpAnyH_ready (rs := [2]) (by kernel_rfl) (by simp) ?_
  refine AllReadyH.cons (o := { dst := some 14, op := Go.Op.call { callee := Go.Callee.value (Go.Operand.func 33), args := #[Go.Operand.tmp 12, Go.Operand.tmp 13], argTypes := #[26, 33] }, type := 30, pos := "outright.go:21", after := #[{ on := 0, ground := Go.Ground.data }, { on := 1, ground := Go.Ground.data }], guard := none }) rfl (fun K hK => ?_) ?_
  · obtain ⟨s3, s4, s5, HB⟩ := hS
    refine rg_call (by rfl) _ _ (.int .u64 m1) (by first | (go_simp; done) | (go_simp; rfl)) (M1.out _) ?_
    intro W' hb
    refine hK.out _ _ ⟨s3.below hb.out, s4.below hb.out, s5.below hb.out, HB.step hb.out⟩ (fun hS => ?_)
    clear hK K hb s3 s4 s5 HB
    try simp only [Act.put, List.setIfInBounds_toArray, List.set_cons_zero, List.set_cons_succ]
    refine wpAnyH_ready (rs := [5]) (by kernel_rfl) (by simp) ?_
    refine AllReadyH.cons (o := { dst := some 17, op := Go.Op.call { callee := Go.Callee.value (Go.Operand.func 33), args := #[Go.Operand.tmp 15, Go.Operand.tmp 16], argTypes := #[26, 33] }, type := 30, pos := "outright.go:21", after := #[{ on := 3, ground := Go.Ground.data }, { on := 4, ground := Go.Ground.data }, { on := 2, ground := Go.Ground.chain }], guard := none }) rfl (fun K hK => ?_) ?_
    · obtain ⟨s3, s4, s5, HB⟩ := hS
      refine rg_call (by rfl) _ _ (.int .u64 m2) (by first | (go_simp; done) | (go_simp; rfl)) (M2.out _) ?_
      intro W' hb
      refine hK.out _ _ ⟨s3.below hb.out, s4.below hb.out, s5.below hb.out, HB.step hb.out⟩ (fun hS => ?_)
      clear hK K hb s3 s4 s5 HB
      try simp only [Act.put, List.setIfInBounds_toArray, List.set_cons_zero, List.set_cons_succ]
      refine' wpAnyH_take (i := 6) (oi := { dst := some 7, op := Go.Op.assign (Go.Operand.tmp 14), type := 30, pos := "outright.go:21", after := #[{ on := 2, ground := Go.Ground.data }, { on := 5, ground := Go.Ground.chain }, { on := 0, ground := Go.Ground.phase }, { on := 1, ground := Go.Ground.phase }, { on := 2, ground := Go.Ground.phase }, { on := 3, ground := Go.Ground.textOnly Go.Departure.lateStores }, { on := 4, ground := Go.Ground.textOnly Go.Departure.lateStores }, { on := 5, ground := Go.Ground.textOnly Go.Departure.lateStoresUnsure }], guard := none }) rfl (by kernel_rfl) (by kernel_rfl) (by kernel_rfl) (fun _ _ _ h => h) (Or.inl ⟨by rfl, ?hy45⟩) hS ?rest45
      case hy45 => (intro w hSw; (try dsimp only at hSw); first | (go_simp; done) | (go_simp; with_reducible rfl))
      try simp only [Act.put, List.setIfInBounds_toArray, List.set_cons_zero, List.set_cons_succ]
      refine' wpAnyH_take (i := 7) (oi := { dst := some 8, op := Go.Op.assign (Go.Operand.tmp 17), type := 30, pos := "outright.go:21", after := #[{ on := 5, ground := Go.Ground.data }, { on := 6, ground := Go.Ground.chain }, { on := 0, ground := Go.Ground.phase }, { on := 1, ground := Go.Ground.phase }, { on := 2, ground := Go.Ground.phase }, { on := 3, ground := Go.Ground.phase }, { on := 4, ground := Go.Ground.phase }, { on := 5, ground := Go.Ground.phase }, { on := 6, ground := Go.Ground.phase }], guard := none }) rfl (by kernel_rfl) (by kernel_rfl) (by kernel_rfl) (fun _ _ _ h => h) (Or.inl ⟨by rfl, ?hy46⟩) hS ?rest46
      case hy46 => (intro w hSw; (try dsimp only at hSw); first | (go_simp; done) | (go_simp; with_reducible rfl))
      try simp only [Act.put, List.setIfInBounds_toArray, List.set_cons_zero, List.set_cons_succ]
      refine wpAnyH_done (by kernel_rfl) ?_ _
      refine NoPanic.normal ?_
      obtain ⟨s3, s4, s5, HB⟩ := hS
      go_upto_region 4 with (fail)
      try simp only [Act.put, List.setIfInBounds_toArray, List.set_cons_zero, List.set_cons_succ]
      refine wp_region_noPanic ?_
      refine wp_region_held_drew (S := fun W => Blk W g3 (blkA f) 26 ∧ Blk W g4 (clsA c) 33 ∧ Blk W g5 (clsA d) 33 ∧ BelowH w W) (by kernel_rfl) ⟨s3.drew, s4.drew, s5.drew, HB.drew⟩ (fun hS => ?_)
      clear s3 s4 s5 HB
      refine wpAnyH_take (i := 0) (oi := { dst := some 18, op := Go.Op.load 26 (Go.Operand.tmp 3), type := 26, pos := "outright.go:22", after := #[], guard := none }) rfl (by kernel_rfl) (by kernel_rfl) (by kernel_rfl) (fun _ _ _ h => h) (rg_load (by rfl) (fun _ hS => hS.1) 26 _ rfl rfl Try.underlying26 rfl (size64' _)) hS ?_
      try simp only [Act.put, List.setIfInBounds_toArray, List.set_cons_zero, List.set_cons_succ]
      refine wpAnyH_take (i := 1) (oi := { dst := some 19, op := Go.Op.load 33 (Go.Operand.tmp 4), type := 33, pos := "outright.go:22", after := #[], guard := none }) rfl (by kernel_rfl) (by kernel_rfl) (by kernel_rfl) (fun _ _ _ h => h) (rg_load (by rfl) (fun _ hS => hS.2.1) 33 _ rfl rfl Try.underlying33 rfl (sizeC' _)) hS ?_
      try simp only [Act.put, List.setIfInBounds_toArray, List.set_cons_zero, List.set_cons_succ]
      refine wpAnyH_take (i := 2) (oi := { dst := some 20, op := Go.Op.load 33 (Go.Operand.tmp 5), type := 33, pos := "outright.go:22", after := #[], guard := none }) rfl (by kernel_rfl) (by kernel_rfl) (by kernel_rfl) (fun _ _ _ h => h) (rg_load (by rfl) (fun _ hS => hS.2.2.1) 33 _ rfl rfl Try.underlying33 rfl (sizeC' _)) hS ?_
      try simp only [Act.put, List.setIfInBounds_toArray, List.set_cons_zero, List.set_cons_succ]
      refine' wpAnyH_take (i := 5) (oi := { dst := some 23, op := Go.Op.move (Go.Operand.tmp 7), type := 30, pos := "outright.go:22", after := #[], guard := none }) rfl (by kernel_rfl) (by kernel_rfl) (by kernel_rfl) (fun _ _ _ h => h) (Or.inl ⟨by rfl, ?hy30⟩) hS ?rest30
      case hy30 => (intro w hSw; (try dsimp only at hSw); first | (go_simp; done) | (go_simp; with_reducible rfl))
      try simp only [Act.put, List.setIfInBounds_toArray, List.set_cons_zero, List.set_cons_succ]
      refine' wpAnyH_take (i := 6) (oi := { dst := some 24, op := Go.Op.move (Go.Operand.tmp 8), type := 30, pos := "outright.go:22", after := #[], guard := none }) rfl (by kernel_rfl) (by kernel_rfl) (by kernel_rfl) (fun _ _ _ h => h) (Or.inl ⟨by rfl, ?hy31⟩) hS ?rest31
      case hy31 => (intro w hSw; (try dsimp only at hSw); first | (go_simp; done) | (go_simp; with_reducible rfl))
      try simp only [Act.put, List.setIfInBounds_toArray, List.set_cons_zero, List.set_cons_succ]
      refine' wpAnyH_take (i := 7) (oi := { dst := some 25, op := Go.Op.binOp Go.BinOp.or 30 (Go.Operand.tmp 23) (Go.Operand.tmp 24) 30, type := 30, pos := "outright.go:22", after := #[{ on := 5, ground := Go.Ground.data }, { on := 6, ground := Go.Ground.data }], guard := none }) rfl (by kernel_rfl) (by kernel_rfl) (by kernel_rfl) (fun _ _ _ h => h) (Or.inl ⟨by rfl, ?hy32⟩) hS ?rest32
      case hy32 => (intro w hSw; (try dsimp only at hSw); first | (go_simp; done) | (go_simp; with_reducible rfl))
      try simp only [Act.put, List.setIfInBounds_toArray, List.set_cons_zero, List.set_cons_succ]
      refine wpAnyH_ready (rs := [3]) (by kernel_rfl) (by simp) ?_
      refine AllReadyH.cons (o := { dst := some 21, op := Go.Op.call { callee := Go.Callee.value (Go.Operand.func 25), args := #[Go.Operand.tmp 19, Go.Operand.tmp 20], argTypes := #[33, 33] }, type := 33, pos := "outright.go:22", after := #[{ on := 1, ground := Go.Ground.data }, { on := 2, ground := Go.Ground.data }], guard := none }) rfl (fun K hK => ?_) ?_
      · obtain ⟨s3, s4, s5, HB⟩ := hS
        refine rg_call (by rfl) _ _ (.agg (clsA (joinC c d))) (by first | (go_simp; done) | (go_simp; rfl)) (J.out _) ?_
        intro W' hb
        refine hK.out _ _ ⟨s3.below hb.out, s4.below hb.out, s5.below hb.out, HB.step hb.out⟩ (fun hS => ?_)
        clear hK K hb s3 s4 s5 HB
        try simp only [Act.put, List.setIfInBounds_toArray, List.set_cons_zero, List.set_cons_succ]
        refine wpAnyH_ready (rs := [4]) (by kernel_rfl) (by simp) ?_
        refine AllReadyH.cons (o := { dst := some 22, op := Go.Op.call { callee := Go.Callee.value (Go.Operand.func 33), args := #[Go.Operand.tmp 18, Go.Operand.tmp 21], argTypes := #[26, 33] }, type := 30, pos := "outright.go:22", after := #[{ on := 0, ground := Go.Ground.data }, { on := 3, ground := Go.Ground.data }, { on := 3, ground := Go.Ground.chain }], guard := none }) rfl (fun K hK => ?_) ?_
        · obtain ⟨s3, s4, s5, HB⟩ := hS
          refine rg_call (by rfl) _ _ (.int .u64 m3) (by first | (go_simp; done) | (go_simp; rfl)) (M3.out _) ?_
          intro W' hb
          refine hK.out _ _ ⟨s3.below hb.out, s4.below hb.out, s5.below hb.out, HB.step hb.out⟩ (fun hS => ?_)
          clear hK K hb s3 s4 s5 HB
          try simp only [Act.put, List.setIfInBounds_toArray, List.set_cons_zero, List.set_cons_succ]
          refine' wpAnyH_take (i := 8) (oi := { dst := some 26, op := Go.Op.binOp Go.BinOp.neq 30 (Go.Operand.tmp 22) (Go.Operand.tmp 25) 30, type := 4, pos := "outright.go:22", after := #[{ on := 4, ground := Go.Ground.data }, { on := 7, ground := Go.Ground.data }], guard := none }) rfl (by kernel_rfl) (by kernel_rfl) (by kernel_rfl) (fun _ _ _ h => h) (Or.inl ⟨by rfl, ?hy33⟩) hS ?rest33
          case hy33 => (intro w hSw; (try dsimp only at hSw); first | (go_simp; done) | (go_simp; with_reducible rfl))
          try simp only [Act.put, List.setIfInBounds_toArray, List.set_cons_zero, List.set_cons_succ]
          refine' wpAnyH_take (i := 9) (oi := { dst := some 27, op := Go.Op.move (Go.Operand.tmp 26), type := 4, pos := "outright.go:22", after := #[{ on := 8, ground := Go.Ground.data }, { on := 4, ground := Go.Ground.chain }], guard := none }) rfl (by kernel_rfl) (by kernel_rfl) (by kernel_rfl) (fun _ _ _ h => h) (Or.inl ⟨by rfl, ?hy34⟩) hS ?rest34
          case hy34 => (intro w hSw; (try dsimp only at hSw); first | (go_simp; done) | (go_simp; with_reducible rfl))
          try simp only [Act.put, List.setIfInBounds_toArray, List.set_cons_zero, List.set_cons_succ]
          refine wpAnyH_take (i := 10) (oi := { dst := some 28, op := Go.Op.load 26 (Go.Operand.tmp 3), type := 26, pos := "outright.go:22", after := #[{ on := 9, ground := Go.Ground.guard }], guard := some (9, false) }) rfl (by kernel_rfl) (by kernel_rfl) (by kernel_rfl) (fun _ _ _ h => h) (rg_load (by rfl) (fun _ hS => hS.1) 26 _ rfl rfl Try.underlying26 rfl (size64' _)) hS ?_
          try simp only [Act.put, List.setIfInBounds_toArray, List.set_cons_zero, List.set_cons_succ]
          refine wpAnyH_take (i := 11) (oi := { dst := some 29, op := Go.Op.load 33 (Go.Operand.tmp 4), type := 33, pos := "outright.go:22", after := #[{ on := 9, ground := Go.Ground.guard }], guard := some (9, false) }) rfl (by kernel_rfl) (by kernel_rfl) (by kernel_rfl) (fun _ _ _ h => h) (rg_load (by rfl) (fun _ hS => hS.2.1) 33 _ rfl rfl Try.underlying33 rfl (sizeC' _)) hS ?_
          try simp only [Act.put, List.setIfInBounds_toArray, List.set_cons_zero, List.set_cons_succ]
          refine wpAnyH_take (i := 12) (oi := { dst := some 30, op := Go.Op.load 33 (Go.Operand.tmp 5), type := 33, pos := "outright.go:22", after := #[{ on := 9, ground := Go.Ground.guard }], guard := some (9, false) }) rfl (by kernel_rfl) (by kernel_rfl) (by kernel_rfl) (fun _ _ _ h => h) (rg_load (by rfl) (fun _ hS => hS.2.2.1) 33 _ rfl rfl Try.underlying33 rfl (sizeC' _)) hS ?_
          try simp only [Act.put, List.setIfInBounds_toArray, List.set_cons_zero, List.set_cons_succ]
          refine' wpAnyH_take (i := 15) (oi := { dst := some 33, op := Go.Op.move (Go.Operand.tmp 7), type := 30, pos := "outright.go:22", after := #[{ on := 9, ground := Go.Ground.guard }], guard := some (9, false) }) rfl (by kernel_rfl) (by kernel_rfl) (by kernel_rfl) (fun _ _ _ h => h) (Or.inl ⟨by rfl, ?hy35⟩) hS ?rest35
          case hy35 => (intro w hSw; (try dsimp only at hSw); first | (go_simp; done) | (go_simp; with_reducible rfl))
          try simp only [Act.put, List.setIfInBounds_toArray, List.set_cons_zero, List.set_cons_succ]
          refine' wpAnyH_take (i := 16) (oi := { dst := some 34, op := Go.Op.move (Go.Operand.tmp 8), type := 30, pos := "outright.go:22", after := #[{ on := 9, ground := Go.Ground.guard }], guard := some (9, false) }) rfl (by kernel_rfl) (by kernel_rfl) (by kernel_rfl) (fun _ _ _ h => h) (Or.inl ⟨by rfl, ?hy36⟩) hS ?rest36
          case hy36 => (intro w hSw; (try dsimp only at hSw); first | (go_simp; done) | (go_simp; with_reducible rfl))
          try simp only [Act.put, List.setIfInBounds_toArray, List.set_cons_zero, List.set_cons_succ]
          refine' wpAnyH_take (i := 17) (oi := { dst := some 35, op := Go.Op.binOp Go.BinOp.andNot 30 (Go.Operand.tmp 33) (Go.Operand.tmp 34) 30, type := 30, pos := "outright.go:22", after := #[{ on := 15, ground := Go.Ground.data }, { on := 16, ground := Go.Ground.data }, { on := 9, ground := Go.Ground.guard }], guard := some (9, false) }) rfl (by kernel_rfl) (by kernel_rfl) (by kernel_rfl) (fun _ _ _ h => h) (Or.inl ⟨by rfl, ?hy37⟩) hS ?rest37
          case hy37 => (intro w hSw; (try dsimp only at hSw); first | (go_simp; done) | (go_simp; with_reducible rfl))
          try simp only [Act.put, List.setIfInBounds_toArray, List.set_cons_zero, List.set_cons_succ]
          refine wpAnyH_ready (rs := [13]) (by kernel_rfl) (by simp) ?_
          refine AllReadyH.cons (o := { dst := some 31, op := Go.Op.call { callee := Go.Callee.value (Go.Operand.func 27), args := #[Go.Operand.tmp 29, Go.Operand.tmp 30], argTypes := #[33, 33] }, type := 33, pos := "outright.go:22", after := #[{ on := 11, ground := Go.Ground.data }, { on := 12, ground := Go.Ground.data }, { on := 9, ground := Go.Ground.chain }, { on := 9, ground := Go.Ground.guard }], guard := some (9, false) }) rfl (fun K hK => ?_) ?_
          · obtain ⟨s3, s4, s5, HB⟩ := hS
            refine rg_call (by rfl) _ _ (.agg (clsA (minusC c d))) (by first | (go_simp; done) | (go_simp; rfl)) (MI.out _) ?_
            intro W' hb
            refine hK.out _ _ ⟨s3.below hb.out, s4.below hb.out, s5.below hb.out, HB.step hb.out⟩ (fun hS => ?_)
            clear hK K hb s3 s4 s5 HB
            try simp only [Act.put, List.setIfInBounds_toArray, List.set_cons_zero, List.set_cons_succ]
            refine wpAnyH_ready (rs := [14]) (by kernel_rfl) (by simp) ?_
            refine AllReadyH.cons (o := { dst := some 32, op := Go.Op.call { callee := Go.Callee.value (Go.Operand.func 33), args := #[Go.Operand.tmp 28, Go.Operand.tmp 31], argTypes := #[26, 33] }, type := 30, pos := "outright.go:22", after := #[{ on := 10, ground := Go.Ground.data }, { on := 13, ground := Go.Ground.data }, { on := 13, ground := Go.Ground.chain }, { on := 9, ground := Go.Ground.guard }], guard := some (9, false) }) rfl (fun K hK => ?_) ?_
            · obtain ⟨s3, s4, s5, HB⟩ := hS
              refine rg_call (by rfl) _ _ (.int .u64 m4) (by first | (go_simp; done) | (go_simp; rfl)) (M4.out _) ?_
              intro W' hb
              refine hK.out _ _ ⟨s3.below hb.out, s4.below hb.out, s5.below hb.out, HB.step hb.out⟩ (fun hS => ?_)
              clear hK K hb s3 s4 s5 HB
              try simp only [Act.put, List.setIfInBounds_toArray, List.set_cons_zero, List.set_cons_succ]
              refine' wpAnyH_take (i := 18) (oi := { dst := some 36, op := Go.Op.binOp Go.BinOp.neq 30 (Go.Operand.tmp 32) (Go.Operand.tmp 35) 30, type := 4, pos := "outright.go:22", after := #[{ on := 14, ground := Go.Ground.data }, { on := 17, ground := Go.Ground.data }, { on := 9, ground := Go.Ground.guard }], guard := some (9, false) }) rfl (by kernel_rfl) (by kernel_rfl) (by kernel_rfl) (fun _ _ _ h => h) (Or.inl ⟨by rfl, ?hy38⟩) hS ?rest38
              case hy38 => (intro w hSw; (try dsimp only at hSw); first | (go_simp; done) | (go_simp; with_reducible rfl))
              try simp only [Act.put, List.setIfInBounds_toArray, List.set_cons_zero, List.set_cons_succ]
              refine' wpAnyH_take (i := 19) (oi := { dst := some 37, op := Go.Op.pick (Go.Operand.tmp 27) (Go.Operand.const (Go.Value.bool true)) (Go.Operand.tmp 36), type := 4, pos := "outright.go:22", after := #[{ on := 9, ground := Go.Ground.data }, { on := 18, ground := Go.Ground.data }], guard := none }) rfl (by kernel_rfl) (by kernel_rfl) (by kernel_rfl) (fun _ _ _ h => h) (Or.inl ⟨by rfl, ?hy39⟩) hS ?rest39
              case hy39 => (intro w hSw; (try dsimp only at hSw); first | (go_simp; done) | (go_simp; with_reducible rfl))
              try simp only [Act.put, List.setIfInBounds_toArray, List.set_cons_zero, List.set_cons_succ]
              refine' wpAnyH_take (i := 20) (oi := { dst := some 38, op := Go.Op.move (Go.Operand.tmp 37), type := 4, pos := "outright.go:22", after := #[{ on := 19, ground := Go.Ground.data }, { on := 14, ground := Go.Ground.chain }], guard := none }) rfl (by kernel_rfl) (by kernel_rfl) (by kernel_rfl) (fun _ _ _ h => h) (Or.inl ⟨by rfl, ?hy40⟩) hS ?rest40
              case hy40 => (intro w hSw; (try dsimp only at hSw); first | (go_simp; done) | (go_simp; with_reducible rfl))
              try simp only [Act.put, List.setIfInBounds_toArray, List.set_cons_zero, List.set_cons_succ]
              refine wpAnyH_take (i := 21) (oi := { dst := some 39, op := Go.Op.load 26 (Go.Operand.tmp 3), type := 26, pos := "outright.go:22", after := #[{ on := 20, ground := Go.Ground.guard }], guard := some (20, false) }) rfl (by kernel_rfl) (by kernel_rfl) (by kernel_rfl) (fun _ _ _ h => h) (rg_load (by rfl) (fun _ hS => hS.1) 26 _ rfl rfl Try.underlying26 rfl (size64' _)) hS ?_
              try simp only [Act.put, List.setIfInBounds_toArray, List.set_cons_zero, List.set_cons_succ]
              refine wpAnyH_take (i := 22) (oi := { dst := some 40, op := Go.Op.load 33 (Go.Operand.tmp 4), type := 33, pos := "outright.go:22", after := #[{ on := 20, ground := Go.Ground.guard }], guard := some (20, false) }) rfl (by kernel_rfl) (by kernel_rfl) (by kernel_rfl) (fun _ _ _ h => h) (rg_load (by rfl) (fun _ hS => hS.2.1) 33 _ rfl rfl Try.underlying33 rfl (sizeC' _)) hS ?_
              try simp only [Act.put, List.setIfInBounds_toArray, List.set_cons_zero, List.set_cons_succ]
              refine' wpAnyH_take (i := 25) (oi := { dst := some 43, op := Go.Op.move (Go.Operand.tmp 7), type := 30, pos := "outright.go:22", after := #[{ on := 20, ground := Go.Ground.guard }], guard := some (20, false) }) rfl (by kernel_rfl) (by kernel_rfl) (by kernel_rfl) (fun _ _ _ h => h) (Or.inl ⟨by rfl, ?hy41⟩) hS ?rest41
              case hy41 => (intro w hSw; (try dsimp only at hSw); first | (go_simp; done) | (go_simp; with_reducible rfl))
              try simp only [Act.put, List.setIfInBounds_toArray, List.set_cons_zero, List.set_cons_succ]
              refine' wpAnyH_take (i := 26) (oi := { dst := some 44, op := Go.Op.unOp Go.UnOp.xor 30 (Go.Operand.tmp 43), type := 30, pos := "outright.go:22", after := #[{ on := 25, ground := Go.Ground.data }, { on := 20, ground := Go.Ground.guard }], guard := some (20, false) }) rfl (by kernel_rfl) (by kernel_rfl) (by kernel_rfl) (fun _ _ _ h => h) (Or.inl ⟨by rfl, ?hy42⟩) hS ?rest42
              case hy42 => (intro w hSw; (try dsimp only at hSw); first | (go_simp; done) | (go_simp; with_reducible rfl))
              try simp only [Act.put, List.setIfInBounds_toArray, List.set_cons_zero, List.set_cons_succ]
              refine wpAnyH_ready (rs := [23]) (by kernel_rfl) (by simp) ?_
              refine AllReadyH.cons (o := { dst := some 41, op := Go.Op.call { callee := Go.Callee.value (Go.Operand.func 29), args := #[Go.Operand.tmp 40], argTypes := #[33] }, type := 33, pos := "outright.go:22", after := #[{ on := 22, ground := Go.Ground.data }, { on := 20, ground := Go.Ground.chain }, { on := 20, ground := Go.Ground.guard }], guard := some (20, false) }) rfl (fun K hK => ?_) ?_
              · obtain ⟨s3, s4, s5, HB⟩ := hS
                refine rg_call (by rfl) _ _ (.agg (clsA (notC c))) (by first | (go_simp; done) | (go_simp; rfl)) (NO.out _) ?_
                intro W' hb
                refine hK.out _ _ ⟨s3.below hb.out, s4.below hb.out, s5.below hb.out, HB.step hb.out⟩ (fun hS => ?_)
                clear hK K hb s3 s4 s5 HB
                try simp only [Act.put, List.setIfInBounds_toArray, List.set_cons_zero, List.set_cons_succ]
                refine wpAnyH_ready (rs := [24]) (by kernel_rfl) (by simp) ?_
                refine AllReadyH.cons (o := { dst := some 42, op := Go.Op.call { callee := Go.Callee.value (Go.Operand.func 33), args := #[Go.Operand.tmp 39, Go.Operand.tmp 41], argTypes := #[26, 33] }, type := 30, pos := "outright.go:22", after := #[{ on := 21, ground := Go.Ground.data }, { on := 23, ground := Go.Ground.data }, { on := 23, ground := Go.Ground.chain }, { on := 20, ground := Go.Ground.guard }], guard := some (20, false) }) rfl (fun K hK => ?_) ?_
                · obtain ⟨s3, s4, s5, HB⟩ := hS
                  refine rg_call (by rfl) _ _ (.int .u64 m5) (by first | (go_simp; done) | (go_simp; rfl)) (M5.out _) ?_
                  intro W' hb
                  refine hK.out _ _ ⟨s3.below hb.out, s4.below hb.out, s5.below hb.out, HB.step hb.out⟩ (fun hS => ?_)
                  clear hK K hb s3 s4 s5 HB
                  try simp only [Act.put, List.setIfInBounds_toArray, List.set_cons_zero, List.set_cons_succ]
                  refine' wpAnyH_take (i := 27) (oi := { dst := some 45, op := Go.Op.binOp Go.BinOp.neq 30 (Go.Operand.tmp 42) (Go.Operand.tmp 44) 30, type := 4, pos := "outright.go:22", after := #[{ on := 24, ground := Go.Ground.data }, { on := 26, ground := Go.Ground.data }, { on := 20, ground := Go.Ground.guard }], guard := some (20, false) }) rfl (by kernel_rfl) (by kernel_rfl) (by kernel_rfl) (fun _ _ _ h => h) (Or.inl ⟨by rfl, ?hy43⟩) hS ?rest43
                  case hy43 => (intro w hSw; (try dsimp only at hSw); first | (go_simp; done) | (go_simp; with_reducible rfl))
                  try simp only [Act.put, List.setIfInBounds_toArray, List.set_cons_zero, List.set_cons_succ]
                  refine' wpAnyH_take (i := 28) (oi := { dst := some 46, op := Go.Op.pick (Go.Operand.tmp 38) (Go.Operand.const (Go.Value.bool true)) (Go.Operand.tmp 45), type := 4, pos := "outright.go:22", after := #[{ on := 20, ground := Go.Ground.data }, { on := 27, ground := Go.Ground.data }], guard := none }) rfl (by kernel_rfl) (by kernel_rfl) (by kernel_rfl) (fun _ _ _ h => h) (Or.inl ⟨by rfl, ?hy44⟩) hS ?rest44
                  case hy44 => (intro w hSw; (try dsimp only at hSw); first | (go_simp; done) | (go_simp; with_reducible rfl))
                  try simp only [Act.put, List.setIfInBounds_toArray, List.set_cons_zero, List.set_cons_succ]
                  refine wpAnyH_done (by kernel_rfl) ?_ _
                  refine NoPanic.normal ?_
                  obtain ⟨s3, s4, s5, HB⟩ := hS
                  go_upto_region 6 with (fail)
                  clear OR AN XO XP XQ XR M1 M2 M3 M4 M5 J MI NO
                  go_wp2
                  go_loopw [9] (fun v9 wr => ∃ i : Nat, i ≤ 64 ∧ v9 = .int .i64 i ∧ Blk wr g3 (blkA f) 26 ∧ Blk wr g4 (clsA c) 33 ∧ Blk wr g5 (clsA d) 33 ∧ BelowH w wr) (fun v9 _ => 64 - (intOf v9).toNat)
                  case atStart => exact ⟨0, by omega, rfl, s3, s4, s5, HB⟩
                  case round =>
                    clear s3 s4 s5 HB
                    obtain ⟨i, hi, rfl, s3, s4, s5, HB⟩ := hrel
                    by_cases hlt : i < 64
                    · have KI := Aside0.mk hlt
                      have h1 : (i : Int) < 64 := by omega
                      obtain ⟨x, hx⟩ : ∃ x : Nat, f i = (x : Int) := ⟨(f i).toNat, by have := HF.out i; omega⟩
                      have hx6 : x < 256 := by have := HF.out i; omega
                      have cx := s3.cell (blkA_get f hlt)
                      rw [hx] at cx
                      obtain ⟨a, ha⟩ : ∃ a, a = c x := ⟨_, rfl⟩
                      obtain ⟨e1, he1⟩ : ∃ e, e = iv (word fun j => decide (f j = (x : Int))) := ⟨_, rfl⟩
                      obtain ⟨t, ht⟩ : ∃ t, t = inT (⟨#[UInt8.ofNat x]⟩ : ByteArray) 1 := ⟨_, rfl⟩
                      have HC : Aside0 (∀ W, Calls Try.prog 22 #[.agg (clsA c), .int .u8 (x : Int)] W fun e w' => e = .returned (.bool a) ∧ Below W.heap.size W w') := ⟨fun W => ha ▸ block_Has.calls c x hx6 W⟩
                      have E1 : Aside0 (∀ W, Calls Try.prog 34 #[.agg (blkA f), .int .u8 (x : Int)] W fun e w' => e = .returned (.int .u64 e1) ∧ Below W.heap.size W w') := ⟨fun W => he1 ▸ block_Equal.calls f HF.out (x : Int) (by omega) (by omega) W⟩
                      have OX : Aside0 (∀ W, Calls Try.prog 21 #[.string (⟨#[UInt8.ofNat x]⟩ : ByteArray)] W fun e w' => e = .returned (.agg (clsA t)) ∧ Below W.heap.size W w') := ⟨fun W => ht ▸ block_Of.calls (⟨#[UInt8.ofNat x]⟩ : ByteArray) W (by show 1 ≤ _; decide)⟩
                      have EX : Aside0 (∀ W, Calls Try.prog 33 #[.agg (blkA f), .agg (clsA t)] W fun e w' => e = .returned (.int .u64 e1) ∧ Below W.heap.size W w') := ⟨fun W => by
                        have h := block_Mask.calls f HF.out t W
                        rw [show (word fun j => t (f j).toNat) = word fun j => decide (f j = (x : Int)) from word_ext fun j _ => by
                          rw [ht, one_byte x hx6]
                          have := HF.out j
                          exact decide_eq_decide.mpr (by omega), ← he1] at h
                        exact h⟩
                      have B1 : (bits .and .u64 (m1 / 2 ^ i) 1 == 1) = a := by
                        rw [HM.out, bit_at _ hlt, ha]
                        show c (f i).toNat = c x
                        rw [hx]
                        rfl
                      have B2 : bits .and .u64 (e1 / 2 ^ i) 1 = 1 := by
                        have := bit_at (fun j => decide (f j = (x : Int))) hlt
                        rw [← he1, hx, decide_eq_true rfl] at this
                        exact beq_iff_eq.mp this
                      have HXX := Aside0.mk (show (((UInt8.ofNat x).toNat : Nat) : Int) = (x : Int) from u8_of hx6)
                      have hcv : IntKind.u64.wrap (i : Int) = (i : Int) := u64_wrap hlt
                      have hmn : min i 64 = i := by omega
                      have B3 : (!(a == (bits .and .u64 (m1 / 2 ^ i) 1 == 1))) = false := by rw [B1]; simp
                      clear hx hx6 hlt hi ha he1 ht
                      go_upto_region 9 with (fail)
                      try simp only [Act.put, List.setIfInBounds_toArray, List.set_cons_zero, List.set_cons_succ]
                      refine wp_region_noPanic ?_
                      refine wp_region_held_drew (S := fun W => Blk W g3 (blkA f) 26 ∧ Blk W g4 (clsA c) 33 ∧ Blk W g5 (clsA d) 33 ∧ W.cell? ⟨g3, i, none⟩ = some (.int .u8 (x : Int)) ∧ BelowH w W) (by kernel_rfl) ⟨s3.drew, s4.drew, s5.drew, pw_cell_below (below_drew (Below.refl _ _)) cx, HB.drew⟩ (fun hS => ?_)
                      clear s3 s4 s5 cx HB
                      refine wpAnyH_take (i := 0) (oi := { dst := some 51, op := Go.Op.load 33 (Go.Operand.tmp 4), type := 33, pos := "outright.go:26", after := #[], guard := none }) rfl (by kernel_rfl) (by kernel_rfl) (by kernel_rfl) (fun _ _ _ h => h) (rg_load (by rfl) (fun _ hS => hS.2.1) 33 _ rfl rfl Try.underlying33 rfl (sizeC' _)) hS ?_
                      try simp only [Act.put, List.setIfInBounds_toArray, List.set_cons_zero, List.set_cons_succ]
                      refine' wpAnyH_take (i := 1) (oi := { dst := some 52, op := Go.Op.move (Go.Operand.tmp 9), type := 3, pos := "outright.go:26", after := #[], guard := none }) rfl (by kernel_rfl) (by kernel_rfl) (by kernel_rfl) (fun _ _ _ h => h) (Or.inl ⟨by rfl, ?hy10⟩) hS ?rest10
                      case hy10 => (intro w hSw; (try dsimp only at hSw); first | (go_simp; done) | (go_simp; with_reducible rfl))
                      try simp only [Act.put, List.setIfInBounds_toArray, List.set_cons_zero, List.set_cons_succ]
                      refine' wpAnyH_take (i := 2) (oi := { dst := some 53, op := Go.Op.indexAddr 26 (Go.Operand.tmp 3) (Go.Operand.tmp 52), type := 0, pos := "outright.go:26", after := #[{ on := 1, ground := Go.Ground.data }], guard := none }) rfl (by kernel_rfl) (by kernel_rfl) (by kernel_rfl) (fun _ _ _ h => h) (Or.inl ⟨by rfl, ?hy11⟩) hS ?rest11
                      case hy11 => (intro w hSw; (try dsimp only at hSw); first | (go_simp; done) | (go_simp; with_reducible rfl))
                      try simp only [Act.put, List.setIfInBounds_toArray, List.set_cons_zero, List.set_cons_succ]
                      refine' wpAnyH_take (i := 3) (oi := { dst := some 54, op := Go.Op.load 5 (Go.Operand.tmp 53), type := 5, pos := "outright.go:26", after := #[{ on := 2, ground := Go.Ground.data }], guard := none }) rfl (by kernel_rfl) (by kernel_rfl) (by kernel_rfl) (fun _ _ _ h => h) (Or.inl ⟨by rfl, ?hy12⟩) hS ?rest12
                      case hy12 => (intro w hSw; (try dsimp only at hSw); first | (go_simp; done) | (go_simp; with_reducible rfl))
                      try simp only [Act.put, List.setIfInBounds_toArray, List.set_cons_zero, List.set_cons_succ]
                      refine' wpAnyH_take (i := 5) (oi := { dst := some 56, op := Go.Op.move (Go.Operand.tmp 7), type := 30, pos := "outright.go:26", after := #[], guard := none }) rfl (by kernel_rfl) (by kernel_rfl) (by kernel_rfl) (fun _ _ _ h => h) (Or.inl ⟨by rfl, ?hy13⟩) hS ?rest13
                      case hy13 => (intro w hSw; (try dsimp only at hSw); first | (go_simp; done) | (go_simp; with_reducible rfl))
                      try simp only [Act.put, List.setIfInBounds_toArray, List.set_cons_zero, List.set_cons_succ]
                      refine' wpAnyH_take (i := 6) (oi := { dst := some 57, op := Go.Op.move (Go.Operand.tmp 9), type := 3, pos := "outright.go:26", after := #[], guard := none }) rfl (by kernel_rfl) (by kernel_rfl) (by kernel_rfl) (fun _ _ _ h => h) (Or.inl ⟨by rfl, ?hy14⟩) hS ?rest14
                      case hy14 => (intro w hSw; (try dsimp only at hSw); first | (go_simp; done) | (go_simp; with_reducible rfl))
                      try simp only [Act.put, List.setIfInBounds_toArray, List.set_cons_zero, List.set_cons_succ]
                      refine' wpAnyH_take (i := 7) (oi := { dst := some 58, op := Go.Op.convert 3 52 (Go.Operand.tmp 57), type := 52, pos := "outright.go:26", after := #[{ on := 6, ground := Go.Ground.data }], guard := none }) rfl (by kernel_rfl) (by kernel_rfl) (by kernel_rfl) (fun _ _ _ h => h) (Or.inl ⟨by rfl, ?hy15⟩) hS ?rest15
                      case hy15 => (intro w hSw; (try dsimp only at hSw); first | (go_simp; done) | (go_simp; with_reducible rfl))
                      try simp only [Act.put, List.setIfInBounds_toArray, List.set_cons_zero, List.set_cons_succ]
                      refine' wpAnyH_take (i := 8) (oi := { dst := some 59, op := Go.Op.binOp Go.BinOp.shr 30 (Go.Operand.tmp 56) (Go.Operand.tmp 58) 52, type := 30, pos := "outright.go:26", after := #[{ on := 5, ground := Go.Ground.data }, { on := 7, ground := Go.Ground.data }], guard := none }) rfl (by kernel_rfl) (by kernel_rfl) (by kernel_rfl) (fun _ _ _ h => h) (Or.inl ⟨by rfl, ?hy16⟩) hS ?rest16
                      case hy16 => (intro w hSw; (try dsimp only at hSw); first | (go_simp; done) | (go_simp; with_reducible rfl))
                      try simp only [Act.put, List.setIfInBounds_toArray, List.set_cons_zero, List.set_cons_succ]
                      refine' wpAnyH_take (i := 9) (oi := { dst := some 60, op := Go.Op.binOp Go.BinOp.and 30 (Go.Operand.tmp 59) (Go.Operand.const (Go.Value.int Go.IntKind.u64 1)) 30, type := 30, pos := "outright.go:26", after := #[{ on := 8, ground := Go.Ground.data }], guard := none }) rfl (by kernel_rfl) (by kernel_rfl) (by kernel_rfl) (fun _ _ _ h => h) (Or.inl ⟨by rfl, ?hy17⟩) hS ?rest17
                      case hy17 => (intro w hSw; (try dsimp only at hSw); first | (go_simp; done) | (go_simp; with_reducible rfl))
                      try simp only [Act.put, List.setIfInBounds_toArray, List.set_cons_zero, List.set_cons_succ]
                      refine' wpAnyH_take (i := 10) (oi := { dst := some 61, op := Go.Op.binOp Go.BinOp.eql 30 (Go.Operand.tmp 60) (Go.Operand.const (Go.Value.int Go.IntKind.u64 1)) 30, type := 4, pos := "outright.go:26", after := #[{ on := 9, ground := Go.Ground.data }], guard := none }) rfl (by kernel_rfl) (by kernel_rfl) (by kernel_rfl) (fun _ _ _ h => h) (Or.inl ⟨by rfl, ?hy18⟩) hS ?rest18
                      case hy18 => (intro w hSw; (try dsimp only at hSw); first | (go_simp; done) | (go_simp; with_reducible rfl))
                      try simp only [Act.put, List.setIfInBounds_toArray, List.set_cons_zero, List.set_cons_succ]
                      refine wpAnyH_ready (rs := [4]) (by kernel_rfl) (by simp) ?_
                      refine AllReadyH.cons (o := { dst := some 55, op := Go.Op.call { callee := Go.Callee.value (Go.Operand.func 22), args := #[Go.Operand.tmp 51, Go.Operand.tmp 54], argTypes := #[33, 5] }, type := 4, pos := "outright.go:26", after := #[{ on := 0, ground := Go.Ground.data }, { on := 3, ground := Go.Ground.data }], guard := none }) rfl (fun K hK => ?_) ?_
                      · obtain ⟨s3, s4, s5, cx, HB⟩ := hS
                        refine rg_call (by rfl) _ _ (.bool a) (by first | (go_simp; done) | (go_simp; rfl)) (HC.out _) ?_
                        intro W' hb
                        refine hK.out _ _ ⟨s3.below hb.out, s4.below hb.out, s5.below hb.out, pw_cell_below hb.out cx, HB.step hb.out⟩ (fun hS => ?_)
                        clear hK K hb s3 s4 s5 cx HB
                        try simp only [Act.put, List.setIfInBounds_toArray, List.set_cons_zero, List.set_cons_succ]
                        refine' wpAnyH_take (i := 11) (oi := { dst := some 62, op := Go.Op.binOp Go.BinOp.neq 4 (Go.Operand.tmp 55) (Go.Operand.tmp 61) 4, type := 4, pos := "outright.go:26", after := #[{ on := 4, ground := Go.Ground.data }, { on := 10, ground := Go.Ground.data }], guard := none }) rfl (by kernel_rfl) (by kernel_rfl) (by kernel_rfl) (fun _ _ _ h => h) (Or.inl ⟨by rfl, ?hy19⟩) hS ?rest19
                        case hy19 => (intro w hSw; (try dsimp only at hSw); first | (go_simp; done) | (go_simp; with_reducible rfl))
                        try simp only [Act.put, List.setIfInBounds_toArray, List.set_cons_zero, List.set_cons_succ]
                        refine' wpAnyH_take (i := 12) (oi := { dst := some 63, op := Go.Op.move (Go.Operand.tmp 62), type := 4, pos := "outright.go:26", after := #[{ on := 11, ground := Go.Ground.data }, { on := 4, ground := Go.Ground.chain }], guard := none }) rfl (by kernel_rfl) (by kernel_rfl) (by kernel_rfl) (fun _ _ _ h => h) (Or.inl ⟨by rfl, ?hy20⟩) hS ?rest20
                        case hy20 => (intro w hSw; (try dsimp only at hSw); first | (go_simp; done) | (go_simp; with_reducible rfl))
                        try simp only [Act.put, List.setIfInBounds_toArray, List.set_cons_zero, List.set_cons_succ]
                        refine wpAnyH_take (i := 13) (oi := { dst := some 64, op := Go.Op.load 26 (Go.Operand.tmp 3), type := 26, pos := "outright.go:26", after := #[{ on := 12, ground := Go.Ground.guard }], guard := some (12, false) }) rfl (by kernel_rfl) (by kernel_rfl) (by kernel_rfl) (fun _ _ _ h => h) (rg_load (by rfl) (fun _ hS => hS.1) 26 _ rfl rfl Try.underlying26 rfl (size64' _)) hS ?_
                        try simp only [Act.put, List.setIfInBounds_toArray, List.set_cons_zero, List.set_cons_succ]
                        refine' wpAnyH_take (i := 14) (oi := { dst := some 65, op := Go.Op.move (Go.Operand.tmp 9), type := 3, pos := "outright.go:26", after := #[{ on := 12, ground := Go.Ground.guard }], guard := some (12, false) }) rfl (by kernel_rfl) (by kernel_rfl) (by kernel_rfl) (fun _ _ _ h => h) (Or.inl ⟨by rfl, ?hy21⟩) hS ?rest21
                        case hy21 => (intro w hSw; (try dsimp only at hSw); first | (go_simp; done) | (go_simp; with_reducible rfl))
                        try simp only [Act.put, List.setIfInBounds_toArray, List.set_cons_zero, List.set_cons_succ]
                        refine' wpAnyH_take (i := 15) (oi := { dst := some 66, op := Go.Op.indexAddr 26 (Go.Operand.tmp 3) (Go.Operand.tmp 65), type := 0, pos := "outright.go:26", after := #[{ on := 14, ground := Go.Ground.data }, { on := 12, ground := Go.Ground.guard }], guard := some (12, false) }) rfl (by kernel_rfl) (by kernel_rfl) (by kernel_rfl) (fun _ _ _ h => h) (Or.inl ⟨by rfl, ?hy22⟩) hS ?rest22
                        case hy22 => (intro w hSw; (try dsimp only at hSw); first | (go_simp; done) | (go_simp; with_reducible rfl))
                        try simp only [Act.put, List.setIfInBounds_toArray, List.set_cons_zero, List.set_cons_succ]
                        refine' wpAnyH_take (i := 16) (oi := { dst := some 67, op := Go.Op.load 5 (Go.Operand.tmp 66), type := 5, pos := "outright.go:26", after := #[{ on := 15, ground := Go.Ground.data }, { on := 12, ground := Go.Ground.guard }], guard := some (12, false) }) rfl (by kernel_rfl) (by kernel_rfl) (by kernel_rfl) (fun _ _ _ h => h) (Or.inl ⟨by rfl, ?hy23⟩) hS ?rest23
                        case hy23 => (intro w hSw; (try dsimp only at hSw); first | (go_simp; done) | (go_simp; with_reducible rfl))
                        try simp only [Act.put, List.setIfInBounds_toArray, List.set_cons_zero, List.set_cons_succ]
                        refine' wpAnyH_take (i := 18) (oi := { dst := some 69, op := Go.Op.move (Go.Operand.tmp 9), type := 3, pos := "outright.go:26", after := #[{ on := 12, ground := Go.Ground.guard }], guard := some (12, false) }) rfl (by kernel_rfl) (by kernel_rfl) (by kernel_rfl) (fun _ _ _ h => h) (Or.inl ⟨by rfl, ?hy24⟩) hS ?rest24
                        case hy24 => (intro w hSw; (try dsimp only at hSw); first | (go_simp; done) | (go_simp; with_reducible rfl))
                        try simp only [Act.put, List.setIfInBounds_toArray, List.set_cons_zero, List.set_cons_succ]
                        refine' wpAnyH_take (i := 19) (oi := { dst := some 70, op := Go.Op.convert 3 52 (Go.Operand.tmp 69), type := 52, pos := "outright.go:26", after := #[{ on := 18, ground := Go.Ground.data }, { on := 12, ground := Go.Ground.guard }], guard := some (12, false) }) rfl (by kernel_rfl) (by kernel_rfl) (by kernel_rfl) (fun _ _ _ h => h) (Or.inl ⟨by rfl, ?hy25⟩) hS ?rest25
                        case hy25 => (intro w hSw; (try dsimp only at hSw); first | (go_simp; done) | (go_simp; with_reducible rfl))
                        try simp only [Act.put, List.setIfInBounds_toArray, List.set_cons_zero, List.set_cons_succ]
                        refine wpAnyH_ready (rs := [17]) (by kernel_rfl) (by simp) ?_
                        refine AllReadyH.cons (o := { dst := some 68, op := Go.Op.call { callee := Go.Callee.value (Go.Operand.func 34), args := #[Go.Operand.tmp 64, Go.Operand.tmp 67], argTypes := #[26, 5] }, type := 30, pos := "outright.go:26", after := #[{ on := 13, ground := Go.Ground.data }, { on := 16, ground := Go.Ground.data }, { on := 12, ground := Go.Ground.chain }, { on := 12, ground := Go.Ground.guard }], guard := some (12, false) }) rfl (fun K hK => ?_) ?_
                        · obtain ⟨s3, s4, s5, cx, HB⟩ := hS
                          refine rg_call (by rfl) _ _ (.int .u64 e1) (by first | (go_simp; done) | (go_simp; rfl)) (E1.out _) ?_
                          intro W' hb
                          refine hK.out _ _ ⟨s3.below hb.out, s4.below hb.out, s5.below hb.out, pw_cell_below hb.out cx, HB.step hb.out⟩ (fun hS => ?_)
                          clear hK K hb s3 s4 s5 cx HB
                          try simp only [Act.put, List.setIfInBounds_toArray, List.set_cons_zero, List.set_cons_succ]
                          refine' wpAnyH_take (i := 20) (oi := { dst := some 71, op := Go.Op.binOp Go.BinOp.shr 30 (Go.Operand.tmp 68) (Go.Operand.tmp 70) 52, type := 30, pos := "outright.go:26", after := #[{ on := 17, ground := Go.Ground.data }, { on := 19, ground := Go.Ground.data }, { on := 12, ground := Go.Ground.guard }], guard := some (12, false) }) rfl (by kernel_rfl) (by kernel_rfl) (by kernel_rfl) (fun _ _ _ h => h) (Or.inl ⟨by rfl, ?hy26⟩) hS ?rest26
                          case hy26 => (intro w hSw; (try dsimp only at hSw); first | (go_simp; done) | (go_simp; with_reducible rfl))
                          try simp only [Act.put, List.setIfInBounds_toArray, List.set_cons_zero, List.set_cons_succ]
                          refine' wpAnyH_take (i := 21) (oi := { dst := some 72, op := Go.Op.binOp Go.BinOp.and 30 (Go.Operand.tmp 71) (Go.Operand.const (Go.Value.int Go.IntKind.u64 1)) 30, type := 30, pos := "outright.go:26", after := #[{ on := 20, ground := Go.Ground.data }, { on := 12, ground := Go.Ground.guard }], guard := some (12, false) }) rfl (by kernel_rfl) (by kernel_rfl) (by kernel_rfl) (fun _ _ _ h => h) (Or.inl ⟨by rfl, ?hy27⟩) hS ?rest27
                          case hy27 => (intro w hSw; (try dsimp only at hSw); first | (go_simp; done) | (go_simp; with_reducible rfl))
                          try simp only [Act.put, List.setIfInBounds_toArray, List.set_cons_zero, List.set_cons_succ]
                          refine' wpAnyH_take (i := 22) (oi := { dst := some 73, op := Go.Op.binOp Go.BinOp.neq 30 (Go.Operand.tmp 72) (Go.Operand.const (Go.Value.int Go.IntKind.u64 1)) 30, type := 4, pos := "outright.go:26", after := #[{ on := 21, ground := Go.Ground.data }, { on := 12, ground := Go.Ground.guard }], guard := some (12, false) }) rfl (by kernel_rfl) (by kernel_rfl) (by kernel_rfl) (fun _ _ _ h => h) (Or.inl ⟨by rfl, ?hy28⟩) hS ?rest28
                          case hy28 => (intro w hSw; (try dsimp only at hSw); first | (go_simp; done) | (go_simp; with_reducible rfl))
                          try simp only [Act.put, List.setIfInBounds_toArray, List.set_cons_zero, List.set_cons_succ]
                          refine' wpAnyH_take (i := 23) (oi := { dst := some 74, op := Go.Op.pick (Go.Operand.tmp 63) (Go.Operand.const (Go.Value.bool true)) (Go.Operand.tmp 73), type := 4, pos := "outright.go:26", after := #[{ on := 12, ground := Go.Ground.data }, { on := 22, ground := Go.Ground.data }], guard := none }) rfl (by kernel_rfl) (by kernel_rfl) (by kernel_rfl) (fun _ _ _ h => h) (Or.inl ⟨by rfl, ?hy29⟩) hS ?rest29
                          case hy29 => (intro w hSw; (try dsimp only at hSw); first | (go_simp; done) | (go_simp; with_reducible rfl))
                          try simp only [Act.put, List.setIfInBounds_toArray, List.set_cons_zero, List.set_cons_succ]
                          refine wpAnyH_done (by kernel_rfl) ?_ _
                          refine NoPanic.normal ?_
                          obtain ⟨s3, s4, s5, cx, HB⟩ := hS
                          go_upto_region 11 with (fail)
                          try simp only [Act.put, List.setIfInBounds_toArray, List.set_cons_zero, List.set_cons_succ]
                          refine wp_region_noPanic ?_
                          refine wp_region_held_drew (S := fun W => Blk W g3 (blkA f) 26 ∧ Blk W g4 (clsA c) 33 ∧ Blk W g5 (clsA d) 33 ∧ W.cell? ⟨g3, i, none⟩ = some (.int .u8 (x : Int)) ∧ BelowH w W) (by kernel_rfl) ⟨s3.drew, s4.drew, s5.drew, pw_cell_below (below_drew (Below.refl _ _)) cx, HB.drew⟩ (fun hS => ?_)
                          clear s3 s4 s5 cx HB
                          refine wpAnyH_take (i := 0) (oi := { dst := some 75, op := Go.Op.load 26 (Go.Operand.tmp 3), type := 26, pos := "outright.go:29", after := #[], guard := none }) rfl (by kernel_rfl) (by kernel_rfl) (by kernel_rfl) (fun _ _ _ h => h) (rg_load (by rfl) (fun _ hS => hS.1) 26 _ rfl rfl Try.underlying26 rfl (size64' _)) hS ?_
                          try simp only [Act.put, List.setIfInBounds_toArray, List.set_cons_zero, List.set_cons_succ]
                          refine' wpAnyH_take (i := 1) (oi := { dst := some 76, op := Go.Op.move (Go.Operand.tmp 9), type := 3, pos := "outright.go:29", after := #[], guard := none }) rfl (by kernel_rfl) (by kernel_rfl) (by kernel_rfl) (fun _ _ _ h => h) (Or.inl ⟨by rfl, ?hy1⟩) hS ?rest1
                          case hy1 => (intro w hSw; (try dsimp only at hSw); first | (go_simp; done) | (go_simp; with_reducible rfl))
                          try simp only [Act.put, List.setIfInBounds_toArray, List.set_cons_zero, List.set_cons_succ]
                          refine' wpAnyH_take (i := 2) (oi := { dst := some 77, op := Go.Op.indexAddr 26 (Go.Operand.tmp 3) (Go.Operand.tmp 76), type := 0, pos := "outright.go:29", after := #[{ on := 1, ground := Go.Ground.data }], guard := none }) rfl (by kernel_rfl) (by kernel_rfl) (by kernel_rfl) (fun _ _ _ h => h) (Or.inl ⟨by rfl, ?hy2⟩) hS ?rest2
                          case hy2 => (intro w hSw; (try dsimp only at hSw); first | (go_simp; done) | (go_simp; with_reducible rfl))
                          try simp only [Act.put, List.setIfInBounds_toArray, List.set_cons_zero, List.set_cons_succ]
                          refine' wpAnyH_take (i := 3) (oi := { dst := some 78, op := Go.Op.load 5 (Go.Operand.tmp 77), type := 5, pos := "outright.go:29", after := #[{ on := 2, ground := Go.Ground.data }], guard := none }) rfl (by kernel_rfl) (by kernel_rfl) (by kernel_rfl) (fun _ _ _ h => h) (Or.inl ⟨by rfl, ?hy3⟩) hS ?rest3
                          case hy3 => (intro w hSw; (try dsimp only at hSw); first | (go_simp; done) | (go_simp; with_reducible rfl))
                          try simp only [Act.put, List.setIfInBounds_toArray, List.set_cons_zero, List.set_cons_succ]
                          refine wpAnyH_take (i := 5) (oi := { dst := some 80, op := Go.Op.load 26 (Go.Operand.tmp 3), type := 26, pos := "outright.go:29", after := #[], guard := none }) rfl (by kernel_rfl) (by kernel_rfl) (by kernel_rfl) (fun _ _ _ h => h) (rg_load (by rfl) (fun _ hS => hS.1) 26 _ rfl rfl Try.underlying26 rfl (size64' _)) hS ?_
                          try simp only [Act.put, List.setIfInBounds_toArray, List.set_cons_zero, List.set_cons_succ]
                          refine' wpAnyH_take (i := 6) (oi := { dst := some 81, op := Go.Op.move (Go.Operand.tmp 9), type := 3, pos := "outright.go:29", after := #[], guard := none }) rfl (by kernel_rfl) (by kernel_rfl) (by kernel_rfl) (fun _ _ _ h => h) (Or.inl ⟨by rfl, ?hy4⟩) hS ?rest4
                          case hy4 => (intro w hSw; (try dsimp only at hSw); first | (go_simp; done) | (go_simp; with_reducible rfl))
                          try simp only [Act.put, List.setIfInBounds_toArray, List.set_cons_zero, List.set_cons_succ]
                          refine' wpAnyH_take (i := 7) (oi := { dst := some 82, op := Go.Op.indexAddr 26 (Go.Operand.tmp 3) (Go.Operand.tmp 81), type := 0, pos := "outright.go:29", after := #[{ on := 6, ground := Go.Ground.data }], guard := none }) rfl (by kernel_rfl) (by kernel_rfl) (by kernel_rfl) (fun _ _ _ h => h) (Or.inl ⟨by rfl, ?hy5⟩) hS ?rest5
                          case hy5 => (intro w hSw; (try dsimp only at hSw); first | (go_simp; done) | (go_simp; with_reducible rfl))
                          try simp only [Act.put, List.setIfInBounds_toArray, List.set_cons_zero, List.set_cons_succ]
                          refine' wpAnyH_take (i := 8) (oi := { dst := some 83, op := Go.Op.load 5 (Go.Operand.tmp 82), type := 5, pos := "outright.go:29", after := #[{ on := 7, ground := Go.Ground.data }], guard := none }) rfl (by kernel_rfl) (by kernel_rfl) (by kernel_rfl) (fun _ _ _ h => h) (Or.inl ⟨by rfl, ?hy6⟩) hS ?rest6
                          case hy6 => (intro w hSw; (try dsimp only at hSw); first | (go_simp; done) | (go_simp; with_reducible rfl))
                          try simp only [Act.put, List.setIfInBounds_toArray, List.set_cons_zero, List.set_cons_succ]
                          refine wpAnyH_ready (rs := [4, 9]) (by kernel_rfl) (by simp) ?_
                          refine AllReadyH.cons (o := { dst := some 79, op := Go.Op.call { callee := Go.Callee.value (Go.Operand.func 34), args := #[Go.Operand.tmp 75, Go.Operand.tmp 78], argTypes := #[26, 5] }, type := 30, pos := "outright.go:29", after := #[{ on := 0, ground := Go.Ground.data }, { on := 3, ground := Go.Ground.data }], guard := none }) rfl (fun K hK => ?_) ?_
                          · obtain ⟨s3, s4, s5, cx, HB⟩ := hS
                            refine rg_call (by rfl) _ _ (.int .u64 e1) (by first | (go_simp; done) | (go_simp; rfl)) (E1.out _) ?_
                            intro W' hb
                            refine hK.out _ _ ⟨s3.below hb.out, s4.below hb.out, s5.below hb.out, pw_cell_below hb.out cx, HB.step hb.out⟩ (fun hS => ?_)
                            clear hK K hb s3 s4 s5 cx HB
                            try simp only [Act.put, List.setIfInBounds_toArray, List.set_cons_zero, List.set_cons_succ]
                            refine wpAnyH_ready (rs := [9]) (by kernel_rfl) (by simp) ?_
                            refine AllReadyH.cons (o := { dst := some 84, op := Go.Op.buildSlice 50 1 #[(0, Go.Operand.tmp 83)], type := 50, pos := "outright.go:29", after := #[{ on := 8, ground := Go.Ground.data }], guard := none }) rfl (fun K hK => ?_) ?_
                            · obtain ⟨s3, s4, s5, cx, HB⟩ := hS
                              refine rg_lit HB (by rfl) (.int .u8 (x : Int)) 5 (by first | (go_simp; done) | (go_simp; rfl)) ?_
                              intro gN W' sN HBn hb
                              refine hK.out _ _ ⟨s3.below hb.out, s4.below hb.out, s5.below hb.out, pw_cell_below hb.out cx, HBn⟩ (fun hS => ?_)
                              clear hK K hb HBn s3 s4 s5 cx HB
                              try simp only [Act.put, List.setIfInBounds_toArray, List.set_cons_zero, List.set_cons_succ]
                              refine wpAnyH_ready (rs := [10]) (by kernel_rfl) (by simp) ?_
                              refine AllReadyH.cons (o := { dst := some 85, op := Go.Op.convert 50 9 (Go.Operand.tmp 84), type := 9, pos := "outright.go:29", after := #[{ on := 9, ground := Go.Ground.data }], guard := none }) rfl (fun K hK => ?_) ?_
                              · obtain ⟨s3, s4, s5, cx, HB⟩ := hS
                                refine rg_str1 (b := UInt8.ofNat x) (by rfl) (sN.eqA (by rw [HXX.out])) 50 9 5 _ rfl rfl Try.underlying50 Try.underlying5 Try.underlying9 ?_
                                refine hK.out _ _ ⟨s3, s4, s5, cx, HB⟩ (fun hS => ?_)
                                clear hK K sN s3 s4 s5 cx HB
                                try simp only [Act.put, List.setIfInBounds_toArray, List.set_cons_zero, List.set_cons_succ]
                                refine wpAnyH_ready (rs := [11]) (by kernel_rfl) (by simp) ?_
                                refine AllReadyH.cons (o := { dst := some 86, op := Go.Op.call { callee := Go.Callee.value (Go.Operand.func 21), args := #[Go.Operand.tmp 85], argTypes := #[9] }, type := 33, pos := "outright.go:29", after := #[{ on := 10, ground := Go.Ground.data }, { on := 4, ground := Go.Ground.chain }], guard := none }) rfl (fun K hK => ?_) ?_
                                · obtain ⟨s3, s4, s5, cx, HB⟩ := hS
                                  refine rg_call (by rfl) _ _ (.agg (clsA t)) (by first | (go_simp; done) | (go_simp; rfl)) (OX.out _) ?_
                                  intro W' hb
                                  refine hK.out _ _ ⟨s3.below hb.out, s4.below hb.out, s5.below hb.out, pw_cell_below hb.out cx, HB.step hb.out⟩ (fun hS => ?_)
                                  clear hK K hb s3 s4 s5 cx HB
                                  try simp only [Act.put, List.setIfInBounds_toArray, List.set_cons_zero, List.set_cons_succ]
                                  refine wpAnyH_ready (rs := [12]) (by kernel_rfl) (by simp) ?_
                                  refine AllReadyH.cons (o := { dst := some 87, op := Go.Op.call { callee := Go.Callee.value (Go.Operand.func 33), args := #[Go.Operand.tmp 80, Go.Operand.tmp 86], argTypes := #[26, 33] }, type := 30, pos := "outright.go:29", after := #[{ on := 5, ground := Go.Ground.data }, { on := 11, ground := Go.Ground.data }, { on := 11, ground := Go.Ground.chain }], guard := none }) rfl (fun K hK => ?_) ?_
                                  · obtain ⟨s3, s4, s5, cx, HB⟩ := hS
                                    refine rg_call (by rfl) _ _ (.int .u64 e1) (by first | (go_simp; done) | (go_simp; rfl)) (EX.out _) ?_
                                    intro W' hb
                                    refine hK.out _ _ ⟨s3.below hb.out, s4.below hb.out, s5.below hb.out, pw_cell_below hb.out cx, HB.step hb.out⟩ (fun hS => ?_)
                                    clear hK K hb s3 s4 s5 cx HB
                                    try simp only [Act.put, List.setIfInBounds_toArray, List.set_cons_zero, List.set_cons_succ]
                                    refine' wpAnyH_take (i := 13) (oi := { dst := some 88, op := Go.Op.binOp Go.BinOp.neq 30 (Go.Operand.tmp 79) (Go.Operand.tmp 87) 30, type := 4, pos := "outright.go:29", after := #[{ on := 4, ground := Go.Ground.data }, { on := 12, ground := Go.Ground.data }], guard := none }) rfl (by kernel_rfl) (by kernel_rfl) (by kernel_rfl) (fun _ _ _ h => h) (Or.inl ⟨by rfl, ?hy7⟩) hS ?rest7
                                    case hy7 => (intro w hSw; (try dsimp only at hSw); first | (go_simp; done) | (go_simp; with_reducible rfl))
                                    try simp only [Act.put, List.setIfInBounds_toArray, List.set_cons_zero, List.set_cons_succ]
                                    refine wpAnyH_done (by kernel_rfl) ?_ _
                                    refine NoPanic.normal ?_
                                    obtain ⟨s3, s4, s5, cx, HB⟩ := hS
                                    go_wp2
                                    go_roundw
                                    case rel => exact ⟨i + 1, by have := KI.out; omega, by go_num, s3, s4, s5, HB⟩
                                    case measure =>
                                      simp [intOf]
                                      have := KI.out
                                      omega
                                  exact AllReadyH.nil
                                exact AllReadyH.nil
                              exact AllReadyH.nil
                            exact AllReadyH.nil
                          refine AllReadyH.cons (o := { dst := some 84, op := Go.Op.buildSlice 50 1 #[(0, Go.Operand.tmp 83)], type := 50, pos := "outright.go:29", after := #[{ on := 8, ground := Go.Ground.data }], guard := none }) rfl (fun K hK => ?_) ?_
                          · obtain ⟨s3, s4, s5, cx, HB⟩ := hS
                            refine rg_lit HB (by rfl) (.int .u8 (x : Int)) 5 (by first | (go_simp; done) | (go_simp; rfl)) ?_
                            intro gN W' sN HBn hb
                            refine hK.out _ _ ⟨s3.below hb.out, s4.below hb.out, s5.below hb.out, pw_cell_below hb.out cx, HBn⟩ (fun hS => ?_)
                            clear hK K hb HBn s3 s4 s5 cx HB
                            try simp only [Act.put, List.setIfInBounds_toArray, List.set_cons_zero, List.set_cons_succ]
                            refine wpAnyH_ready (rs := [4, 10]) (by kernel_rfl) (by simp) ?_
                            refine AllReadyH.cons (o := { dst := some 79, op := Go.Op.call { callee := Go.Callee.value (Go.Operand.func 34), args := #[Go.Operand.tmp 75, Go.Operand.tmp 78], argTypes := #[26, 5] }, type := 30, pos := "outright.go:29", after := #[{ on := 0, ground := Go.Ground.data }, { on := 3, ground := Go.Ground.data }], guard := none }) rfl (fun K hK => ?_) ?_
                            · obtain ⟨s3, s4, s5, cx, HB⟩ := hS
                              refine rg_call (by rfl) _ _ (.int .u64 e1) (by first | (go_simp; done) | (go_simp; rfl)) (E1.out _) ?_
                              intro W' hb
                              have sN' := sN.below hb.out
                              clear sN
                              have sN := sN'
                              clear sN'
                              refine hK.out _ _ ⟨s3.below hb.out, s4.below hb.out, s5.below hb.out, pw_cell_below hb.out cx, HB.step hb.out⟩ (fun hS => ?_)
                              clear hK K hb s3 s4 s5 cx HB
                              try simp only [Act.put, List.setIfInBounds_toArray, List.set_cons_zero, List.set_cons_succ]
                              refine wpAnyH_ready (rs := [10]) (by kernel_rfl) (by simp) ?_
                              refine AllReadyH.cons (o := { dst := some 85, op := Go.Op.convert 50 9 (Go.Operand.tmp 84), type := 9, pos := "outright.go:29", after := #[{ on := 9, ground := Go.Ground.data }], guard := none }) rfl (fun K hK => ?_) ?_
                              · obtain ⟨s3, s4, s5, cx, HB⟩ := hS
                                refine rg_str1 (b := UInt8.ofNat x) (by rfl) (sN.eqA (by rw [HXX.out])) 50 9 5 _ rfl rfl Try.underlying50 Try.underlying5 Try.underlying9 ?_
                                refine hK.out _ _ ⟨s3, s4, s5, cx, HB⟩ (fun hS => ?_)
                                clear hK K sN s3 s4 s5 cx HB
                                try simp only [Act.put, List.setIfInBounds_toArray, List.set_cons_zero, List.set_cons_succ]
                                refine wpAnyH_ready (rs := [11]) (by kernel_rfl) (by simp) ?_
                                refine AllReadyH.cons (o := { dst := some 86, op := Go.Op.call { callee := Go.Callee.value (Go.Operand.func 21), args := #[Go.Operand.tmp 85], argTypes := #[9] }, type := 33, pos := "outright.go:29", after := #[{ on := 10, ground := Go.Ground.data }, { on := 4, ground := Go.Ground.chain }], guard := none }) rfl (fun K hK => ?_) ?_
                                · obtain ⟨s3, s4, s5, cx, HB⟩ := hS
                                  refine rg_call (by rfl) _ _ (.agg (clsA t)) (by first | (go_simp; done) | (go_simp; rfl)) (OX.out _) ?_
                                  intro W' hb
                                  refine hK.out _ _ ⟨s3.below hb.out, s4.below hb.out, s5.below hb.out, pw_cell_below hb.out cx, HB.step hb.out⟩ (fun hS => ?_)
                                  clear hK K hb s3 s4 s5 cx HB
                                  try simp only [Act.put, List.setIfInBounds_toArray, List.set_cons_zero, List.set_cons_succ]
                                  refine wpAnyH_ready (rs := [12]) (by kernel_rfl) (by simp) ?_
                                  refine AllReadyH.cons (o := { dst := some 87, op := Go.Op.call { callee := Go.Callee.value (Go.Operand.func 33), args := #[Go.Operand.tmp 80, Go.Operand.tmp 86], argTypes := #[26, 33] }, type := 30, pos := "outright.go:29", after := #[{ on := 5, ground := Go.Ground.data }, { on := 11, ground := Go.Ground.data }, { on := 11, ground := Go.Ground.chain }], guard := none }) rfl (fun K hK => ?_) ?_
                                  · obtain ⟨s3, s4, s5, cx, HB⟩ := hS
                                    refine rg_call (by rfl) _ _ (.int .u64 e1) (by first | (go_simp; done) | (go_simp; rfl)) (EX.out _) ?_
                                    intro W' hb
                                    refine hK.out _ _ ⟨s3.below hb.out, s4.below hb.out, s5.below hb.out, pw_cell_below hb.out cx, HB.step hb.out⟩ (fun hS => ?_)
                                    clear hK K hb s3 s4 s5 cx HB
                                    try simp only [Act.put, List.setIfInBounds_toArray, List.set_cons_zero, List.set_cons_succ]
                                    refine' wpAnyH_take (i := 13) (oi := { dst := some 88, op := Go.Op.binOp Go.BinOp.neq 30 (Go.Operand.tmp 79) (Go.Operand.tmp 87) 30, type := 4, pos := "outright.go:29", after := #[{ on := 4, ground := Go.Ground.data }, { on := 12, ground := Go.Ground.data }], guard := none }) rfl (by kernel_rfl) (by kernel_rfl) (by kernel_rfl) (fun _ _ _ h => h) (Or.inl ⟨by rfl, ?hy8⟩) hS ?rest8
                                    case hy8 => (intro w hSw; (try dsimp only at hSw); first | (go_simp; done) | (go_simp; with_reducible rfl))
                                    try simp only [Act.put, List.setIfInBounds_toArray, List.set_cons_zero, List.set_cons_succ]
                                    refine wpAnyH_done (by kernel_rfl) ?_ _
                                    refine NoPanic.normal ?_
                                    obtain ⟨s3, s4, s5, cx, HB⟩ := hS
                                    go_wp2
                                    go_roundw
                                    case rel => exact ⟨i + 1, by have := KI.out; omega, by go_num, s3, s4, s5, HB⟩
                                    case measure =>
                                      simp [intOf]
                                      have := KI.out
                                      omega
                                  exact AllReadyH.nil
                                exact AllReadyH.nil
                              exact AllReadyH.nil
                            refine AllReadyH.cons (o := { dst := some 85, op := Go.Op.convert 50 9 (Go.Operand.tmp 84), type := 9, pos := "outright.go:29", after := #[{ on := 9, ground := Go.Ground.data }], guard := none }) rfl (fun K hK => ?_) ?_
                            · obtain ⟨s3, s4, s5, cx, HB⟩ := hS
                              refine rg_str1 (b := UInt8.ofNat x) (by rfl) (sN.eqA (by rw [HXX.out])) 50 9 5 _ rfl rfl Try.underlying50 Try.underlying5 Try.underlying9 ?_
                              refine hK.out _ _ ⟨s3, s4, s5, cx, HB⟩ (fun hS => ?_)
                              clear hK K sN s3 s4 s5 cx HB
                              try simp only [Act.put, List.setIfInBounds_toArray, List.set_cons_zero, List.set_cons_succ]
                              refine wpAnyH_ready (rs := [4]) (by kernel_rfl) (by simp) ?_
                              refine AllReadyH.cons (o := { dst := some 79, op := Go.Op.call { callee := Go.Callee.value (Go.Operand.func 34), args := #[Go.Operand.tmp 75, Go.Operand.tmp 78], argTypes := #[26, 5] }, type := 30, pos := "outright.go:29", after := #[{ on := 0, ground := Go.Ground.data }, { on := 3, ground := Go.Ground.data }], guard := none }) rfl (fun K hK => ?_) ?_
                              · obtain ⟨s3, s4, s5, cx, HB⟩ := hS
                                refine rg_call (by rfl) _ _ (.int .u64 e1) (by first | (go_simp; done) | (go_simp; rfl)) (E1.out _) ?_
                                intro W' hb
                                refine hK.out _ _ ⟨s3.below hb.out, s4.below hb.out, s5.below hb.out, pw_cell_below hb.out cx, HB.step hb.out⟩ (fun hS => ?_)
                                clear hK K hb s3 s4 s5 cx HB
                                try simp only [Act.put, List.setIfInBounds_toArray, List.set_cons_zero, List.set_cons_succ]
                                refine wpAnyH_ready (rs := [11]) (by kernel_rfl) (by simp) ?_
                                refine AllReadyH.cons (o := { dst := some 86, op := Go.Op.call { callee := Go.Callee.value (Go.Operand.func 21), args := #[Go.Operand.tmp 85], argTypes := #[9] }, type := 33, pos := "outright.go:29", after := #[{ on := 10, ground := Go.Ground.data }, { on := 4, ground := Go.Ground.chain }], guard := none }) rfl (fun K hK => ?_) ?_
                                · obtain ⟨s3, s4, s5, cx, HB⟩ := hS
                                  refine rg_call (by rfl) _ _ (.agg (clsA t)) (by first | (go_simp; done) | (go_simp; rfl)) (OX.out _) ?_
                                  intro W' hb
                                  refine hK.out _ _ ⟨s3.below hb.out, s4.below hb.out, s5.below hb.out, pw_cell_below hb.out cx, HB.step hb.out⟩ (fun hS => ?_)
                                  clear hK K hb s3 s4 s5 cx HB
                                  try simp only [Act.put, List.setIfInBounds_toArray, List.set_cons_zero, List.set_cons_succ]
                                  refine wpAnyH_ready (rs := [12]) (by kernel_rfl) (by simp) ?_
                                  refine AllReadyH.cons (o := { dst := some 87, op := Go.Op.call { callee := Go.Callee.value (Go.Operand.func 33), args := #[Go.Operand.tmp 80, Go.Operand.tmp 86], argTypes := #[26, 33] }, type := 30, pos := "outright.go:29", after := #[{ on := 5, ground := Go.Ground.data }, { on := 11, ground := Go.Ground.data }, { on := 11, ground := Go.Ground.chain }], guard := none }) rfl (fun K hK => ?_) ?_
                                  · obtain ⟨s3, s4, s5, cx, HB⟩ := hS
                                    refine rg_call (by rfl) _ _ (.int .u64 e1) (by first | (go_simp; done) | (go_simp; rfl)) (EX.out _) ?_
                                    intro W' hb
                                    refine hK.out _ _ ⟨s3.below hb.out, s4.below hb.out, s5.below hb.out, pw_cell_below hb.out cx, HB.step hb.out⟩ (fun hS => ?_)
                                    clear hK K hb s3 s4 s5 cx HB
                                    try simp only [Act.put, List.setIfInBounds_toArray, List.set_cons_zero, List.set_cons_succ]
                                    refine' wpAnyH_take (i := 13) (oi := { dst := some 88, op := Go.Op.binOp Go.BinOp.neq 30 (Go.Operand.tmp 79) (Go.Operand.tmp 87) 30, type := 4, pos := "outright.go:29", after := #[{ on := 4, ground := Go.Ground.data }, { on := 12, ground := Go.Ground.data }], guard := none }) rfl (by kernel_rfl) (by kernel_rfl) (by kernel_rfl) (fun _ _ _ h => h) (Or.inl ⟨by rfl, ?hy9⟩) hS ?rest9
                                    case hy9 => (intro w hSw; (try dsimp only at hSw); first | (go_simp; done) | (go_simp; with_reducible rfl))
                                    try simp only [Act.put, List.setIfInBounds_toArray, List.set_cons_zero, List.set_cons_succ]
                                    refine wpAnyH_done (by kernel_rfl) ?_ _
                                    refine NoPanic.normal ?_
                                    obtain ⟨s3, s4, s5, cx, HB⟩ := hS
                                    go_wp2
                                    go_roundw
                                    case rel => exact ⟨i + 1, by have := KI.out; omega, by go_num, s3, s4, s5, HB⟩
                                    case measure =>
                                      simp [intOf]
                                      have := KI.out
                                      omega
                                  exact AllReadyH.nil
                                exact AllReadyH.nil
                              exact AllReadyH.nil
                            exact AllReadyH.nil
                          exact AllReadyH.nil
                        exact AllReadyH.nil
                      exact AllReadyH.nil
                    · obtain rfl : i = 64 := by omega
                      go_wp2
                      go_ret
                      exact ⟨rfl, HB.out⟩
                exact AllReadyH.nil
              exact AllReadyH.nil
            exact AllReadyH.nil
          exact AllReadyH.nil
        exact AllReadyH.nil
      exact AllReadyH.nil
    exact AllReadyH.nil
  exact AllReadyH.nil
end


end Go.Proofs.Ytoimelcdhkmceaa.PN
