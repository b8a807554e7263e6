-- Written by a program (myprint.py, over the kit's print) for this claim. Not trusted: Lean checks it.
import Derived.Test.YtoimelcdhkmceaaPLx0
import Derived.Test.YtoimelcdhkmceaaPLx1
namespace Go.Proofs.Ytoimelcdhkmceaa.PL
open Go.RowKit Go.Proofs.YtoimelcdhkmceaaW.PrintWords Go.Proofs.YtoimelcdhkmceaaW.PrintLast Go.Proofs.YtoimelcdhkmceaaW.PrintMore
attribute [local go_sem] max2_int min2_int max_two min_two max_three min_three max_four min_four   -- for this text's walks alone
set_option linter.unusedVariables false
set_option linter.unusedSimpArgs false

/-! ### quarrylaw02_BlockClasses: function 6 -/
section
open Go.Proofs.YtoimelcdhkmceaaQ Go.Proofs.YtoimelcdhkmceaaM
def quarrylaw02_BlockClasses.Pure : Prop := True
set_option maxHeartbeats 4000000 in
set_option maxRecDepth 100000 in
theorem quarrylaw02_BlockClasses.walkN (p q : Nat → Bool) (s : ByteArray) (n : Nat) (w : World) (hs : s.size ≤ 281474976702464) (hn : n < 256) :
    Calls Try.prog 6 #[.agg #[.int .u64 (iv (clsW p 0)), .int .u64 (iv (clsW p 1)), .int .u64 (iv (clsW p 2)), .int .u64 (iv (clsW p 3)), .int .u64 (iv (clsW q 0)), .int .u64 (iv (clsW q 1)), .int .u64 (iv (clsW q 2)), .int .u64 (iv (clsW q 3)), .string s, .int .u8 (n : Int)]] w fun e w' => e = .returned (.bool true) ∧ Below w.heap.size w w' := by
  have HB := BelowH.refl w
  have E1 : clsA (inT (⟨#[97, 98]⟩ : ByteArray) 2) = #[.int .u64 0, .int .u64 25769803776, .int .u64 0, .int .u64 0] := by
    rw [clsA_lit, show iv (clsW (inT (⟨#[97, 98]⟩ : ByteArray) 2) 0) = 0 by decide +kernel, show iv (clsW (inT (⟨#[97, 98]⟩ : ByteArray) 2) 1) = 25769803776 by decide +kernel, show iv (clsW (inT (⟨#[97, 98]⟩ : ByteArray) 2) 2) = 0 by decide +kernel, show iv (clsW (inT (⟨#[97, 98]⟩ : ByteArray) 2) 3) = 0 by decide +kernel]
  have E2 : inT (⟨#[97]⟩ : ByteArray) 1 97 = true := by decide +kernel
  have O1 : Aside0 (∀ W, Calls Try.prog 21 #[.string (⟨#[97, 98]⟩ : ByteArray)] W fun e w' => e = .returned (.agg #[.int .u64 0, .int .u64 25769803776, .int .u64 0, .int .u64 0]) ∧ Below W.heap.size W w') := ⟨fun W => by
    have h := block_Of.calls (⟨#[97, 98]⟩ : ByteArray) W (by decide)
    rw [show (⟨#[97, 98]⟩ : ByteArray).size = 2 from rfl, E1] at h
    exact h⟩
  obtain ⟨t2, ht2⟩ : ∃ t, t = inT (⟨#[97]⟩ : ByteArray) 1 := ⟨_, rfl⟩
  have O2 : Aside0 (∀ W, Calls Try.prog 21 #[.string (⟨#[97]⟩ : ByteArray)] W fun e w' => e = .returned (.agg (clsA t2)) ∧ Below W.heap.size W w') := ⟨fun W => by
    rw [ht2]
    exact block_Of.calls (⟨#[97]⟩ : ByteArray) W (by decide)⟩
  have O3 : Aside0 (∀ W, Calls Try.prog 22 #[.agg (clsA t2), .int .u8 97] W fun e w' => e = .returned (.bool true) ∧ Below W.heap.size W w') := ⟨fun W => by
    have h := block_Has.calls t2 97 (by decide) W
    rw [show t2 97 = true by rw [ht2]; exact E2] at h
    exact h⟩
  have FD : ∀ W : World, (Instr.field 33 (.agg #[.int .u64 0, .int .u64 25769803776, .int .u64 0, .int .u64 0]) 0).run Try.prog W = .ok (.agg #[.int .u64 0, .int .u64 25769803776, .int .u64 0, .int .u64 0]) W := fun W => by
    have h := fieldC (inT (⟨#[97, 98]⟩ : ByteArray) 2) W
    rw [E1] at h
    exact h
  have IX : ∀ W : World, (Instr.index 31 (.agg #[.int .u64 0, .int .u64 25769803776, .int .u64 0, .int .u64 0]) (.int .i64 1)).run Try.prog W = .ok (.int .u64 25769803776) W := fun W => by
    have h := indexC (inT (⟨#[97, 98]⟩ : ByteArray) 2) (i := 1) (by decide) W
    rw [E1, show iv (clsW (inT (⟨#[97, 98]⟩ : ByteArray) 2) 1) = 25769803776 by decide +kernel] at h
    exact h
  clear E1 E2 ht2
  obtain ⟨t, ht⟩ : ∃ t, t = inT s s.size := ⟨_, rfl⟩
  obtain ⟨a1, ha1⟩ : ∃ a, a = p n := ⟨_, rfl⟩
  obtain ⟨a2, ha2⟩ : ∃ a, a = t n := ⟨_, rfl⟩
  have S1 : Aside0 (∀ W, Calls Try.prog 21 #[.string s] W fun e w' => e = .returned (.agg (clsA t)) ∧ Below W.heap.size W w') := ⟨fun W => ht ▸ block_Of.calls s W hs⟩
  have S2 : Aside0 (∀ W, Calls Try.prog 23 #[.string s] W fun e w' => e = .returned (.agg (clsA t)) ∧ Below W.heap.size W w') := ⟨fun W => ht ▸ quarryref02_Of.calls s W hs⟩
  have HPB : Aside0 (∀ W, Calls Try.prog 22 #[.agg #[.int .u64 (iv (clsW p 0)), .int .u64 (iv (clsW p 1)), .int .u64 (iv (clsW p 2)), .int .u64 (iv (clsW p 3))], .int .u8 (n : Int)] W fun e w' => e = .returned (.bool a1) ∧ Below W.heap.size W w') := ⟨fun W => by
    have h := block_Has.calls p n hn W
    rw [← ha1, clsA_lit] at h
    exact h⟩
  have HTB : Aside0 (∀ W, Calls Try.prog 22 #[.agg (clsA t), .int .u8 (n : Int)] W fun e w' => e = .returned (.bool a2) ∧ Below W.heap.size W w') := ⟨fun W => ha2 ▸ block_Has.calls t n hn W⟩
  have JB : Aside0 (∀ W, Calls Try.prog 25 #[.agg #[.int .u64 (iv (clsW p 0)), .int .u64 (iv (clsW p 1)), .int .u64 (iv (clsW p 2)), .int .u64 (iv (clsW p 3))], .agg #[.int .u64 (iv (clsW q 0)), .int .u64 (iv (clsW q 1)), .int .u64 (iv (clsW q 2)), .int .u64 (iv (clsW q 3))]] W fun e w' => e = .returned (.agg (clsA (joinC p q))) ∧ Below W.heap.size W w') := ⟨fun W => by
    have h := block_Join.calls p q W
    rw [clsA_lit p, clsA_lit q] at h
    exact h⟩
  have MB : Aside0 (∀ W, Calls Try.prog 27 #[.agg #[.int .u64 (iv (clsW p 0)), .int .u64 (iv (clsW p 1)), .int .u64 (iv (clsW p 2)), .int .u64 (iv (clsW p 3))], .agg #[.int .u64 (iv (clsW q 0)), .int .u64 (iv (clsW q 1)), .int .u64 (iv (clsW q 2)), .int .u64 (iv (clsW q 3))]] W fun e w' => e = .returned (.agg (clsA (minusC p q))) ∧ Below W.heap.size W w') := ⟨fun W => by
    have h := block_Minus.calls p q W
    rw [clsA_lit p, clsA_lit q] at h
    exact h⟩
  have NB : Aside0 (∀ W, Calls Try.prog 29 #[.agg #[.int .u64 (iv (clsW p 0)), .int .u64 (iv (clsW p 1)), .int .u64 (iv (clsW p 2)), .int .u64 (iv (clsW p 3))]] W fun e w' => e = .returned (.agg (clsA (notC p))) ∧ Below W.heap.size W w') := ⟨fun W => by
    have h := block_Not.calls p W
    rw [clsA_lit p] at h
    exact h⟩
  have HPR : Aside0 (∀ W, Calls Try.prog 24 #[.agg #[.int .u64 (iv (clsW p 0)), .int .u64 (iv (clsW p 1)), .int .u64 (iv (clsW p 2)), .int .u64 (iv (clsW p 3))], .int .u8 (n : Int)] W fun e w' => e = .returned (.bool a1) ∧ Below W.heap.size W w') := ⟨fun W => by
    have h := quarryref02_Has.calls p n hn W
    rw [← ha1, clsA_lit] at h
    exact h⟩
  have HTR : Aside0 (∀ W, Calls Try.prog 24 #[.agg (clsA t), .int .u8 (n : Int)] W fun e w' => e = .returned (.bool a2) ∧ Below W.heap.size W w') := ⟨fun W => ha2 ▸ quarryref02_Has.calls t n hn W⟩
  have JR : Aside0 (∀ W, Calls Try.prog 26 #[.agg #[.int .u64 (iv (clsW p 0)), .int .u64 (iv (clsW p 1)), .int .u64 (iv (clsW p 2)), .int .u64 (iv (clsW p 3))], .agg #[.int .u64 (iv (clsW q 0)), .int .u64 (iv (clsW q 1)), .int .u64 (iv (clsW q 2)), .int .u64 (iv (clsW q 3))]] W fun e w' => e = .returned (.agg (clsA (joinC p q))) ∧ Below W.heap.size W w') := ⟨fun W => by
    have h := quarryref02_Join.calls p q W
    rw [clsA_lit p, clsA_lit q] at h
    exact h⟩
  have MR : Aside0 (∀ W, Calls Try.prog 28 #[.agg #[.int .u64 (iv (clsW p 0)), .int .u64 (iv (clsW p 1)), .int .u64 (iv (clsW p 2)), .int .u64 (iv (clsW p 3))], .agg #[.int .u64 (iv (clsW q 0)), .int .u64 (iv (clsW q 1)), .int .u64 (iv (clsW q 2)), .int .u64 (iv (clsW q 3))]] W fun e w' => e = .returned (.agg (clsA (minusC p q))) ∧ Below W.heap.size W w') := ⟨fun W => by
    have h := quarryref02_Minus.calls p q W
    rw [clsA_lit p, clsA_lit q] at h
    exact h⟩
  have NR : Aside0 (∀ W, Calls Try.prog 30 #[.agg #[.int .u64 (iv (clsW p 0)), .int .u64 (iv (clsW p 1)), .int .u64 (iv (clsW p 2)), .int .u64 (iv (clsW p 3))]] W fun e w' => e = .returned (.agg (clsA (notC p))) ∧ Below W.heap.size W w') := ⟨fun W => by
    have h := quarryref02_Not.calls p W
    rw [clsA_lit p] at h
    exact h⟩
  have QE : ∀ (r : Nat → Bool) (W : World), (Op.equalIn 10000 33 (.agg (clsA r)) (.agg (clsA r))).run Try.prog W = .ok true W := fun r W => eqCls_same r W
  clear ht ha1 ha2 hs hn
  go_enter Try.func6, Try.ntmps6
  go_upto_region 1 with (first
    | ((with_reducible refine gate_dst (N := 1) rfl ?_); refine ev_alloc HB rfl (#[.int .u64 (iv (clsW p 0)), .int .u64 (iv (clsW p 1)), .int .u64 (iv (clsW p 2)), .int .u64 (iv (clsW p 3)), .int .u64 (iv (clsW q 0)), .int .u64 (iv (clsW q 1)), .int .u64 (iv (clsW q 2)), .int .u64 (iv (clsW q 3)), .string s, .int .u8 (n : Int)]) 35 ?hr ?_; (case hr => first | (go_simp; done) | (go_simp; rfl)); intro g1 w1 G_g1 GE_g1 B_g1 HBn K_g1; clear HB; have HB := HBn; clear HBn))
  have c0 := B_g1.cell (i := 0) rfl
  have c1 := B_g1.cell (i := 1) rfl
  have c2 := B_g1.cell (i := 2) rfl
  have c3 := B_g1.cell (i := 3) rfl
  have c4 := B_g1.cell (i := 4) rfl
  have c5 := B_g1.cell (i := 5) rfl
  have c6 := B_g1.cell (i := 6) rfl
  have c7 := B_g1.cell (i := 7) rfl
  have c8 := B_g1.cell (i := 8) rfl
  have c9 := B_g1.cell (i := 9) rfl
  clear B_g1 K_g1 G_g1 GE_g1
  go_upto_region 3 with (first
    | (go_at_call 21; (with_reducible refine (O1.out _).mono ?_); rintro e w5 ⟨rfl, hb5⟩; have HBn := HB.step hb5; have nc0 := pw_cell_below hb5 c0; have nc1 := pw_cell_below hb5 c1; have nc2 := pw_cell_below hb5 c2; have nc3 := pw_cell_below hb5 c3; have nc4 := pw_cell_below hb5 c4; have nc5 := pw_cell_below hb5 c5; have nc6 := pw_cell_below hb5 c6; have nc7 := pw_cell_below hb5 c7; have nc8 := pw_cell_below hb5 c8; have nc9 := pw_cell_below hb5 c9; clear HB hb5 c0 c1 c2 c3 c4 c5 c6 c7 c8 c9; have HB := HBn; have c0 := nc0; have c1 := nc1; have c2 := nc2; have c3 := nc3; have c4 := nc4; have c5 := nc5; have c6 := nc6; have c7 := nc7; have c8 := nc8; have c9 := nc9; clear HBn nc0 nc1 nc2 nc3 nc4 nc5 nc6 nc7 nc8 nc9)
    | (go_at_call 21; (with_reducible refine (O2.out _).mono ?_); rintro e w5 ⟨rfl, hb5⟩; have HBn := HB.step hb5; have nc0 := pw_cell_below hb5 c0; have nc1 := pw_cell_below hb5 c1; have nc2 := pw_cell_below hb5 c2; have nc3 := pw_cell_below hb5 c3; have nc4 := pw_cell_below hb5 c4; have nc5 := pw_cell_below hb5 c5; have nc6 := pw_cell_below hb5 c6; have nc7 := pw_cell_below hb5 c7; have nc8 := pw_cell_below hb5 c8; have nc9 := pw_cell_below hb5 c9; clear HB hb5 c0 c1 c2 c3 c4 c5 c6 c7 c8 c9; have HB := HBn; have c0 := nc0; have c1 := nc1; have c2 := nc2; have c3 := nc3; have c4 := nc4; have c5 := nc5; have c6 := nc6; have c7 := nc7; have c8 := nc8; have c9 := nc9; clear HBn nc0 nc1 nc2 nc3 nc4 nc5 nc6 nc7 nc8 nc9)
    | (go_at_call 22; (with_reducible refine (O3.out _).mono ?_); rintro e w5 ⟨rfl, hb5⟩; have HBn := HB.step hb5; have nc0 := pw_cell_below hb5 c0; have nc1 := pw_cell_below hb5 c1; have nc2 := pw_cell_below hb5 c2; have nc3 := pw_cell_below hb5 c3; have nc4 := pw_cell_below hb5 c4; have nc5 := pw_cell_below hb5 c5; have nc6 := pw_cell_below hb5 c6; have nc7 := pw_cell_below hb5 c7; have nc8 := pw_cell_below hb5 c8; have nc9 := pw_cell_below hb5 c9; clear HB hb5 c0 c1 c2 c3 c4 c5 c6 c7 c8 c9; have HB := HBn; have c0 := nc0; have c1 := nc1; have c2 := nc2; have c3 := nc3; have c4 := nc4; have c5 := nc5; have c6 := nc6; have c7 := nc7; have c8 := nc8; have c9 := nc9; clear HBn nc0 nc1 nc2 nc3 nc4 nc5 nc6 nc7 nc8 nc9))
  try simp only [Act.put, List.setIfInBounds_toArray, List.set_cons_zero, List.set_cons_succ]
  refine wp_region_noPanic ?_
  refine wp_region_held_drew (S := fun W => W.cell? ⟨g1, 0, none⟩ = some (.int .u64 (iv (clsW p 0))) ∧ W.cell? ⟨g1, 1, none⟩ = some (.int .u64 (iv (clsW p 1))) ∧ W.cell? ⟨g1, 2, none⟩ = some (.int .u64 (iv (clsW p 2))) ∧ W.cell? ⟨g1, 3, none⟩ = some (.int .u64 (iv (clsW p 3))) ∧ W.cell? ⟨g1, 4, none⟩ = some (.int .u64 (iv (clsW q 0))) ∧ W.cell? ⟨g1, 5, none⟩ = some (.int .u64 (iv (clsW q 1))) ∧ W.cell? ⟨g1, 6, none⟩ = some (.int .u64 (iv (clsW q 2))) ∧ W.cell? ⟨g1, 7, none⟩ = some (.int .u64 (iv (clsW q 3))) ∧ W.cell? ⟨g1, 8, none⟩ = some (.string s) ∧ W.cell? ⟨g1, 9, none⟩ = some (.int .u8 (n : Int)) ∧ BelowH w W) (by kernel_rfl) ⟨pw_cell_below (below_drew (Below.refl _ _)) c0, pw_cell_below (below_drew (Below.refl _ _)) c1, pw_cell_below (below_drew (Below.refl _ _)) c2, pw_cell_below (below_drew (Below.refl _ _)) c3, pw_cell_below (below_drew (Below.refl _ _)) c4, pw_cell_below (below_drew (Below.refl _ _)) c5, pw_cell_below (below_drew (Below.refl _ _)) c6, pw_cell_below (below_drew (Below.refl _ _)) c7, pw_cell_below (below_drew (Below.refl _ _)) c8, pw_cell_below (below_drew (Below.refl _ _)) c9, HB.drew⟩ (fun hS => ?_)
  clear c0 c1 c2 c3 c4 c5 c6 c7 c8 c9 HB
  refine' wpAnyH_take (i := 0) (oi := { dst := some 12, op := Go.Op.fieldAddr 35 (Go.Operand.tmp 1) 2, type := 0, pos := "law.go:24", after := #[], guard := none }) rfl (by kernel_rfl) (by kernel_rfl) (by kernel_rfl) (fun _ _ _ h => h) (Or.inl ⟨by rfl, ?hy29⟩) hS ?rest29
  case hy29 => (intro w hSw; (try dsimp only at hSw); first | (go_simp; done) | (go_simp; with_reducible rfl))
  try simp only [Act.put, List.setIfInBounds_toArray, List.set_cons_zero, List.set_cons_succ]
  refine' wpAnyH_take (i := 1) (oi := { dst := some 13, op := Go.Op.load 9 (Go.Operand.tmp 12), type := 9, pos := "law.go:24", after := #[{ on := 0, ground := Go.Ground.data }], guard := none }) rfl (by kernel_rfl) (by kernel_rfl) (by kernel_rfl) (fun _ _ _ h => h) (Or.inl ⟨by rfl, ?hy30⟩) hS ?rest30
  case hy30 => (intro w hSw; (try dsimp only at hSw); first | (go_simp; done) | (go_simp; with_reducible rfl))
  try simp only [Act.put, List.setIfInBounds_toArray, List.set_cons_zero, List.set_cons_succ]
  refine' wpAnyH_take (i := 3) (oi := { dst := some 15, op := Go.Op.fieldAddr 35 (Go.Operand.tmp 1) 2, type := 0, pos := "law.go:24", after := #[], guard := none }) rfl (by kernel_rfl) (by kernel_rfl) (by kernel_rfl) (fun _ _ _ h => h) (Or.inl ⟨by rfl, ?hy31⟩) hS ?rest31
  case hy31 => (intro w hSw; (try dsimp only at hSw); first | (go_simp; done) | (go_simp; with_reducible rfl))
  try simp only [Act.put, List.setIfInBounds_toArray, List.set_cons_zero, List.set_cons_succ]
  refine' wpAnyH_take (i := 4) (oi := { dst := some 16, op := Go.Op.load 9 (Go.Operand.tmp 15), type := 9, pos := "law.go:24", after := #[{ on := 3, ground := Go.Ground.data }], guard := none }) rfl (by kernel_rfl) (by kernel_rfl) (by kernel_rfl) (fun _ _ _ h => h) (Or.inl ⟨by rfl, ?hy32⟩) hS ?rest32
  case hy32 => (intro w hSw; (try dsimp only at hSw); first | (go_simp; done) | (go_simp; with_reducible rfl))
  try simp only [Act.put, List.setIfInBounds_toArray, List.set_cons_zero, List.set_cons_succ]
  refine wpAnyH_ready (rs := [2]) (by kernel_rfl) (by simp) ?_
  refine AllReadyH.cons (o := { dst := some 14, op := Go.Op.call { callee := Go.Callee.value (Go.Operand.func 21), args := #[Go.Operand.tmp 13], argTypes := #[9] }, type := 33, pos := "law.go:24", after := #[{ on := 1, ground := Go.Ground.data }], guard := none }) rfl (fun K hK => ?_) ?_
  · obtain ⟨c0, c1, c2, c3, c4, c5, c6, c7, c8, c9, HB⟩ := hS
    refine rg_call (by rfl) _ _ (.agg (clsA t)) (by first | (go_simp; done) | (go_simp; rfl)) (S1.out _) ?_
    intro W' hb
    refine hK.out _ _ ⟨pw_cell_below hb.out c0, pw_cell_below hb.out c1, pw_cell_below hb.out c2, pw_cell_below hb.out c3, pw_cell_below hb.out c4, pw_cell_below hb.out c5, pw_cell_below hb.out c6, pw_cell_below hb.out c7, pw_cell_below hb.out c8, pw_cell_below hb.out c9, HB.step hb.out⟩ (fun hS => ?_)
    clear hK K hb c0 c1 c2 c3 c4 c5 c6 c7 c8 c9 HB
    try simp only [Act.put, List.setIfInBounds_toArray, List.set_cons_zero, List.set_cons_succ]
    refine wpAnyH_ready (rs := [5]) (by kernel_rfl) (by simp) ?_
    refine AllReadyH.cons (o := { dst := some 17, op := Go.Op.call { callee := Go.Callee.value (Go.Operand.func 23), args := #[Go.Operand.tmp 16], argTypes := #[9] }, type := 33, pos := "law.go:24", after := #[{ on := 4, ground := Go.Ground.data }, { on := 2, ground := Go.Ground.chain }], guard := none }) rfl (fun K hK => ?_) ?_
    · obtain ⟨c0, c1, c2, c3, c4, c5, c6, c7, c8, c9, HB⟩ := hS
      refine rg_call (by rfl) _ _ (.agg (clsA t)) (by first | (go_simp; done) | (go_simp; rfl)) (S2.out _) ?_
      intro W' hb
      refine hK.out _ _ ⟨pw_cell_below hb.out c0, pw_cell_below hb.out c1, pw_cell_below hb.out c2, pw_cell_below hb.out c3, pw_cell_below hb.out c4, pw_cell_below hb.out c5, pw_cell_below hb.out c6, pw_cell_below hb.out c7, pw_cell_below hb.out c8, pw_cell_below hb.out c9, HB.step hb.out⟩ (fun hS => ?_)
      clear hK K hb c0 c1 c2 c3 c4 c5 c6 c7 c8 c9 HB
      try simp only [Act.put, List.setIfInBounds_toArray, List.set_cons_zero, List.set_cons_succ]
      refine' wpAnyH_take (i := 6) (oi := { dst := some 18, op := Go.Op.binOp Go.BinOp.neq 33 (Go.Operand.tmp 14) (Go.Operand.tmp 17) 33, type := 4, pos := "law.go:24", after := #[{ on := 2, ground := Go.Ground.data }, { on := 5, ground := Go.Ground.data }], guard := none }) rfl (by kernel_rfl) (by kernel_rfl) (by kernel_rfl) (fun _ _ _ h => h) (Or.inl ⟨by rfl, ?hy33⟩) hS ?rest33
      case hy33 => (intro w hSw; (try dsimp only at hSw); first | (go_simp; done) | (go_simp; with_reducible rfl))
      try simp only [Act.put, List.setIfInBounds_toArray, List.set_cons_zero, List.set_cons_succ]
      refine' wpAnyH_take (i := 7) (oi := { dst := some 19, op := Go.Op.move (Go.Operand.tmp 18), type := 4, pos := "law.go:24", after := #[{ on := 6, ground := Go.Ground.data }, { on := 5, ground := Go.Ground.chain }], guard := none }) rfl (by kernel_rfl) (by kernel_rfl) (by kernel_rfl) (fun _ _ _ h => h) (Or.inl ⟨by rfl, ?hy34⟩) hS ?rest34
      case hy34 => (intro w hSw; (try dsimp only at hSw); first | (go_simp; done) | (go_simp; with_reducible rfl))
      try simp only [Act.put, List.setIfInBounds_toArray, List.set_cons_zero, List.set_cons_succ]
      refine' wpAnyH_take (i := 8) (oi := { dst := some 20, op := Go.Op.fieldAddr 35 (Go.Operand.tmp 1) 0, type := 0, pos := "law.go:24", after := #[{ on := 7, ground := Go.Ground.guard }], guard := some (7, false) }) rfl (by kernel_rfl) (by kernel_rfl) (by kernel_rfl) (fun _ _ _ h => h) (Or.inl ⟨by rfl, ?hy35⟩) hS ?rest35
      case hy35 => (intro w hSw; (try dsimp only at hSw); first | (go_simp; done) | (go_simp; with_reducible rfl))
      try simp only [Act.put, List.setIfInBounds_toArray, List.set_cons_zero, List.set_cons_succ]
      refine' wpAnyH_take (i := 9) (oi := { dst := some 21, op := Go.Op.load 33 (Go.Operand.tmp 20), type := 33, pos := "law.go:24", after := #[{ on := 8, ground := Go.Ground.data }, { on := 7, ground := Go.Ground.guard }], guard := some (7, false) }) rfl (by kernel_rfl) (by kernel_rfl) (by kernel_rfl) (fun _ _ _ h => h) (Or.inl ⟨by rfl, ?hy36⟩) hS ?rest36
      case hy36 => (intro w hSw; (try dsimp only at hSw); first | (go_simp; done) | (go_simp; with_reducible rfl))
      try simp only [Act.put, List.setIfInBounds_toArray, List.set_cons_zero, List.set_cons_succ]
      refine' wpAnyH_take (i := 10) (oi := { dst := some 22, op := Go.Op.fieldAddr 35 (Go.Operand.tmp 1) 3, type := 0, pos := "law.go:24", after := #[{ on := 7, ground := Go.Ground.guard }], guard := some (7, false) }) rfl (by kernel_rfl) (by kernel_rfl) (by kernel_rfl) (fun _ _ _ h => h) (Or.inl ⟨by rfl, ?hy37⟩) hS ?rest37
      case hy37 => (intro w hSw; (try dsimp only at hSw); first | (go_simp; done) | (go_simp; with_reducible rfl))
      try simp only [Act.put, List.setIfInBounds_toArray, List.set_cons_zero, List.set_cons_succ]
      refine' wpAnyH_take (i := 11) (oi := { dst := some 23, op := Go.Op.load 5 (Go.Operand.tmp 22), type := 5, pos := "law.go:24", after := #[{ on := 10, ground := Go.Ground.data }, { on := 7, ground := Go.Ground.guard }], guard := some (7, false) }) rfl (by kernel_rfl) (by kernel_rfl) (by kernel_rfl) (fun _ _ _ h => h) (Or.inl ⟨by rfl, ?hy38⟩) hS ?rest38
      case hy38 => (intro w hSw; (try dsimp only at hSw); first | (go_simp; done) | (go_simp; with_reducible rfl))
      try simp only [Act.put, List.setIfInBounds_toArray, List.set_cons_zero, List.set_cons_succ]
      refine' wpAnyH_take (i := 13) (oi := { dst := some 25, op := Go.Op.fieldAddr 35 (Go.Operand.tmp 1) 0, type := 0, pos := "law.go:24", after := #[{ on := 7, ground := Go.Ground.guard }], guard := some (7, false) }) rfl (by kernel_rfl) (by kernel_rfl) (by kernel_rfl) (fun _ _ _ h => h) (Or.inl ⟨by rfl, ?hy39⟩) hS ?rest39
      case hy39 => (intro w hSw; (try dsimp only at hSw); first | (go_simp; done) | (go_simp; with_reducible rfl))
      try simp only [Act.put, List.setIfInBounds_toArray, List.set_cons_zero, List.set_cons_succ]
      refine' wpAnyH_take (i := 14) (oi := { dst := some 26, op := Go.Op.load 33 (Go.Operand.tmp 25), type := 33, pos := "law.go:24", after := #[{ on := 13, ground := Go.Ground.data }, { on := 7, ground := Go.Ground.guard }], guard := some (7, false) }) rfl (by kernel_rfl) (by kernel_rfl) (by kernel_rfl) (fun _ _ _ h => h) (Or.inl ⟨by rfl, ?hy40⟩) hS ?rest40
      case hy40 => (intro w hSw; (try dsimp only at hSw); first | (go_simp; done) | (go_simp; with_reducible rfl))
      try simp only [Act.put, List.setIfInBounds_toArray, List.set_cons_zero, List.set_cons_succ]
      refine' wpAnyH_take (i := 15) (oi := { dst := some 27, op := Go.Op.fieldAddr 35 (Go.Operand.tmp 1) 3, type := 0, pos := "law.go:24", after := #[{ on := 7, ground := Go.Ground.guard }], guard := some (7, false) }) rfl (by kernel_rfl) (by kernel_rfl) (by kernel_rfl) (fun _ _ _ h => h) (Or.inl ⟨by rfl, ?hy41⟩) hS ?rest41
      case hy41 => (intro w hSw; (try dsimp only at hSw); first | (go_simp; done) | (go_simp; with_reducible rfl))
      try simp only [Act.put, List.setIfInBounds_toArray, List.set_cons_zero, List.set_cons_succ]
      refine' wpAnyH_take (i := 16) (oi := { dst := some 28, op := Go.Op.load 5 (Go.Operand.tmp 27), type := 5, pos := "law.go:24", after := #[{ on := 15, ground := Go.Ground.data }, { on := 7, ground := Go.Ground.guard }], guard := some (7, false) }) rfl (by kernel_rfl) (by kernel_rfl) (by kernel_rfl) (fun _ _ _ h => h) (Or.inl ⟨by rfl, ?hy42⟩) hS ?rest42
      case hy42 => (intro w hSw; (try dsimp only at hSw); first | (go_simp; done) | (go_simp; with_reducible rfl))
      try simp only [Act.put, List.setIfInBounds_toArray, List.set_cons_zero, List.set_cons_succ]
      refine wpAnyH_ready (rs := [12]) (by kernel_rfl) (by simp) ?_
      refine AllReadyH.cons (o := { dst := some 24, op := Go.Op.call { callee := Go.Callee.value (Go.Operand.func 22), args := #[Go.Operand.tmp 21, Go.Operand.tmp 23], argTypes := #[33, 5] }, type := 4, pos := "law.go:24", after := #[{ on := 9, ground := Go.Ground.data }, { on := 11, ground := Go.Ground.data }, { on := 7, ground := Go.Ground.chain }, { on := 7, ground := Go.Ground.guard }], guard := some (7, false) }) rfl (fun K hK => ?_) ?_
      · obtain ⟨c0, c1, c2, c3, c4, c5, c6, c7, c8, c9, HB⟩ := hS
        refine rg_call (by rfl) _ _ (.bool a1) (by first | (go_simp; done) | (go_simp; rfl)) (HPB.out _) ?_
        intro W' hb
        refine hK.out _ _ ⟨pw_cell_below hb.out c0, pw_cell_below hb.out c1, pw_cell_below hb.out c2, pw_cell_below hb.out c3, pw_cell_below hb.out c4, pw_cell_below hb.out c5, pw_cell_below hb.out c6, pw_cell_below hb.out c7, pw_cell_below hb.out c8, pw_cell_below hb.out c9, HB.step hb.out⟩ (fun hS => ?_)
        clear hK K hb c0 c1 c2 c3 c4 c5 c6 c7 c8 c9 HB
        try simp only [Act.put, List.setIfInBounds_toArray, List.set_cons_zero, List.set_cons_succ]
        refine wpAnyH_ready (rs := [17]) (by kernel_rfl) (by simp) ?_
        refine AllReadyH.cons (o := { dst := some 29, op := Go.Op.call { callee := Go.Callee.value (Go.Operand.func 24), args := #[Go.Operand.tmp 26, Go.Operand.tmp 28], argTypes := #[33, 5] }, type := 4, pos := "law.go:24", after := #[{ on := 14, ground := Go.Ground.data }, { on := 16, ground := Go.Ground.data }, { on := 12, ground := Go.Ground.chain }, { on := 7, ground := Go.Ground.guard }], guard := some (7, false) }) rfl (fun K hK => ?_) ?_
        · obtain ⟨c0, c1, c2, c3, c4, c5, c6, c7, c8, c9, HB⟩ := hS
          refine rg_call (by rfl) _ _ (.bool a1) (by first | (go_simp; done) | (go_simp; rfl)) (HPR.out _) ?_
          intro W' hb
          refine hK.out _ _ ⟨pw_cell_below hb.out c0, pw_cell_below hb.out c1, pw_cell_below hb.out c2, pw_cell_below hb.out c3, pw_cell_below hb.out c4, pw_cell_below hb.out c5, pw_cell_below hb.out c6, pw_cell_below hb.out c7, pw_cell_below hb.out c8, pw_cell_below hb.out c9, HB.step hb.out⟩ (fun hS => ?_)
          clear hK K hb c0 c1 c2 c3 c4 c5 c6 c7 c8 c9 HB
          try simp only [Act.put, List.setIfInBounds_toArray, List.set_cons_zero, List.set_cons_succ]
          refine' wpAnyH_take (i := 18) (oi := { dst := some 30, op := Go.Op.binOp Go.BinOp.neq 4 (Go.Operand.tmp 24) (Go.Operand.tmp 29) 4, type := 4, pos := "law.go:24", after := #[{ on := 12, ground := Go.Ground.data }, { on := 17, ground := Go.Ground.data }, { on := 7, ground := Go.Ground.guard }], guard := some (7, false) }) rfl (by kernel_rfl) (by kernel_rfl) (by kernel_rfl) (fun _ _ _ h => h) (Or.inl ⟨by rfl, ?hy43⟩) hS ?rest43
          case hy43 => (intro w hSw; (try dsimp only at hSw); first | (go_simp; done) | (go_simp; with_reducible rfl))
          try simp only [Act.put, List.setIfInBounds_toArray, List.set_cons_zero, List.set_cons_succ]
          refine' wpAnyH_take (i := 19) (oi := { dst := some 31, op := Go.Op.pick (Go.Operand.tmp 19) (Go.Operand.const (Go.Value.bool true)) (Go.Operand.tmp 30), type := 4, pos := "law.go:24", after := #[{ on := 7, ground := Go.Ground.data }, { on := 18, ground := Go.Ground.data }], guard := none }) rfl (by kernel_rfl) (by kernel_rfl) (by kernel_rfl) (fun _ _ _ h => h) (Or.inl ⟨by rfl, ?hy44⟩) hS ?rest44
          case hy44 => (intro w hSw; (try dsimp only at hSw); first | (go_simp; done) | (go_simp; with_reducible rfl))
          try simp only [Act.put, List.setIfInBounds_toArray, List.set_cons_zero, List.set_cons_succ]
          refine' wpAnyH_take (i := 20) (oi := { dst := some 32, op := Go.Op.move (Go.Operand.tmp 31), type := 4, pos := "law.go:24", after := #[{ on := 19, ground := Go.Ground.data }, { on := 17, ground := Go.Ground.chain }], guard := none }) rfl (by kernel_rfl) (by kernel_rfl) (by kernel_rfl) (fun _ _ _ h => h) (Or.inl ⟨by rfl, ?hy45⟩) hS ?rest45
          case hy45 => (intro w hSw; (try dsimp only at hSw); first | (go_simp; done) | (go_simp; with_reducible rfl))
          try simp only [Act.put, List.setIfInBounds_toArray, List.set_cons_zero, List.set_cons_succ]
          refine' wpAnyH_take (i := 21) (oi := { dst := some 33, op := Go.Op.fieldAddr 35 (Go.Operand.tmp 1) 2, type := 0, pos := "law.go:24", after := #[{ on := 20, ground := Go.Ground.guard }], guard := some (20, false) }) rfl (by kernel_rfl) (by kernel_rfl) (by kernel_rfl) (fun _ _ _ h => h) (Or.inl ⟨by rfl, ?hy46⟩) hS ?rest46
          case hy46 => (intro w hSw; (try dsimp only at hSw); first | (go_simp; done) | (go_simp; with_reducible rfl))
          try simp only [Act.put, List.setIfInBounds_toArray, List.set_cons_zero, List.set_cons_succ]
          refine' wpAnyH_take (i := 22) (oi := { dst := some 34, op := Go.Op.load 9 (Go.Operand.tmp 33), type := 9, pos := "law.go:24", after := #[{ on := 21, ground := Go.Ground.data }, { on := 20, ground := Go.Ground.guard }], guard := some (20, false) }) rfl (by kernel_rfl) (by kernel_rfl) (by kernel_rfl) (fun _ _ _ h => h) (Or.inl ⟨by rfl, ?hy47⟩) hS ?rest47
          case hy47 => (intro w hSw; (try dsimp only at hSw); first | (go_simp; done) | (go_simp; with_reducible rfl))
          try simp only [Act.put, List.setIfInBounds_toArray, List.set_cons_zero, List.set_cons_succ]
          refine' wpAnyH_take (i := 24) (oi := { dst := some 36, op := Go.Op.fieldAddr 35 (Go.Operand.tmp 1) 3, type := 0, pos := "law.go:24", after := #[{ on := 20, ground := Go.Ground.guard }], guard := some (20, false) }) rfl (by kernel_rfl) (by kernel_rfl) (by kernel_rfl) (fun _ _ _ h => h) (Or.inl ⟨by rfl, ?hy48⟩) hS ?rest48
          case hy48 => (intro w hSw; (try dsimp only at hSw); first | (go_simp; done) | (go_simp; with_reducible rfl))
          try simp only [Act.put, List.setIfInBounds_toArray, List.set_cons_zero, List.set_cons_succ]
          refine' wpAnyH_take (i := 25) (oi := { dst := some 37, op := Go.Op.load 5 (Go.Operand.tmp 36), type := 5, pos := "law.go:24", after := #[{ on := 24, ground := Go.Ground.data }, { on := 20, ground := Go.Ground.guard }], guard := some (20, false) }) rfl (by kernel_rfl) (by kernel_rfl) (by kernel_rfl) (fun _ _ _ h => h) (Or.inl ⟨by rfl, ?hy49⟩) hS ?rest49
          case hy49 => (intro w hSw; (try dsimp only at hSw); first | (go_simp; done) | (go_simp; with_reducible rfl))
          try simp only [Act.put, List.setIfInBounds_toArray, List.set_cons_zero, List.set_cons_succ]
          refine' wpAnyH_take (i := 27) (oi := { dst := some 39, op := Go.Op.fieldAddr 35 (Go.Operand.tmp 1) 2, type := 0, pos := "law.go:24", after := #[{ on := 20, ground := Go.Ground.guard }], guard := some (20, false) }) rfl (by kernel_rfl) (by kernel_rfl) (by kernel_rfl) (fun _ _ _ h => h) (Or.inl ⟨by rfl, ?hy50⟩) hS ?rest50
          case hy50 => (intro w hSw; (try dsimp only at hSw); first | (go_simp; done) | (go_simp; with_reducible rfl))
          try simp only [Act.put, List.setIfInBounds_toArray, List.set_cons_zero, List.set_cons_succ]
          refine' wpAnyH_take (i := 28) (oi := { dst := some 40, op := Go.Op.load 9 (Go.Operand.tmp 39), type := 9, pos := "law.go:24", after := #[{ on := 27, ground := Go.Ground.data }, { on := 20, ground := Go.Ground.guard }], guard := some (20, false) }) rfl (by kernel_rfl) (by kernel_rfl) (by kernel_rfl) (fun _ _ _ h => h) (Or.inl ⟨by rfl, ?hy51⟩) hS ?rest51
          case hy51 => (intro w hSw; (try dsimp only at hSw); first | (go_simp; done) | (go_simp; with_reducible rfl))
          try simp only [Act.put, List.setIfInBounds_toArray, List.set_cons_zero, List.set_cons_succ]
          refine' wpAnyH_take (i := 30) (oi := { dst := some 42, op := Go.Op.fieldAddr 35 (Go.Operand.tmp 1) 3, type := 0, pos := "law.go:24", after := #[{ on := 20, ground := Go.Ground.guard }], guard := some (20, false) }) rfl (by kernel_rfl) (by kernel_rfl) (by kernel_rfl) (fun _ _ _ h => h) (Or.inl ⟨by rfl, ?hy52⟩) hS ?rest52
          case hy52 => (intro w hSw; (try dsimp only at hSw); first | (go_simp; done) | (go_simp; with_reducible rfl))
          try simp only [Act.put, List.setIfInBounds_toArray, List.set_cons_zero, List.set_cons_succ]
          refine' wpAnyH_take (i := 31) (oi := { dst := some 43, op := Go.Op.load 5 (Go.Operand.tmp 42), type := 5, pos := "law.go:24", after := #[{ on := 30, ground := Go.Ground.data }, { on := 20, ground := Go.Ground.guard }], guard := some (20, false) }) rfl (by kernel_rfl) (by kernel_rfl) (by kernel_rfl) (fun _ _ _ h => h) (Or.inl ⟨by rfl, ?hy53⟩) hS ?rest53
          case hy53 => (intro w hSw; (try dsimp only at hSw); first | (go_simp; done) | (go_simp; with_reducible rfl))
          try simp only [Act.put, List.setIfInBounds_toArray, List.set_cons_zero, List.set_cons_succ]
          refine wpAnyH_ready (rs := [23]) (by kernel_rfl) (by simp) ?_
          refine AllReadyH.cons (o := { dst := some 35, op := Go.Op.call { callee := Go.Callee.value (Go.Operand.func 21), args := #[Go.Operand.tmp 34], argTypes := #[9] }, type := 33, pos := "law.go:24", after := #[{ on := 22, ground := Go.Ground.data }, { on := 20, ground := Go.Ground.chain }, { on := 20, ground := Go.Ground.guard }], guard := some (20, false) }) rfl (fun K hK => ?_) ?_
          · obtain ⟨c0, c1, c2, c3, c4, c5, c6, c7, c8, c9, HB⟩ := hS
            refine rg_call (by rfl) _ _ (.agg (clsA t)) (by first | (go_simp; done) | (go_simp; rfl)) (S1.out _) ?_
            intro W' hb
            refine hK.out _ _ ⟨pw_cell_below hb.out c0, pw_cell_below hb.out c1, pw_cell_below hb.out c2, pw_cell_below hb.out c3, pw_cell_below hb.out c4, pw_cell_below hb.out c5, pw_cell_below hb.out c6, pw_cell_below hb.out c7, pw_cell_below hb.out c8, pw_cell_below hb.out c9, HB.step hb.out⟩ (fun hS => ?_)
            clear hK K hb c0 c1 c2 c3 c4 c5 c6 c7 c8 c9 HB
            try simp only [Act.put, List.setIfInBounds_toArray, List.set_cons_zero, List.set_cons_succ]
            refine wpAnyH_ready (rs := [26]) (by kernel_rfl) (by simp) ?_
            refine AllReadyH.cons (o := { dst := some 38, op := Go.Op.call { callee := Go.Callee.value (Go.Operand.func 22), args := #[Go.Operand.tmp 35, Go.Operand.tmp 37], argTypes := #[33, 5] }, type := 4, pos := "law.go:24", after := #[{ on := 23, ground := Go.Ground.data }, { on := 25, ground := Go.Ground.data }, { on := 23, ground := Go.Ground.chain }, { on := 20, ground := Go.Ground.guard }], guard := some (20, false) }) rfl (fun K hK => ?_) ?_
            · obtain ⟨c0, c1, c2, c3, c4, c5, c6, c7, c8, c9, HB⟩ := hS
              refine rg_call (by rfl) _ _ (.bool a2) (by first | (go_simp; done) | (go_simp; rfl)) (HTB.out _) ?_
              intro W' hb
              refine hK.out _ _ ⟨pw_cell_below hb.out c0, pw_cell_below hb.out c1, pw_cell_below hb.out c2, pw_cell_below hb.out c3, pw_cell_below hb.out c4, pw_cell_below hb.out c5, pw_cell_below hb.out c6, pw_cell_below hb.out c7, pw_cell_below hb.out c8, pw_cell_below hb.out c9, HB.step hb.out⟩ (fun hS => ?_)
              clear hK K hb c0 c1 c2 c3 c4 c5 c6 c7 c8 c9 HB
              try simp only [Act.put, List.setIfInBounds_toArray, List.set_cons_zero, List.set_cons_succ]
              refine wpAnyH_ready (rs := [29]) (by kernel_rfl) (by simp) ?_
              refine AllReadyH.cons (o := { dst := some 41, op := Go.Op.call { callee := Go.Callee.value (Go.Operand.func 23), args := #[Go.Operand.tmp 40], argTypes := #[9] }, type := 33, pos := "law.go:24", after := #[{ on := 28, ground := Go.Ground.data }, { on := 26, ground := Go.Ground.chain }, { on := 20, ground := Go.Ground.guard }], guard := some (20, false) }) rfl (fun K hK => ?_) ?_
              · obtain ⟨c0, c1, c2, c3, c4, c5, c6, c7, c8, c9, HB⟩ := hS
                refine rg_call (by rfl) _ _ (.agg (clsA t)) (by first | (go_simp; done) | (go_simp; rfl)) (S2.out _) ?_
                intro W' hb
                refine hK.out _ _ ⟨pw_cell_below hb.out c0, pw_cell_below hb.out c1, pw_cell_below hb.out c2, pw_cell_below hb.out c3, pw_cell_below hb.out c4, pw_cell_below hb.out c5, pw_cell_below hb.out c6, pw_cell_below hb.out c7, pw_cell_below hb.out c8, pw_cell_below hb.out c9, HB.step hb.out⟩ (fun hS => ?_)
                clear hK K hb c0 c1 c2 c3 c4 c5 c6 c7 c8 c9 HB
                try simp only [Act.put, List.setIfInBounds_toArray, List.set_cons_zero, List.set_cons_succ]
                refine wpAnyH_ready (rs := [32]) (by kernel_rfl) (by simp) ?_
                refine AllReadyH.cons (o := { dst := some 44, op := Go.Op.call { callee := Go.Callee.value (Go.Operand.func 24), args := #[Go.Operand.tmp 41, Go.Operand.tmp 43], argTypes := #[33, 5] }, type := 4, pos := "law.go:24", after := #[{ on := 29, ground := Go.Ground.data }, { on := 31, ground := Go.Ground.data }, { on := 29, ground := Go.Ground.chain }, { on := 20, ground := Go.Ground.guard }], guard := some (20, false) }) rfl (fun K hK => ?_) ?_
                · obtain ⟨c0, c1, c2, c3, c4, c5, c6, c7, c8, c9, HB⟩ := hS
                  refine rg_call (by rfl) _ _ (.bool a2) (by first | (go_simp; done) | (go_simp; rfl)) (HTR.out _) ?_
                  intro W' hb
                  refine hK.out _ _ ⟨pw_cell_below hb.out c0, pw_cell_below hb.out c1, pw_cell_below hb.out c2, pw_cell_below hb.out c3, pw_cell_below hb.out c4, pw_cell_below hb.out c5, pw_cell_below hb.out c6, pw_cell_below hb.out c7, pw_cell_below hb.out c8, pw_cell_below hb.out c9, HB.step hb.out⟩ (fun hS => ?_)
                  clear hK K hb c0 c1 c2 c3 c4 c5 c6 c7 c8 c9 HB
                  try simp only [Act.put, List.setIfInBounds_toArray, List.set_cons_zero, List.set_cons_succ]
                  refine' wpAnyH_take (i := 33) (oi := { dst := some 45, op := Go.Op.binOp Go.BinOp.neq 4 (Go.Operand.tmp 38) (Go.Operand.tmp 44) 4, type := 4, pos := "law.go:24", after := #[{ on := 26, ground := Go.Ground.data }, { on := 32, ground := Go.Ground.data }, { on := 20, ground := Go.Ground.guard }], guard := some (20, false) }) rfl (by kernel_rfl) (by kernel_rfl) (by kernel_rfl) (fun _ _ _ h => h) (Or.inl ⟨by rfl, ?hy54⟩) hS ?rest54
                  case hy54 => (intro w hSw; (try dsimp only at hSw); first | (go_simp; done) | (go_simp; with_reducible rfl))
                  try simp only [Act.put, List.setIfInBounds_toArray, List.set_cons_zero, List.set_cons_succ]
                  refine' wpAnyH_take (i := 34) (oi := { dst := some 46, op := Go.Op.pick (Go.Operand.tmp 32) (Go.Operand.const (Go.Value.bool true)) (Go.Operand.tmp 45), type := 4, pos := "law.go:24", after := #[{ on := 20, ground := Go.Ground.data }, { on := 33, ground := Go.Ground.data }], guard := none }) rfl (by kernel_rfl) (by kernel_rfl) (by kernel_rfl) (fun _ _ _ h => h) (Or.inl ⟨by rfl, ?hy55⟩) hS ?rest55
                  case hy55 => (intro w hSw; (try dsimp only at hSw); first | (go_simp; done) | (go_simp; with_reducible rfl))
                  try simp only [Act.put, List.setIfInBounds_toArray, List.set_cons_zero, List.set_cons_succ]
                  refine wpAnyH_done (by kernel_rfl) ?_ _
                  refine NoPanic.normal ?_
                  obtain ⟨c0, c1, c2, c3, c4, c5, c6, c7, c8, c9, HB⟩ := hS
                  go_upto_region 5 with (fail)
                  try simp only [Act.put, List.setIfInBounds_toArray, List.set_cons_zero, List.set_cons_succ]
                  refine wp_region_noPanic ?_
                  refine wp_region_held_drew (S := fun W => W.cell? ⟨g1, 0, none⟩ = some (.int .u64 (iv (clsW p 0))) ∧ W.cell? ⟨g1, 1, none⟩ = some (.int .u64 (iv (clsW p 1))) ∧ W.cell? ⟨g1, 2, none⟩ = some (.int .u64 (iv (clsW p 2))) ∧ W.cell? ⟨g1, 3, none⟩ = some (.int .u64 (iv (clsW p 3))) ∧ W.cell? ⟨g1, 4, none⟩ = some (.int .u64 (iv (clsW q 0))) ∧ W.cell? ⟨g1, 5, none⟩ = some (.int .u64 (iv (clsW q 1))) ∧ W.cell? ⟨g1, 6, none⟩ = some (.int .u64 (iv (clsW q 2))) ∧ W.cell? ⟨g1, 7, none⟩ = some (.int .u64 (iv (clsW q 3))) ∧ W.cell? ⟨g1, 8, none⟩ = some (.string s) ∧ W.cell? ⟨g1, 9, none⟩ = some (.int .u8 (n : Int)) ∧ BelowH w W) (by kernel_rfl) ⟨pw_cell_below (below_drew (Below.refl _ _)) c0, pw_cell_below (below_drew (Below.refl _ _)) c1, pw_cell_below (below_drew (Below.refl _ _)) c2, pw_cell_below (below_drew (Below.refl _ _)) c3, pw_cell_below (below_drew (Below.refl _ _)) c4, pw_cell_below (below_drew (Below.refl _ _)) c5, pw_cell_below (below_drew (Below.refl _ _)) c6, pw_cell_below (below_drew (Below.refl _ _)) c7, pw_cell_below (below_drew (Below.refl _ _)) c8, pw_cell_below (below_drew (Below.refl _ _)) c9, HB.drew⟩ (fun hS => ?_)
                  clear c0 c1 c2 c3 c4 c5 c6 c7 c8 c9 HB
                  refine' wpAnyH_take (i := 0) (oi := { dst := some 47, op := Go.Op.fieldAddr 35 (Go.Operand.tmp 1) 0, type := 0, pos := "law.go:27", after := #[], guard := none }) rfl (by kernel_rfl) (by kernel_rfl) (by kernel_rfl) (fun _ _ _ h => h) (Or.inl ⟨by rfl, ?hy1⟩) hS ?rest1
                  case hy1 => (intro w hSw; (try dsimp only at hSw); first | (go_simp; done) | (go_simp; with_reducible rfl))
                  try simp only [Act.put, List.setIfInBounds_toArray, List.set_cons_zero, List.set_cons_succ]
                  refine' wpAnyH_take (i := 1) (oi := { dst := some 48, op := Go.Op.load 33 (Go.Operand.tmp 47), type := 33, pos := "law.go:27", after := #[{ on := 0, ground := Go.Ground.data }], guard := none }) rfl (by kernel_rfl) (by kernel_rfl) (by kernel_rfl) (fun _ _ _ h => h) (Or.inl ⟨by rfl, ?hy2⟩) hS ?rest2
                  case hy2 => (intro w hSw; (try dsimp only at hSw); first | (go_simp; done) | (go_simp; with_reducible rfl))
                  try simp only [Act.put, List.setIfInBounds_toArray, List.set_cons_zero, List.set_cons_succ]
                  refine' wpAnyH_take (i := 2) (oi := { dst := some 49, op := Go.Op.fieldAddr 35 (Go.Operand.tmp 1) 1, type := 0, pos := "law.go:27", after := #[], guard := none }) rfl (by kernel_rfl) (by kernel_rfl) (by kernel_rfl) (fun _ _ _ h => h) (Or.inl ⟨by rfl, ?hy3⟩) hS ?rest3
                  case hy3 => (intro w hSw; (try dsimp only at hSw); first | (go_simp; done) | (go_simp; with_reducible rfl))
                  try simp only [Act.put, List.setIfInBounds_toArray, List.set_cons_zero, List.set_cons_succ]
                  refine' wpAnyH_take (i := 3) (oi := { dst := some 50, op := Go.Op.load 33 (Go.Operand.tmp 49), type := 33, pos := "law.go:27", after := #[{ on := 2, ground := Go.Ground.data }], guard := none }) rfl (by kernel_rfl) (by kernel_rfl) (by kernel_rfl) (fun _ _ _ h => h) (Or.inl ⟨by rfl, ?hy4⟩) hS ?rest4
                  case hy4 => (intro w hSw; (try dsimp only at hSw); first | (go_simp; done) | (go_simp; with_reducible rfl))
                  try simp only [Act.put, List.setIfInBounds_toArray, List.set_cons_zero, List.set_cons_succ]
                  refine' wpAnyH_take (i := 5) (oi := { dst := some 52, op := Go.Op.fieldAddr 35 (Go.Operand.tmp 1) 0, type := 0, pos := "law.go:27", after := #[], guard := none }) rfl (by kernel_rfl) (by kernel_rfl) (by kernel_rfl) (fun _ _ _ h => h) (Or.inl ⟨by rfl, ?hy5⟩) hS ?rest5
                  case hy5 => (intro w hSw; (try dsimp only at hSw); first | (go_simp; done) | (go_simp; with_reducible rfl))
                  try simp only [Act.put, List.setIfInBounds_toArray, List.set_cons_zero, List.set_cons_succ]
                  refine' wpAnyH_take (i := 6) (oi := { dst := some 53, op := Go.Op.load 33 (Go.Operand.tmp 52), type := 33, pos := "law.go:27", after := #[{ on := 5, ground := Go.Ground.data }], guard := none }) rfl (by kernel_rfl) (by kernel_rfl) (by kernel_rfl) (fun _ _ _ h => h) (Or.inl ⟨by rfl, ?hy6⟩) hS ?rest6
                  case hy6 => (intro w hSw; (try dsimp only at hSw); first | (go_simp; done) | (go_simp; with_reducible rfl))
                  try simp only [Act.put, List.setIfInBounds_toArray, List.set_cons_zero, List.set_cons_succ]
                  refine' wpAnyH_take (i := 7) (oi := { dst := some 54, op := Go.Op.fieldAddr 35 (Go.Operand.tmp 1) 1, type := 0, pos := "law.go:27", after := #[], guard := none }) rfl (by kernel_rfl) (by kernel_rfl) (by kernel_rfl) (fun _ _ _ h => h) (Or.inl ⟨by rfl, ?hy7⟩) hS ?rest7
                  case hy7 => (intro w hSw; (try dsimp only at hSw); first | (go_simp; done) | (go_simp; with_reducible rfl))
                  try simp only [Act.put, List.setIfInBounds_toArray, List.set_cons_zero, List.set_cons_succ]
                  refine' wpAnyH_take (i := 8) (oi := { dst := some 55, op := Go.Op.load 33 (Go.Operand.tmp 54), type := 33, pos := "law.go:27", after := #[{ on := 7, ground := Go.Ground.data }], guard := none }) rfl (by kernel_rfl) (by kernel_rfl) (by kernel_rfl) (fun _ _ _ h => h) (Or.inl ⟨by rfl, ?hy8⟩) hS ?rest8
                  case hy8 => (intro w hSw; (try dsimp only at hSw); first | (go_simp; done) | (go_simp; with_reducible rfl))
                  try simp only [Act.put, List.setIfInBounds_toArray, List.set_cons_zero, List.set_cons_succ]
                  refine wpAnyH_ready (rs := [4]) (by kernel_rfl) (by simp) ?_
                  refine AllReadyH.cons (o := { dst := some 51, op := Go.Op.call { callee := Go.Callee.value (Go.Operand.func 25), args := #[Go.Operand.tmp 48, Go.Operand.tmp 50], argTypes := #[33, 33] }, type := 33, pos := "law.go:27", after := #[{ on := 1, ground := Go.Ground.data }, { on := 3, ground := Go.Ground.data }], guard := none }) rfl (fun K hK => ?_) ?_
                  · obtain ⟨c0, c1, c2, c3, c4, c5, c6, c7, c8, c9, HB⟩ := hS
                    refine rg_call (by rfl) _ _ (.agg (clsA (joinC p q))) (by first | (go_simp; done) | (go_simp; rfl)) (JB.out _) ?_
                    intro W' hb
                    refine hK.out _ _ ⟨pw_cell_below hb.out c0, pw_cell_below hb.out c1, pw_cell_below hb.out c2, pw_cell_below hb.out c3, pw_cell_below hb.out c4, pw_cell_below hb.out c5, pw_cell_below hb.out c6, pw_cell_below hb.out c7, pw_cell_below hb.out c8, pw_cell_below hb.out c9, HB.step hb.out⟩ (fun hS => ?_)
                    clear hK K hb c0 c1 c2 c3 c4 c5 c6 c7 c8 c9 HB
                    try simp only [Act.put, List.setIfInBounds_toArray, List.set_cons_zero, List.set_cons_succ]
                    refine wpAnyH_ready (rs := [9]) (by kernel_rfl) (by simp) ?_
                    refine AllReadyH.cons (o := { dst := some 56, op := Go.Op.call { callee := Go.Callee.value (Go.Operand.func 26), args := #[Go.Operand.tmp 53, Go.Operand.tmp 55], argTypes := #[33, 33] }, type := 33, pos := "law.go:27", after := #[{ on := 6, ground := Go.Ground.data }, { on := 8, ground := Go.Ground.data }, { on := 4, ground := Go.Ground.chain }], guard := none }) rfl (fun K hK => ?_) ?_
                    · obtain ⟨c0, c1, c2, c3, c4, c5, c6, c7, c8, c9, HB⟩ := hS
                      refine rg_call (by rfl) _ _ (.agg (clsA (joinC p q))) (by first | (go_simp; done) | (go_simp; rfl)) (JR.out _) ?_
                      intro W' hb
                      refine hK.out _ _ ⟨pw_cell_below hb.out c0, pw_cell_below hb.out c1, pw_cell_below hb.out c2, pw_cell_below hb.out c3, pw_cell_below hb.out c4, pw_cell_below hb.out c5, pw_cell_below hb.out c6, pw_cell_below hb.out c7, pw_cell_below hb.out c8, pw_cell_below hb.out c9, HB.step hb.out⟩ (fun hS => ?_)
                      clear hK K hb c0 c1 c2 c3 c4 c5 c6 c7 c8 c9 HB
                      try simp only [Act.put, List.setIfInBounds_toArray, List.set_cons_zero, List.set_cons_succ]
                      refine' wpAnyH_take (i := 10) (oi := { dst := some 57, op := Go.Op.binOp Go.BinOp.eql 33 (Go.Operand.tmp 51) (Go.Operand.tmp 56) 33, type := 4, pos := "law.go:27", after := #[{ on := 4, ground := Go.Ground.data }, { on := 9, ground := Go.Ground.data }], guard := none }) rfl (by kernel_rfl) (by kernel_rfl) (by kernel_rfl) (fun _ _ _ h => h) (Or.inl ⟨by rfl, ?hy9⟩) hS ?rest9
                      case hy9 => (intro w hSw; (try dsimp only at hSw); first | (go_simp; done) | (go_simp; with_reducible rfl))
                      try simp only [Act.put, List.setIfInBounds_toArray, List.set_cons_zero, List.set_cons_succ]
                      refine' wpAnyH_take (i := 11) (oi := { dst := some 58, op := Go.Op.move (Go.Operand.tmp 57), type := 4, pos := "law.go:27", after := #[{ on := 10, ground := Go.Ground.data }, { on := 9, ground := Go.Ground.chain }], guard := none }) rfl (by kernel_rfl) (by kernel_rfl) (by kernel_rfl) (fun _ _ _ h => h) (Or.inl ⟨by rfl, ?hy10⟩) hS ?rest10
                      case hy10 => (intro w hSw; (try dsimp only at hSw); first | (go_simp; done) | (go_simp; with_reducible rfl))
                      try simp only [Act.put, List.setIfInBounds_toArray, List.set_cons_zero, List.set_cons_succ]
                      refine' wpAnyH_take (i := 12) (oi := { dst := some 59, op := Go.Op.fieldAddr 35 (Go.Operand.tmp 1) 0, type := 0, pos := "law.go:27", after := #[{ on := 11, ground := Go.Ground.guard }], guard := some (11, true) }) rfl (by kernel_rfl) (by kernel_rfl) (by kernel_rfl) (fun _ _ _ h => h) (Or.inl ⟨by rfl, ?hy11⟩) hS ?rest11
                      case hy11 => (intro w hSw; (try dsimp only at hSw); first | (go_simp; done) | (go_simp; with_reducible rfl))
                      try simp only [Act.put, List.setIfInBounds_toArray, List.set_cons_zero, List.set_cons_succ]
                      refine' wpAnyH_take (i := 13) (oi := { dst := some 60, op := Go.Op.load 33 (Go.Operand.tmp 59), type := 33, pos := "law.go:27", after := #[{ on := 12, ground := Go.Ground.data }, { on := 11, ground := Go.Ground.guard }], guard := some (11, true) }) rfl (by kernel_rfl) (by kernel_rfl) (by kernel_rfl) (fun _ _ _ h => h) (Or.inl ⟨by rfl, ?hy12⟩) hS ?rest12
                      case hy12 => (intro w hSw; (try dsimp only at hSw); first | (go_simp; done) | (go_simp; with_reducible rfl))
                      try simp only [Act.put, List.setIfInBounds_toArray, List.set_cons_zero, List.set_cons_succ]
                      refine' wpAnyH_take (i := 14) (oi := { dst := some 61, op := Go.Op.fieldAddr 35 (Go.Operand.tmp 1) 1, type := 0, pos := "law.go:27", after := #[{ on := 11, ground := Go.Ground.guard }], guard := some (11, true) }) rfl (by kernel_rfl) (by kernel_rfl) (by kernel_rfl) (fun _ _ _ h => h) (Or.inl ⟨by rfl, ?hy13⟩) hS ?rest13
                      case hy13 => (intro w hSw; (try dsimp only at hSw); first | (go_simp; done) | (go_simp; with_reducible rfl))
                      try simp only [Act.put, List.setIfInBounds_toArray, List.set_cons_zero, List.set_cons_succ]
                      refine' wpAnyH_take (i := 15) (oi := { dst := some 62, op := Go.Op.load 33 (Go.Operand.tmp 61), type := 33, pos := "law.go:27", after := #[{ on := 14, ground := Go.Ground.data }, { on := 11, ground := Go.Ground.guard }], guard := some (11, true) }) rfl (by kernel_rfl) (by kernel_rfl) (by kernel_rfl) (fun _ _ _ h => h) (Or.inl ⟨by rfl, ?hy14⟩) hS ?rest14
                      case hy14 => (intro w hSw; (try dsimp only at hSw); first | (go_simp; done) | (go_simp; with_reducible rfl))
                      try simp only [Act.put, List.setIfInBounds_toArray, List.set_cons_zero, List.set_cons_succ]
                      refine' wpAnyH_take (i := 17) (oi := { dst := some 64, op := Go.Op.fieldAddr 35 (Go.Operand.tmp 1) 0, type := 0, pos := "law.go:27", after := #[{ on := 11, ground := Go.Ground.guard }], guard := some (11, true) }) rfl (by kernel_rfl) (by kernel_rfl) (by kernel_rfl) (fun _ _ _ h => h) (Or.inl ⟨by rfl, ?hy15⟩) hS ?rest15
                      case hy15 => (intro w hSw; (try dsimp only at hSw); first | (go_simp; done) | (go_simp; with_reducible rfl))
                      try simp only [Act.put, List.setIfInBounds_toArray, List.set_cons_zero, List.set_cons_succ]
                      refine' wpAnyH_take (i := 18) (oi := { dst := some 65, op := Go.Op.load 33 (Go.Operand.tmp 64), type := 33, pos := "law.go:27", after := #[{ on := 17, ground := Go.Ground.data }, { on := 11, ground := Go.Ground.guard }], guard := some (11, true) }) rfl (by kernel_rfl) (by kernel_rfl) (by kernel_rfl) (fun _ _ _ h => h) (Or.inl ⟨by rfl, ?hy16⟩) hS ?rest16
                      case hy16 => (intro w hSw; (try dsimp only at hSw); first | (go_simp; done) | (go_simp; with_reducible rfl))
                      try simp only [Act.put, List.setIfInBounds_toArray, List.set_cons_zero, List.set_cons_succ]
                      refine' wpAnyH_take (i := 19) (oi := { dst := some 66, op := Go.Op.fieldAddr 35 (Go.Operand.tmp 1) 1, type := 0, pos := "law.go:27", after := #[{ on := 11, ground := Go.Ground.guard }], guard := some (11, true) }) rfl (by kernel_rfl) (by kernel_rfl) (by kernel_rfl) (fun _ _ _ h => h) (Or.inl ⟨by rfl, ?hy17⟩) hS ?rest17
                      case hy17 => (intro w hSw; (try dsimp only at hSw); first | (go_simp; done) | (go_simp; with_reducible rfl))
                      try simp only [Act.put, List.setIfInBounds_toArray, List.set_cons_zero, List.set_cons_succ]
                      refine' wpAnyH_take (i := 20) (oi := { dst := some 67, op := Go.Op.load 33 (Go.Operand.tmp 66), type := 33, pos := "law.go:27", after := #[{ on := 19, ground := Go.Ground.data }, { on := 11, ground := Go.Ground.guard }], guard := some (11, true) }) rfl (by kernel_rfl) (by kernel_rfl) (by kernel_rfl) (fun _ _ _ h => h) (Or.inl ⟨by rfl, ?hy18⟩) hS ?rest18
                      case hy18 => (intro w hSw; (try dsimp only at hSw); first | (go_simp; done) | (go_simp; with_reducible rfl))
                      try simp only [Act.put, List.setIfInBounds_toArray, List.set_cons_zero, List.set_cons_succ]
                      refine wpAnyH_ready (rs := [16]) (by kernel_rfl) (by simp) ?_
                      refine AllReadyH.cons (o := { dst := some 63, op := Go.Op.call { callee := Go.Callee.value (Go.Operand.func 27), args := #[Go.Operand.tmp 60, Go.Operand.tmp 62], argTypes := #[33, 33] }, type := 33, pos := "law.go:27", after := #[{ on := 13, ground := Go.Ground.data }, { on := 15, ground := Go.Ground.data }, { on := 11, ground := Go.Ground.chain }, { on := 11, ground := Go.Ground.guard }], guard := some (11, true) }) rfl (fun K hK => ?_) ?_
                      · obtain ⟨c0, c1, c2, c3, c4, c5, c6, c7, c8, c9, HB⟩ := hS
                        refine rg_call (by rfl) _ _ (.agg (clsA (minusC p q))) (by first | (go_simp; done) | (go_simp; rfl)) (MB.out _) ?_
                        intro W' hb
                        refine hK.out _ _ ⟨pw_cell_below hb.out c0, pw_cell_below hb.out c1, pw_cell_below hb.out c2, pw_cell_below hb.out c3, pw_cell_below hb.out c4, pw_cell_below hb.out c5, pw_cell_below hb.out c6, pw_cell_below hb.out c7, pw_cell_below hb.out c8, pw_cell_below hb.out c9, HB.step hb.out⟩ (fun hS => ?_)
                        clear hK K hb c0 c1 c2 c3 c4 c5 c6 c7 c8 c9 HB
                        try simp only [Act.put, List.setIfInBounds_toArray, List.set_cons_zero, List.set_cons_succ]
                        refine wpAnyH_ready (rs := [21]) (by kernel_rfl) (by simp) ?_
                        refine AllReadyH.cons (o := { dst := some 68, op := Go.Op.call { callee := Go.Callee.value (Go.Operand.func 28), args := #[Go.Operand.tmp 65, Go.Operand.tmp 67], argTypes := #[33, 33] }, type := 33, pos := "law.go:27", after := #[{ on := 18, ground := Go.Ground.data }, { on := 20, ground := Go.Ground.data }, { on := 16, ground := Go.Ground.chain }, { on := 11, ground := Go.Ground.guard }], guard := some (11, true) }) rfl (fun K hK => ?_) ?_
                        · obtain ⟨c0, c1, c2, c3, c4, c5, c6, c7, c8, c9, HB⟩ := hS
                          refine rg_call (by rfl) _ _ (.agg (clsA (minusC p q))) (by first | (go_simp; done) | (go_simp; rfl)) (MR.out _) ?_
                          intro W' hb
                          refine hK.out _ _ ⟨pw_cell_below hb.out c0, pw_cell_below hb.out c1, pw_cell_below hb.out c2, pw_cell_below hb.out c3, pw_cell_below hb.out c4, pw_cell_below hb.out c5, pw_cell_below hb.out c6, pw_cell_below hb.out c7, pw_cell_below hb.out c8, pw_cell_below hb.out c9, HB.step hb.out⟩ (fun hS => ?_)
                          clear hK K hb c0 c1 c2 c3 c4 c5 c6 c7 c8 c9 HB
                          try simp only [Act.put, List.setIfInBounds_toArray, List.set_cons_zero, List.set_cons_succ]
                          refine' wpAnyH_take (i := 22) (oi := { dst := some 69, op := Go.Op.binOp Go.BinOp.eql 33 (Go.Operand.tmp 63) (Go.Operand.tmp 68) 33, type := 4, pos := "law.go:27", after := #[{ on := 16, ground := Go.Ground.data }, { on := 21, ground := Go.Ground.data }, { on := 11, ground := Go.Ground.guard }], guard := some (11, true) }) rfl (by kernel_rfl) (by kernel_rfl) (by kernel_rfl) (fun _ _ _ h => h) (Or.inl ⟨by rfl, ?hy19⟩) hS ?rest19
                          case hy19 => (intro w hSw; (try dsimp only at hSw); first | (go_simp; done) | (go_simp; with_reducible rfl))
                          try simp only [Act.put, List.setIfInBounds_toArray, List.set_cons_zero, List.set_cons_succ]
                          refine' wpAnyH_take (i := 23) (oi := { dst := some 70, op := Go.Op.pick (Go.Operand.tmp 58) (Go.Operand.tmp 69) (Go.Operand.const (Go.Value.bool false)), type := 4, pos := "law.go:27", after := #[{ on := 11, ground := Go.Ground.data }, { on := 22, ground := Go.Ground.data }], guard := none }) rfl (by kernel_rfl) (by kernel_rfl) (by kernel_rfl) (fun _ _ _ h => h) (Or.inl ⟨by rfl, ?hy20⟩) hS ?rest20
                          case hy20 => (intro w hSw; (try dsimp only at hSw); first | (go_simp; done) | (go_simp; with_reducible rfl))
                          try simp only [Act.put, List.setIfInBounds_toArray, List.set_cons_zero, List.set_cons_succ]
                          refine' wpAnyH_take (i := 24) (oi := { dst := some 71, op := Go.Op.move (Go.Operand.tmp 70), type := 4, pos := "law.go:27", after := #[{ on := 23, ground := Go.Ground.data }, { on := 21, ground := Go.Ground.chain }], guard := none }) rfl (by kernel_rfl) (by kernel_rfl) (by kernel_rfl) (fun _ _ _ h => h) (Or.inl ⟨by rfl, ?hy21⟩) hS ?rest21
                          case hy21 => (intro w hSw; (try dsimp only at hSw); first | (go_simp; done) | (go_simp; with_reducible rfl))
                          try simp only [Act.put, List.setIfInBounds_toArray, List.set_cons_zero, List.set_cons_succ]
                          refine' wpAnyH_take (i := 25) (oi := { dst := some 72, op := Go.Op.fieldAddr 35 (Go.Operand.tmp 1) 0, type := 0, pos := "law.go:27", after := #[{ on := 24, ground := Go.Ground.guard }], guard := some (24, true) }) rfl (by kernel_rfl) (by kernel_rfl) (by kernel_rfl) (fun _ _ _ h => h) (Or.inl ⟨by rfl, ?hy22⟩) hS ?rest22
                          case hy22 => (intro w hSw; (try dsimp only at hSw); first | (go_simp; done) | (go_simp; with_reducible rfl))
                          try simp only [Act.put, List.setIfInBounds_toArray, List.set_cons_zero, List.set_cons_succ]
                          refine' wpAnyH_take (i := 26) (oi := { dst := some 73, op := Go.Op.load 33 (Go.Operand.tmp 72), type := 33, pos := "law.go:27", after := #[{ on := 25, ground := Go.Ground.data }, { on := 24, ground := Go.Ground.guard }], guard := some (24, true) }) rfl (by kernel_rfl) (by kernel_rfl) (by kernel_rfl) (fun _ _ _ h => h) (Or.inl ⟨by rfl, ?hy23⟩) hS ?rest23
                          case hy23 => (intro w hSw; (try dsimp only at hSw); first | (go_simp; done) | (go_simp; with_reducible rfl))
                          try simp only [Act.put, List.setIfInBounds_toArray, List.set_cons_zero, List.set_cons_succ]
                          refine' wpAnyH_take (i := 28) (oi := { dst := some 75, op := Go.Op.fieldAddr 35 (Go.Operand.tmp 1) 0, type := 0, pos := "law.go:27", after := #[{ on := 24, ground := Go.Ground.guard }], guard := some (24, true) }) rfl (by kernel_rfl) (by kernel_rfl) (by kernel_rfl) (fun _ _ _ h => h) (Or.inl ⟨by rfl, ?hy24⟩) hS ?rest24
                          case hy24 => (intro w hSw; (try dsimp only at hSw); first | (go_simp; done) | (go_simp; with_reducible rfl))
                          try simp only [Act.put, List.setIfInBounds_toArray, List.set_cons_zero, List.set_cons_succ]
                          refine' wpAnyH_take (i := 29) (oi := { dst := some 76, op := Go.Op.load 33 (Go.Operand.tmp 75), type := 33, pos := "law.go:27", after := #[{ on := 28, ground := Go.Ground.data }, { on := 24, ground := Go.Ground.guard }], guard := some (24, true) }) rfl (by kernel_rfl) (by kernel_rfl) (by kernel_rfl) (fun _ _ _ h => h) (Or.inl ⟨by rfl, ?hy25⟩) hS ?rest25
                          case hy25 => (intro w hSw; (try dsimp only at hSw); first | (go_simp; done) | (go_simp; with_reducible rfl))
                          try simp only [Act.put, List.setIfInBounds_toArray, List.set_cons_zero, List.set_cons_succ]
                          refine wpAnyH_ready (rs := [27]) (by kernel_rfl) (by simp) ?_
                          refine AllReadyH.cons (o := { dst := some 74, op := Go.Op.call { callee := Go.Callee.value (Go.Operand.func 29), args := #[Go.Operand.tmp 73], argTypes := #[33] }, type := 33, pos := "law.go:27", after := #[{ on := 26, ground := Go.Ground.data }, { on := 24, ground := Go.Ground.chain }, { on := 24, ground := Go.Ground.guard }], guard := some (24, true) }) rfl (fun K hK => ?_) ?_
                          · obtain ⟨c0, c1, c2, c3, c4, c5, c6, c7, c8, c9, HB⟩ := hS
                            refine rg_call (by rfl) _ _ (.agg (clsA (notC p))) (by first | (go_simp; done) | (go_simp; rfl)) (NB.out _) ?_
                            intro W' hb
                            refine hK.out _ _ ⟨pw_cell_below hb.out c0, pw_cell_below hb.out c1, pw_cell_below hb.out c2, pw_cell_below hb.out c3, pw_cell_below hb.out c4, pw_cell_below hb.out c5, pw_cell_below hb.out c6, pw_cell_below hb.out c7, pw_cell_below hb.out c8, pw_cell_below hb.out c9, HB.step hb.out⟩ (fun hS => ?_)
                            clear hK K hb c0 c1 c2 c3 c4 c5 c6 c7 c8 c9 HB
                            try simp only [Act.put, List.setIfInBounds_toArray, List.set_cons_zero, List.set_cons_succ]
                            refine wpAnyH_ready (rs := [30]) (by kernel_rfl) (by simp) ?_
                            refine AllReadyH.cons (o := { dst := some 77, op := Go.Op.call { callee := Go.Callee.value (Go.Operand.func 30), args := #[Go.Operand.tmp 76], argTypes := #[33] }, type := 33, pos := "law.go:27", after := #[{ on := 29, ground := Go.Ground.data }, { on := 27, ground := Go.Ground.chain }, { on := 24, ground := Go.Ground.guard }], guard := some (24, true) }) rfl (fun K hK => ?_) ?_
                            · obtain ⟨c0, c1, c2, c3, c4, c5, c6, c7, c8, c9, HB⟩ := hS
                              refine rg_call (by rfl) _ _ (.agg (clsA (notC p))) (by first | (go_simp; done) | (go_simp; rfl)) (NR.out _) ?_
                              intro W' hb
                              refine hK.out _ _ ⟨pw_cell_below hb.out c0, pw_cell_below hb.out c1, pw_cell_below hb.out c2, pw_cell_below hb.out c3, pw_cell_below hb.out c4, pw_cell_below hb.out c5, pw_cell_below hb.out c6, pw_cell_below hb.out c7, pw_cell_below hb.out c8, pw_cell_below hb.out c9, HB.step hb.out⟩ (fun hS => ?_)
                              clear hK K hb c0 c1 c2 c3 c4 c5 c6 c7 c8 c9 HB
                              try simp only [Act.put, List.setIfInBounds_toArray, List.set_cons_zero, List.set_cons_succ]
                              refine' wpAnyH_take (i := 31) (oi := { dst := some 78, op := Go.Op.binOp Go.BinOp.eql 33 (Go.Operand.tmp 74) (Go.Operand.tmp 77) 33, type := 4, pos := "law.go:27", after := #[{ on := 27, ground := Go.Ground.data }, { on := 30, ground := Go.Ground.data }, { on := 24, ground := Go.Ground.guard }], guard := some (24, true) }) rfl (by kernel_rfl) (by kernel_rfl) (by kernel_rfl) (fun _ _ _ h => h) (Or.inl ⟨by rfl, ?hy26⟩) hS ?rest26
                              case hy26 => (intro w hSw; (try dsimp only at hSw); first | (go_simp; done) | (go_simp; with_reducible rfl))
                              try simp only [Act.put, List.setIfInBounds_toArray, List.set_cons_zero, List.set_cons_succ]
                              refine' wpAnyH_take (i := 32) (oi := { dst := some 79, op := Go.Op.pick (Go.Operand.tmp 71) (Go.Operand.tmp 78) (Go.Operand.const (Go.Value.bool false)), type := 4, pos := "law.go:27", after := #[{ on := 24, ground := Go.Ground.data }, { on := 31, ground := Go.Ground.data }], guard := none }) rfl (by kernel_rfl) (by kernel_rfl) (by kernel_rfl) (fun _ _ _ h => h) (Or.inl ⟨by rfl, ?hy27⟩) hS ?rest27
                              case hy27 => (intro w hSw; (try dsimp only at hSw); first | (go_simp; done) | (go_simp; with_reducible rfl))
                              try simp only [Act.put, List.setIfInBounds_toArray, List.set_cons_zero, List.set_cons_succ]
                              refine' wpAnyH_take (i := 33) (oi := { dst := some 2, op := Go.Op.assign (Go.Operand.tmp 79), type := 4, pos := "law.go:27", after := #[{ on := 32, ground := Go.Ground.data }, { on := 30, ground := Go.Ground.chain }, { on := 0, ground := Go.Ground.phase }, { on := 1, ground := Go.Ground.phase }, { on := 2, ground := Go.Ground.phase }, { on := 3, ground := Go.Ground.phase }, { on := 4, ground := Go.Ground.phase }, { on := 5, ground := Go.Ground.phase }, { on := 6, ground := Go.Ground.phase }, { on := 7, ground := Go.Ground.phase }, { on := 8, ground := Go.Ground.phase }, { on := 9, ground := Go.Ground.phase }, { on := 10, ground := Go.Ground.phase }, { on := 11, ground := Go.Ground.phase }, { on := 12, ground := Go.Ground.phase }, { on := 13, ground := Go.Ground.phase }, { on := 14, ground := Go.Ground.phase }, { on := 15, ground := Go.Ground.phase }, { on := 16, ground := Go.Ground.phase }, { on := 17, ground := Go.Ground.phase }, { on := 18, ground := Go.Ground.phase }, { on := 19, ground := Go.Ground.phase }, { on := 20, ground := Go.Ground.phase }, { on := 21, ground := Go.Ground.phase }, { on := 22, ground := Go.Ground.phase }, { on := 23, ground := Go.Ground.phase }, { on := 24, ground := Go.Ground.phase }, { on := 25, ground := Go.Ground.phase }, { on := 26, ground := Go.Ground.phase }, { on := 27, ground := Go.Ground.phase }, { on := 28, ground := Go.Ground.phase }, { on := 29, ground := Go.Ground.phase }, { on := 30, ground := Go.Ground.phase }, { on := 31, ground := Go.Ground.phase }, { on := 32, ground := Go.Ground.phase }], guard := none }) rfl (by kernel_rfl) (by kernel_rfl) (by kernel_rfl) (fun _ _ _ h => h) (Or.inl ⟨by rfl, ?hy28⟩) hS ?rest28
                              case hy28 => (intro w hSw; (try dsimp only at hSw); first | (go_simp; done) | (go_simp; with_reducible rfl))
                              try simp only [Act.put, List.setIfInBounds_toArray, List.set_cons_zero, List.set_cons_succ]
                              refine wpAnyH_done (by kernel_rfl) ?_ _
                              refine NoPanic.normal ?_
                              obtain ⟨c0, c1, c2, c3, c4, c5, c6, c7, c8, c9, HB⟩ := hS
                              go_wp2
                              go_ret
                              exact ⟨rfl, HB.out⟩
                            exact AllReadyH.nil
                          exact AllReadyH.nil
                        exact AllReadyH.nil
                      exact AllReadyH.nil
                    exact AllReadyH.nil
                  exact AllReadyH.nil
                exact AllReadyH.nil
              exact AllReadyH.nil
            exact AllReadyH.nil
          exact AllReadyH.nil
        exact AllReadyH.nil
      exact AllReadyH.nil
    exact AllReadyH.nil
  exact AllReadyH.nil
theorem quarrylaw02_BlockClasses.walk (p q : Nat → Bool) (s : ByteArray) (x : Int) (w : World) (hs : s.size ≤ 140737488351232) (hx : 0 ≤ x ∧ x < 256) :
    Calls Try.prog 6 #[.agg #[.int .u64 (iv (clsW p 0)), .int .u64 (iv (clsW p 1)), .int .u64 (iv (clsW p 2)), .int .u64 (iv (clsW p 3)), .int .u64 (iv (clsW q 0)), .int .u64 (iv (clsW q 1)), .int .u64 (iv (clsW q 2)), .int .u64 (iv (clsW q 3)), .string s, .int .u8 x]] w fun e w' => e = .returned (.bool true) ∧ Below w.heap.size w w' := by
  obtain ⟨n, rfl⟩ : ∃ n : Nat, x = (n : Int) := ⟨x.toNat, by omega⟩
  exact quarrylaw02_BlockClasses.walkN p q s n w (by omega) (by omega)
end


end Go.Proofs.Ytoimelcdhkmceaa.PL
