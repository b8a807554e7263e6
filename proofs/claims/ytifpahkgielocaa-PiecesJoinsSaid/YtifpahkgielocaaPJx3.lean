-- Written by a program (myprint.py, over the kit's print) for this claim. Not trusted: Lean checks it.
import Derived.Test.YtifpahkgielocaaPJx0
import Derived.Test.YtifpahkgielocaaPJx1
import Derived.Test.YtifpahkgielocaaPJx2
namespace Go.Proofs.Ytifpahkgielocaa.PJ
open Go.RowKit Go.Proofs.YtifpahkgielocaaW.PrintWords Go.Proofs.YtifpahkgielocaaW.PrintLast Go.Proofs.YtifpahkgielocaaW.PrintMore
attribute [local go_sem] max2_int min2_int max_two min_two max_three min_three max_four min_four   -- for this text's walks alone
set_option linter.unusedVariables false
set_option linter.unusedSimpArgs false

/-! ### quarrylaw09_PiecesJoins: function 4 -/
section
open Go.Proofs.YtifpahkgielocaaQ Go.Proofs.YtifpahkgielocaaM
def quarrylaw09_PiecesJoins.Pure : Prop := True
set_option maxHeartbeats 1000000 in
set_option maxRecDepth 100000 in
theorem quarrylaw09_PiecesJoins.walkP (o : Nat → Bool) (u : Nat → Int) (o' : Nat → Bool) (u' : Nat → Int) (w : World) :
    Calls Try.prog 4 #[.agg (partA o u), .agg (partA o' u')] w fun e w' => e = .returned (.bool true) ∧ Below w.heap.size w w' := by
  have HB := BelowH.refl w
  obtain ⟨r, hr⟩ : ∃ r, r = joinA o u o' u' := ⟨_, rfl⟩
  obtain ⟨ro, ru, hro⟩ : ∃ (ro : Nat → Bool) (ru : Nat → Int), r = partA ro ru := by
    rw [hr]
    unfold joinA
    split
    · exact ⟨_, _, rfl⟩
    · exact ⟨_, _, rfl⟩
  have J1 : Aside0 (∀ W, Calls Try.prog 15 #[.agg (partA o u), .agg (partA o' u')] W fun e w' => e = .returned (.agg (partA ro ru)) ∧ Below W.heap.size W w') := ⟨fun W => hro ▸ hr ▸ pieces_Join.calls o u o' u' W⟩
  have J2 : Aside0 (∀ W, Calls Try.prog 16 #[.agg (partA o u), .agg (partA o' u')] W fun e w' => e = .returned (.agg (partA ro ru)) ∧ Below W.heap.size W w') := ⟨fun W => hro ▸ hr ▸ quarryref09_Join.calls o u o' u' W⟩
  have AW : Aside0 (∀ W, Calls Try.prog 14 #[] W fun e w' => e = .returned (.bool true) ∧ Below W.heap.size W w') := ⟨fun W => quarrylaw09_awake.calls W⟩
  have QE : ∀ W : World, (Op.equalIn 10000 25 (.agg (partA ro ru)) (.agg (partA ro ru))).run Try.prog W = .ok true W := fun W => by
    have h := eqPart ro ru ro ru W
    rw [peq_true (fun _ _ => rfl) (fun _ _ => rfl)] at h
    exact h
  clear hr hro
  go_enter Try.func4, Try.ntmps4
  go_upto_region 1 with (first
    | ((with_reducible refine gate_dst (N := 2) rfl ?_); refine ev_alloc HB rfl (partA o u) 25 ?hr ?_; (case hr => first | (go_simp; done) | (go_simp; rfl)); intro g2 w1 G_g2 GE_g2 B_g2 HBn K_g2; clear HB; have HB := HBn; clear HBn)
    | ((with_reducible refine gate_dst (N := 3) rfl ?_); refine ev_alloc HB rfl (partA o' u') 25 ?hr ?_; (case hr => first | (go_simp; done) | (go_simp; rfl)); intro s3g w2 G_s3g GE_s3g B_s3g HBn K_s3g; clear HB; have HB := HBn; clear HBn))
  have s2 := B_g2.below K_s3g.out
  have s3 := B_s3g
  clear B_g2 K_s3g K_g2 B_s3g
  try simp only [Act.put, List.setIfInBounds_toArray, List.set_cons_zero, List.set_cons_succ]
  refine wp_region_noPanic ?_
  refine wp_region_held_drew (S := fun W => Blk W g2 (partA o u) 25 ∧ Blk W s3g (partA o' u') 25 ∧ BelowH w W) (by kernel_rfl) ⟨s2.drew, s3.drew, HB.drew⟩ (fun hS => ?_)
  clear s2 s3 HB
  refine wpAnyH_take (i := 0) (oi := { dst := some 5, op := Go.Op.load 25 (Go.Operand.tmp 2), type := 25, pos := "law.go:24", after := #[], guard := none }) rfl (by kernel_rfl) (by kernel_rfl) (by kernel_rfl) (fun _ _ _ h => h) (rg_load (by rfl) (fun _ hS => hS.1) 25 _ rfl rfl Try.underlying25 rfl (sizeP' _ _)) hS ?_
  try simp only [Act.put, List.setIfInBounds_toArray, List.set_cons_zero, List.set_cons_succ]
  refine wpAnyH_take (i := 1) (oi := { dst := some 6, op := Go.Op.load 25 (Go.Operand.tmp 3), type := 25, pos := "law.go:24", after := #[], guard := none }) rfl (by kernel_rfl) (by kernel_rfl) (by kernel_rfl) (fun _ _ _ h => h) (rg_load (by rfl) (fun _ hS => hS.2.1) 25 _ rfl rfl Try.underlying25 rfl (sizeP' _ _)) hS ?_
  try simp only [Act.put, List.setIfInBounds_toArray, List.set_cons_zero, List.set_cons_succ]
  refine wpAnyH_take (i := 3) (oi := { dst := some 8, op := Go.Op.load 25 (Go.Operand.tmp 2), type := 25, pos := "law.go:24", after := #[], guard := none }) rfl (by kernel_rfl) (by kernel_rfl) (by kernel_rfl) (fun _ _ _ h => h) (rg_load (by rfl) (fun _ hS => hS.1) 25 _ rfl rfl Try.underlying25 rfl (sizeP' _ _)) hS ?_
  try simp only [Act.put, List.setIfInBounds_toArray, List.set_cons_zero, List.set_cons_succ]
  refine wpAnyH_take (i := 4) (oi := { dst := some 9, op := Go.Op.load 25 (Go.Operand.tmp 3), type := 25, pos := "law.go:24", after := #[], guard := none }) rfl (by kernel_rfl) (by kernel_rfl) (by kernel_rfl) (fun _ _ _ h => h) (rg_load (by rfl) (fun _ hS => hS.2.1) 25 _ rfl rfl Try.underlying25 rfl (sizeP' _ _)) hS ?_
  try simp only [Act.put, List.setIfInBounds_toArray, List.set_cons_zero, List.set_cons_succ]
  refine wpAnyH_ready (rs := [2]) (by kernel_rfl) (by simp) ?_
  refine AllReadyH.cons (o := { dst := some 7, op := Go.Op.call { callee := Go.Callee.value (Go.Operand.func 15), args := #[Go.Operand.tmp 5, Go.Operand.tmp 6], argTypes := #[25, 25] }, type := 25, pos := "law.go:24", after := #[{ on := 0, ground := Go.Ground.data }, { on := 1, ground := Go.Ground.data }], guard := none }) rfl (fun K hK => ?_) ?_
  · obtain ⟨s2, s3, HB⟩ := hS
    refine rg_call (by rfl) _ _ (.agg (partA ro ru)) (by first | (go_simp; done) | (go_simp; rfl)) (J1.out _) ?_
    intro W' hb
    refine hK.out _ _ ⟨s2.below hb.out, s3.below hb.out, HB.step hb.out⟩ (fun hS => ?_)
    clear hK K hb s2 s3 HB
    try simp only [Act.put, List.setIfInBounds_toArray, List.set_cons_zero, List.set_cons_succ]
    refine wpAnyH_ready (rs := [5]) (by kernel_rfl) (by simp) ?_
    refine AllReadyH.cons (o := { dst := some 10, op := Go.Op.call { callee := Go.Callee.value (Go.Operand.func 16), args := #[Go.Operand.tmp 8, Go.Operand.tmp 9], argTypes := #[25, 25] }, type := 25, pos := "law.go:24", after := #[{ on := 3, ground := Go.Ground.data }, { on := 4, ground := Go.Ground.data }, { on := 2, ground := Go.Ground.chain }], guard := none }) rfl (fun K hK => ?_) ?_
    · obtain ⟨s2, s3, HB⟩ := hS
      refine rg_call (by rfl) _ _ (.agg (partA ro ru)) (by first | (go_simp; done) | (go_simp; rfl)) (J2.out _) ?_
      intro W' hb
      refine hK.out _ _ ⟨s2.below hb.out, s3.below hb.out, HB.step hb.out⟩ (fun hS => ?_)
      clear hK K hb s2 s3 HB
      try simp only [Act.put, List.setIfInBounds_toArray, List.set_cons_zero, List.set_cons_succ]
      refine' wpAnyH_take (i := 6) (oi := { dst := some 11, op := Go.Op.binOp Go.BinOp.eql 25 (Go.Operand.tmp 7) (Go.Operand.tmp 10) 25, type := 4, pos := "law.go:24", after := #[{ on := 2, ground := Go.Ground.data }, { on := 5, ground := Go.Ground.data }], guard := none }) rfl (by kernel_rfl) (by kernel_rfl) (by kernel_rfl) (fun _ _ _ h => h) (Or.inl ⟨by rfl, ?hy1⟩) hS ?rest1
      case hy1 => (intro w hSw; (try dsimp only at hSw); first | (go_simp; done) | (go_simp; with_reducible rfl))
      try simp only [Act.put, List.setIfInBounds_toArray, List.set_cons_zero, List.set_cons_succ]
      refine' wpAnyH_take (i := 7) (oi := { dst := some 12, op := Go.Op.move (Go.Operand.tmp 11), type := 4, pos := "law.go:24", after := #[{ on := 6, ground := Go.Ground.data }, { on := 5, ground := Go.Ground.chain }], guard := none }) rfl (by kernel_rfl) (by kernel_rfl) (by kernel_rfl) (fun _ _ _ h => h) (Or.inl ⟨by rfl, ?hy2⟩) hS ?rest2
      case hy2 => (intro w hSw; (try dsimp only at hSw); first | (go_simp; done) | (go_simp; with_reducible rfl))
      try simp only [Act.put, List.setIfInBounds_toArray, List.set_cons_zero, List.set_cons_succ]
      refine wpAnyH_ready (rs := [8]) (by kernel_rfl) (by simp) ?_
      refine AllReadyH.cons (o := { dst := some 13, op := Go.Op.call { callee := Go.Callee.value (Go.Operand.func 14), args := #[], argTypes := #[] }, type := 4, pos := "law.go:24", after := #[{ on := 7, ground := Go.Ground.chain }, { on := 7, ground := Go.Ground.guard }], guard := some (7, true) }) rfl (fun K hK => ?_) ?_
      · obtain ⟨s2, s3, HB⟩ := hS
        refine rg_call (by rfl) _ _ (.bool true) (by first | (go_simp; done) | (go_simp; rfl)) (AW.out _) ?_
        intro W' hb
        refine hK.out _ _ ⟨s2.below hb.out, s3.below hb.out, HB.step hb.out⟩ (fun hS => ?_)
        clear hK K hb s2 s3 HB
        try simp only [Act.put, List.setIfInBounds_toArray, List.set_cons_zero, List.set_cons_succ]
        refine' wpAnyH_take (i := 9) (oi := { dst := some 14, op := Go.Op.pick (Go.Operand.tmp 12) (Go.Operand.tmp 13) (Go.Operand.const (Go.Value.bool false)), type := 4, pos := "law.go:24", after := #[{ on := 7, ground := Go.Ground.data }, { on := 8, ground := Go.Ground.data }], guard := none }) rfl (by kernel_rfl) (by kernel_rfl) (by kernel_rfl) (fun _ _ _ h => h) (Or.inl ⟨by rfl, ?hy3⟩) hS ?rest3
        case hy3 => (intro w hSw; (try dsimp only at hSw); first | (go_simp; done) | (go_simp; with_reducible rfl))
        try simp only [Act.put, List.setIfInBounds_toArray, List.set_cons_zero, List.set_cons_succ]
        refine' wpAnyH_take (i := 10) (oi := { dst := some 4, op := Go.Op.assign (Go.Operand.tmp 14), type := 4, pos := "law.go:24", after := #[{ on := 9, ground := Go.Ground.data }, { on := 8, ground := Go.Ground.chain }, { on := 0, ground := Go.Ground.phase }, { on := 1, ground := Go.Ground.phase }, { on := 2, ground := Go.Ground.phase }, { on := 3, ground := Go.Ground.phase }, { on := 4, ground := Go.Ground.phase }, { on := 5, ground := Go.Ground.phase }, { on := 6, ground := Go.Ground.phase }, { on := 7, ground := Go.Ground.phase }, { on := 8, ground := Go.Ground.phase }, { on := 9, ground := Go.Ground.phase }], guard := none }) rfl (by kernel_rfl) (by kernel_rfl) (by kernel_rfl) (fun _ _ _ h => h) (Or.inl ⟨by rfl, ?hy4⟩) hS ?rest4
        case hy4 => (intro w hSw; (try dsimp only at hSw); first | (go_simp; done) | (go_simp; with_reducible rfl))
        try simp only [Act.put, List.setIfInBounds_toArray, List.set_cons_zero, List.set_cons_succ]
        refine wpAnyH_done (by kernel_rfl) ?_ _
        refine NoPanic.normal ?_
        obtain ⟨s2, s3, HB⟩ := hS
        go_wp2
        go_ret
        exact ⟨rfl, HB.out⟩
      exact AllReadyH.nil
    exact AllReadyH.nil
  exact AllReadyH.nil
theorem quarrylaw09_PiecesJoins.walk (o : Nat → Bool) (u : Nat → Int) (o' : Nat → Bool) (u' : Nat → Int) (w : World) (_ : True) (_ : True) :
    Calls Try.prog 4 #[.agg #[.bool (o 0), .bool (o 1), .int .i64 (u 0), .int .i64 (u 1)], .agg #[.bool (o' 0), .bool (o' 1), .int .i64 (u' 0), .int .i64 (u' 1)]] w fun e w' => e = .returned (.bool true) ∧ Below w.heap.size w w' := quarrylaw09_PiecesJoins.walkP o u o' u' w
end


end Go.Proofs.Ytifpahkgielocaa.PJ
