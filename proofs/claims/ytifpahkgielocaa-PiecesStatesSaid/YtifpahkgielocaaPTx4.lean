-- Written by a program (myprint.py, over the kit's print) for this claim. Not trusted: Lean checks it.
import Derived.Test.YtifpahkgielocaaPTx0
import Derived.Test.YtifpahkgielocaaPTx1
import Derived.Test.YtifpahkgielocaaPTx3
namespace Go.Proofs.Ytifpahkgielocaa.PT
open Go.RowKit Go.Proofs.YtifpahkgielocaaW.PrintWords Go.Proofs.YtifpahkgielocaaW.PrintLast Go.Proofs.YtifpahkgielocaaW.PrintMore
attribute [local go_sem] max2_int min2_int max_two min_two max_three min_three max_four min_four   -- for this text's walks alone
set_option linter.unusedVariables false
set_option linter.unusedSimpArgs false

/-! ### quarrylaw09_PiecesStates: function 6 -/
section
open Go.Proofs.YtifpahkgielocaaQ Go.Proofs.YtifpahkgielocaaM
def quarrylaw09_PiecesStates.Pure : Prop := ∀ s : ByteArray, s.size ≤ 140737488351232 → (∃ k, quotes_Open.f k s = some (partO s 0)) ∧ ∃ k, quotes_Open.f k ({ data := #[92] } ++ s) = some (partO s 1)
set_option maxHeartbeats 1000000 in
set_option maxRecDepth 100000 in
theorem quarrylaw09_PiecesStates.walk (hP : quarrylaw09_PiecesStates.Pure) (s : ByteArray) (w : World) (w0 : s.size ≤ 140737488351232) :
    Calls Try.prog 6 #[.string s] w fun e w' => e = .returned (.bool true) ∧ Below w.heap.size w w' := by
  have HB := BelowH.refl w
  obtain ⟨⟨k1, h1⟩, ⟨k2, h2⟩⟩ := hP s w0
  obtain ⟨so, hso⟩ : ∃ so, so = partO s := ⟨_, rfl⟩
  obtain ⟨su, hsu⟩ : ∃ su, su = partU s := ⟨_, rfl⟩
  rw [← hso] at h1 h2
  have z1 : ¬ (9223372036854775807 < 1 + s.size) := by omega
  have e0 : esc s false s.size = (su 0 == 1) := by
    rw [hsu]
    show _ = ((if esc s false s.size then (1 : Int) else 0) == 1)
    cases esc s false s.size <;> rfl
  have e1 : esc s true s.size = (su 1 == 1) := by
    rw [hsu]
    show _ = ((if esc s true s.size then (1 : Int) else 0) == 1)
    cases esc s true s.size <;> rfl
  have g0 : 0 ≤ su 0 ∧ su 0 < 2 := by
    rw [hsu]
    unfold partU
    split <;> omega
  have g1 : 0 ≤ su 1 ∧ su 1 < 2 := by
    rw [hsu]
    unfold partU
    split <;> omega
  have O1 : Aside0 (∀ W, Calls Try.prog 10 #[.string s] W fun e w' => e = .returned (.agg (partA so su)) ∧ Below W.heap.size W w') := ⟨fun W => hso ▸ hsu ▸ pieces_Of.calls s W (by omega)⟩
  have P1 : Aside0 (∀ W, Calls Try.prog 17 #[.string s] W fun e w' => e = .returned (.bool (so 0)) ∧ Below W.heap.size W w') := ⟨fun W => quotes_Open.calls k1 s _ W h1⟩
  have P2 : Aside0 (∀ W, Calls Try.prog 17 #[.string ({ data := #[92] } ++ s)] W fun e w' => e = .returned (.bool (so 1)) ∧ Below W.heap.size W w') := ⟨fun W => quotes_Open.calls k2 _ _ W h2⟩
  have B1 : Aside0 (∀ W, Calls Try.prog 18 #[.string s, .bool false] W fun e w' => e = .returned (.bool ((su 0 == 1))) ∧ Below W.heap.size W w') := ⟨fun W => (escape_Behind.calls (s.size + 2) s false _ W (e0 ▸ behind_all s (by omega) false _ (by omega))).mono fun e w' h => ⟨h.1, h.2.below⟩⟩
  have B2 : Aside0 (∀ W, Calls Try.prog 18 #[.string s, .bool true] W fun e w' => e = .returned (.bool ((su 1 == 1))) ∧ Below W.heap.size W w') := ⟨fun W => (escape_Behind.calls (s.size + 2) s true _ W (e1 ▸ behind_all s (by omega) true _ (by omega))).mono fun e w' h => ⟨h.1, h.2.below⟩⟩
  have AW : Aside0 (∀ W, Calls Try.prog 14 #[] W fun e w' => e = .returned (.bool true) ∧ Below W.heap.size W w') := ⟨fun W => quarrylaw09_awake.calls W⟩
  have n1 := g0.1
  have n2 := g0.2
  have n3 := g1.1
  have n4 := g1.2
  clear hso hsu w0 hP h1 h2 e0 e1 g0 g1
  obtain ⟨b0, hb0⟩ : ∃ b, b = so 0 := ⟨_, rfl⟩
  obtain ⟨b1, hb1⟩ : ∃ b, b = so 1 := ⟨_, rfl⟩
  obtain ⟨u0, hu0⟩ : ∃ b, b = su 0 := ⟨_, rfl⟩
  obtain ⟨u1, hu1⟩ : ∃ b, b = su 1 := ⟨_, rfl⟩
  rw [← hb0] at P1
  rw [← hb1] at P2
  rw [← hu0] at B1 n1 n2
  rw [← hu1] at B2 n3 n4
  have hA : partA so su = #[.bool b0, .bool b1, .int .i64 u0, .int .i64 u1] := by rw [hb0, hb1, hu0, hu1]; rfl
  have HN1 := Aside0.mk n1
  have HN2 := Aside0.mk n2
  have HN3 := Aside0.mk n3
  have HN4 := Aside0.mk n4
  have HA := Aside0.mk hA
  clear hb0 hb1 hu0 hu1 n1 n2 n3 n4 hA
  have q1 : decide (0 ≤ u0) = true := decide_eq_true HN1.out
  have q2 : decide (u0 < 2) = true := decide_eq_true HN2.out
  have q3 : decide (0 ≤ u1) = true := decide_eq_true HN3.out
  have q4 : decide (u1 < 2) = true := decide_eq_true HN4.out
  go_enter Try.func6, Try.ntmps6
  go_upto_region 2 with (first
    | (go_at_call 10; (with_reducible refine (O1.out _).mono ?_); rintro e w5 ⟨rfl, hb5⟩; have HBn := HB.step hb5; clear HB hb5; have HB := HBn; clear HBn)
    | ((with_reducible refine gate_dst (N := 3) rfl ?_); refine ev_alloc HB rfl (partA (fun _ => false) (fun _ => 0)) 25 ?hr ?_; (case hr => (rw [← partA_zero]; first | (go_simp; done) | (go_simp; rfl))); intro g3 w7 G_g3 GE_g3 B_g3 HBn K_g3; clear HB; have HB := HBn; clear HBn)
    | ((with_reducible refine gate_ (Op.store 25 (.tmp 3) (.tmp 5)) rfl ?_); refine ev_store HB B_g3 GE_g3 rfl 25 _ _ rfl rfl rfl (sizeP' _ _) rfl (partA_one _ _) ?_; intro w10 B3 HBn K_w10; clear HB; have HB := HBn; clear HBn))
  rw [HA.out] at B3
  have c0 : w10.cell? ⟨g3, 0, none⟩ = some (.bool b0) := B3.cell (i := 0) rfl
  have c1 : w10.cell? ⟨g3, 1, none⟩ = some (.bool b1) := B3.cell (i := 1) rfl
  have c2 : w10.cell? ⟨g3, 2, none⟩ = some (.int .i64 u0) := B3.cell (i := 2) rfl
  have c3 : w10.cell? ⟨g3, 3, none⟩ = some (.int .i64 u1) := B3.cell (i := 3) rfl
  clear B3 B_g3 K_w10 K_g3 G_g3 GE_g3
  try simp only [Act.put, List.setIfInBounds_toArray, List.set_cons_zero, List.set_cons_succ]
  refine wp_region_noPanic ?_
  refine wp_region_held_drew (S := fun W => W.cell? ⟨g3, 0, none⟩ = some (.bool b0) ∧ W.cell? ⟨g3, 1, none⟩ = some (.bool b1) ∧ W.cell? ⟨g3, 2, none⟩ = some (.int .i64 u0) ∧ W.cell? ⟨g3, 3, none⟩ = some (.int .i64 u1) ∧ BelowH w W) (by kernel_rfl) ⟨pw_cell_below (below_drew (Below.refl _ _)) c0, pw_cell_below (below_drew (Below.refl _ _)) c1, pw_cell_below (below_drew (Below.refl _ _)) c2, pw_cell_below (below_drew (Below.refl _ _)) c3, HB.drew⟩ (fun hS => ?_)
  clear c0 c1 c2 c3 HB
  refine' wpAnyH_take (i := 0) (oi := Oper.mk _ _ _ _ _ _) rfl (by kernel_rfl) (by kernel_rfl) (by kernel_rfl) (fun _ _ _ h => h) (Or.inl ⟨by rfl, ?hy34⟩) hS ?rest34
  case hy34 => (intro w hSw; (try dsimp only at hSw); first | (go_simp; done) | (go_simp; with_reducible rfl))
  try simp only [Act.put, List.setIfInBounds_toArray, List.set_cons_zero, List.set_cons_succ]
  refine' wpAnyH_take (i := 1) (oi := Oper.mk _ _ _ _ _ _) rfl (by kernel_rfl) (by kernel_rfl) (by kernel_rfl) (fun _ _ _ h => h) (Or.inl ⟨by rfl, ?hy35⟩) hS ?rest35
  case hy35 => (intro w hSw; (try dsimp only at hSw); first | (go_simp; done) | (go_simp; with_reducible rfl))
  try simp only [Act.put, List.setIfInBounds_toArray, List.set_cons_zero, List.set_cons_succ]
  refine' wpAnyH_take (i := 2) (oi := Oper.mk _ _ _ _ _ _) rfl (by kernel_rfl) (by kernel_rfl) (by kernel_rfl) (fun _ _ _ h => h) (Or.inl ⟨by rfl, ?hy36⟩) hS ?rest36
  case hy36 => (intro w hSw; (try dsimp only at hSw); first | (go_simp; done) | (go_simp; with_reducible rfl))
  try simp only [Act.put, List.setIfInBounds_toArray, List.set_cons_zero, List.set_cons_succ]
  refine' wpAnyH_take (i := 3) (oi := Oper.mk _ _ _ _ _ _) rfl (by kernel_rfl) (by kernel_rfl) (by kernel_rfl) (fun _ _ _ h => h) (Or.inl ⟨by rfl, ?hy37⟩) hS ?rest37
  case hy37 => (intro w hSw; (try dsimp only at hSw); first | (go_simp; done) | (go_simp; with_reducible rfl))
  try simp only [Act.put, List.setIfInBounds_toArray, List.set_cons_zero, List.set_cons_succ]
  refine wpAnyH_ready (rs := [4]) (by kernel_rfl) (by simp) ?_
  refine AllReadyH.cons (o := Oper.mk _ _ _ _ _ _) rfl (fun K hK => ?_) ?_
  · obtain ⟨c0, c1, c2, c3, HB⟩ := hS
    refine rg_call (by rfl) _ _ (.bool b0) (by first | (go_simp; done) | (go_simp; rfl)) (P1.out _) ?_
    intro W' hb
    refine hK.out _ _ ⟨pw_cell_below hb.out c0, pw_cell_below hb.out c1, pw_cell_below hb.out c2, pw_cell_below hb.out c3, HB.step hb.out⟩ (fun hS => ?_)
    clear hK K hb c0 c1 c2 c3 HB
    try simp only [Act.put, List.setIfInBounds_toArray, List.set_cons_zero, List.set_cons_succ]
    refine' wpAnyH_take (i := 5) (oi := Oper.mk _ _ _ _ _ _) rfl (by kernel_rfl) (by kernel_rfl) (by kernel_rfl) (fun _ _ _ h => h) (Or.inl ⟨by rfl, ?hy38⟩) hS ?rest38
    case hy38 => (intro w hSw; (try dsimp only at hSw); first | (go_simp; done) | (go_simp; with_reducible rfl))
    try simp only [Act.put, List.setIfInBounds_toArray, List.set_cons_zero, List.set_cons_succ]
    refine' wpAnyH_take (i := 6) (oi := Oper.mk _ _ _ _ _ _) rfl (by kernel_rfl) (by kernel_rfl) (by kernel_rfl) (fun _ _ _ h => h) (Or.inl ⟨by rfl, ?hy39⟩) hS ?rest39
    case hy39 => (intro w hSw; (try dsimp only at hSw); first | (go_simp; done) | (go_simp; with_reducible rfl))
    try simp only [Act.put, List.setIfInBounds_toArray, List.set_cons_zero, List.set_cons_succ]
    refine' wpAnyH_take (i := 7) (oi := Oper.mk _ _ _ _ _ _) rfl (by kernel_rfl) (by kernel_rfl) (by kernel_rfl) (fun _ _ _ h => h) (Or.inl ⟨by rfl, ?hy40⟩) hS ?rest40
    case hy40 => (intro w hSw; (try dsimp only at hSw); first | (go_simp; done) | (go_simp; with_reducible rfl))
    try simp only [Act.put, List.setIfInBounds_toArray, List.set_cons_zero, List.set_cons_succ]
    refine' wpAnyH_take (i := 8) (oi := Oper.mk _ _ _ _ _ _) rfl (by kernel_rfl) (by kernel_rfl) (by kernel_rfl) (fun _ _ _ h => h) (Or.inl ⟨by rfl, ?hy41⟩) hS ?rest41
    case hy41 => (intro w hSw; (try dsimp only at hSw); first | (go_simp; done) | (go_simp; with_reducible rfl))
    try simp only [Act.put, List.setIfInBounds_toArray, List.set_cons_zero, List.set_cons_succ]
    refine' wpAnyH_take (i := 9) (oi := Oper.mk _ _ _ _ _ _) rfl (by kernel_rfl) (by kernel_rfl) (by kernel_rfl) (fun _ _ _ h => h) (Or.inl ⟨by rfl, ?hy42⟩) hS ?rest42
    case hy42 => (intro w hSw; (try dsimp only at hSw); first | (go_simp; done) | (go_simp; with_reducible rfl))
    try simp only [Act.put, List.setIfInBounds_toArray, List.set_cons_zero, List.set_cons_succ]
    refine' wpAnyH_take (i := 10) (oi := Oper.mk _ _ _ _ _ _) rfl (by kernel_rfl) (by kernel_rfl) (by kernel_rfl) (fun _ _ _ h => h) (Or.inl ⟨by rfl, ?hy43⟩) hS ?rest43
    case hy43 => (intro w hSw; (try dsimp only at hSw); first | (go_simp; done) | (go_simp; with_reducible rfl))
    try simp only [Act.put, List.setIfInBounds_toArray, List.set_cons_zero, List.set_cons_succ]
    refine' wpAnyH_take (i := 11) (oi := Oper.mk _ _ _ _ _ _) rfl (by kernel_rfl) (by kernel_rfl) (by kernel_rfl) (fun _ _ _ h => h) (Or.inl ⟨by rfl, ?hy44⟩) hS ?rest44
    case hy44 => (intro w hSw; (try dsimp only at hSw); first | (go_simp; done) | (go_simp; with_reducible rfl))
    try simp only [Act.put, List.setIfInBounds_toArray, List.set_cons_zero, List.set_cons_succ]
    refine wpAnyH_ready (rs := [12]) (by kernel_rfl) (by simp) ?_
    refine AllReadyH.cons (o := Oper.mk _ _ _ _ _ _) rfl (fun K hK => ?_) ?_
    · obtain ⟨c0, c1, c2, c3, HB⟩ := hS
      refine rg_call (by rfl) _ _ (.bool ((u0 == 1))) (by first | (go_simp; done) | (go_simp; rfl)) (B1.out _) ?_
      intro W' hb
      refine hK.out _ _ ⟨pw_cell_below hb.out c0, pw_cell_below hb.out c1, pw_cell_below hb.out c2, pw_cell_below hb.out c3, HB.step hb.out⟩ (fun hS => ?_)
      clear hK K hb c0 c1 c2 c3 HB
      try simp only [Act.put, List.setIfInBounds_toArray, List.set_cons_zero, List.set_cons_succ]
      refine' wpAnyH_take (i := 13) (oi := Oper.mk _ _ _ _ _ _) rfl (by kernel_rfl) (by kernel_rfl) (by kernel_rfl) (fun _ _ _ h => h) (Or.inl ⟨by rfl, ?hy45⟩) hS ?rest45
      case hy45 => (intro w hSw; (try dsimp only at hSw); first | (go_simp; done) | (go_simp; with_reducible rfl))
      try simp only [Act.put, List.setIfInBounds_toArray, List.set_cons_zero, List.set_cons_succ]
      refine' wpAnyH_take (i := 14) (oi := Oper.mk _ _ _ _ _ _) rfl (by kernel_rfl) (by kernel_rfl) (by kernel_rfl) (fun _ _ _ h => h) (Or.inl ⟨by rfl, ?hy46⟩) hS ?rest46
      case hy46 => (intro w hSw; (try dsimp only at hSw); first | (go_simp; done) | (go_simp; with_reducible rfl))
      try simp only [Act.put, List.setIfInBounds_toArray, List.set_cons_zero, List.set_cons_succ]
      refine' wpAnyH_take (i := 15) (oi := Oper.mk _ _ _ _ _ _) rfl (by kernel_rfl) (by kernel_rfl) (by kernel_rfl) (fun _ _ _ h => h) (Or.inl ⟨by rfl, ?hy47⟩) hS ?rest47
      case hy47 => (intro w hSw; (try dsimp only at hSw); first | (go_simp; done) | (go_simp; with_reducible rfl))
      try simp only [Act.put, List.setIfInBounds_toArray, List.set_cons_zero, List.set_cons_succ]
      refine' wpAnyH_take (i := 16) (oi := Oper.mk _ _ _ _ _ _) rfl (by kernel_rfl) (by kernel_rfl) (by kernel_rfl) (fun _ _ _ h => h) (Or.inl ⟨by rfl, ?hy48⟩) hS ?rest48
      case hy48 => (intro w hSw; (try dsimp only at hSw); first | (go_simp; done) | (go_simp; with_reducible rfl))
      try simp only [Act.put, List.setIfInBounds_toArray, List.set_cons_zero, List.set_cons_succ]
      refine' wpAnyH_take (i := 17) (oi := Oper.mk _ _ _ _ _ _) rfl (by kernel_rfl) (by kernel_rfl) (by kernel_rfl) (fun _ _ _ h => h) (Or.inl ⟨by rfl, ?hy49⟩) hS ?rest49
      case hy49 => (intro w hSw; (try dsimp only at hSw); first | (go_simp; done) | (go_simp; with_reducible rfl))
      try simp only [Act.put, List.setIfInBounds_toArray, List.set_cons_zero, List.set_cons_succ]
      refine' wpAnyH_take (i := 18) (oi := Oper.mk _ _ _ _ _ _) rfl (by kernel_rfl) (by kernel_rfl) (by kernel_rfl) (fun _ _ _ h => h) (Or.inl ⟨by rfl, ?hy50⟩) hS ?rest50
      case hy50 => (intro w hSw; (try dsimp only at hSw); first | (go_simp; done) | (go_simp; with_reducible rfl))
      try simp only [Act.put, List.setIfInBounds_toArray, List.set_cons_zero, List.set_cons_succ]
      refine' wpAnyH_take (i := 19) (oi := Oper.mk _ _ _ _ _ _) rfl (by kernel_rfl) (by kernel_rfl) (by kernel_rfl) (fun _ _ _ h => h) (Or.inl ⟨by rfl, ?hy51⟩) hS ?rest51
      case hy51 => (intro w hSw; (try dsimp only at hSw); first | (go_simp; done) | (go_simp; with_reducible rfl))
      try simp only [Act.put, List.setIfInBounds_toArray, List.set_cons_zero, List.set_cons_succ]
      refine' wpAnyH_take (i := 20) (oi := Oper.mk _ _ _ _ _ _) rfl (by kernel_rfl) (by kernel_rfl) (by kernel_rfl) (fun _ _ _ h => h) (Or.inl ⟨by rfl, ?hy52⟩) hS ?rest52
      case hy52 => (intro w hSw; (try dsimp only at hSw); first | (go_simp; done) | (go_simp; with_reducible rfl))
      try simp only [Act.put, List.setIfInBounds_toArray, List.set_cons_zero, List.set_cons_succ]
      refine wpAnyH_ready (rs := [21]) (by kernel_rfl) (by simp) ?_
      refine AllReadyH.cons (o := Oper.mk _ _ _ _ _ _) rfl (fun K hK => ?_) ?_
      · obtain ⟨c0, c1, c2, c3, HB⟩ := hS
        refine rg_call (by rfl) _ _ (.bool ((u1 == 1))) (by first | (go_simp; done) | (go_simp; rfl)) (B2.out _) ?_
        intro W' hb
        refine hK.out _ _ ⟨pw_cell_below hb.out c0, pw_cell_below hb.out c1, pw_cell_below hb.out c2, pw_cell_below hb.out c3, HB.step hb.out⟩ (fun hS => ?_)
        clear hK K hb c0 c1 c2 c3 HB
        try simp only [Act.put, List.setIfInBounds_toArray, List.set_cons_zero, List.set_cons_succ]
        refine' wpAnyH_take (i := 22) (oi := Oper.mk _ _ _ _ _ _) rfl (by kernel_rfl) (by kernel_rfl) (by kernel_rfl) (fun _ _ _ h => h) (Or.inl ⟨by rfl, ?hy53⟩) hS ?rest53
        case hy53 => (intro w hSw; (try dsimp only at hSw); first | (go_simp; done) | (go_simp; with_reducible rfl))
        try simp only [Act.put, List.setIfInBounds_toArray, List.set_cons_zero, List.set_cons_succ]
        refine' wpAnyH_take (i := 23) (oi := Oper.mk _ _ _ _ _ _) rfl (by kernel_rfl) (by kernel_rfl) (by kernel_rfl) (fun _ _ _ h => h) (Or.inl ⟨by rfl, ?hy54⟩) hS ?rest54
        case hy54 => (intro w hSw; (try dsimp only at hSw); first | (go_simp; done) | (go_simp; with_reducible rfl))
        try simp only [Act.put, List.setIfInBounds_toArray, List.set_cons_zero, List.set_cons_succ]
        refine wpAnyH_done (by kernel_rfl) ?_ _
        refine NoPanic.normal ?_
        obtain ⟨c0, c1, c2, c3, HB⟩ := hS
        go_upto_region 4 with (fail)
        refine wp_region_noPanic ?_
        refine wp_region_held_drew (S := fun W => W.cell? ⟨g3, 0, none⟩ = some (.bool b0) ∧ W.cell? ⟨g3, 1, none⟩ = some (.bool b1) ∧ W.cell? ⟨g3, 2, none⟩ = some (.int .i64 u0) ∧ W.cell? ⟨g3, 3, none⟩ = some (.int .i64 u1) ∧ BelowH w W) (by kernel_rfl) ⟨pw_cell_below (below_drew (Below.refl _ _)) c0, pw_cell_below (below_drew (Below.refl _ _)) c1, pw_cell_below (below_drew (Below.refl _ _)) c2, pw_cell_below (below_drew (Below.refl _ _)) c3, HB.drew⟩ (fun hS => ?_)
        clear c0 c1 c2 c3 HB
        refine' wpAnyH_take (i := 0) (oi := Oper.mk _ _ _ _ _ _) rfl (by kernel_rfl) (by kernel_rfl) (by kernel_rfl) (fun _ _ _ h => h) (Or.inl ⟨by rfl, ?hy1⟩) hS ?rest1
        case hy1 => (intro w hSw; (try dsimp only at hSw); first | (go_simp; done) | (go_simp; with_reducible rfl))
        try simp only [Act.put, List.setIfInBounds_toArray, List.set_cons_zero, List.set_cons_succ]
        refine' wpAnyH_take (i := 1) (oi := Oper.mk _ _ _ _ _ _) rfl (by kernel_rfl) (by kernel_rfl) (by kernel_rfl) (fun _ _ _ h => h) (Or.inl ⟨by rfl, ?hy2⟩) hS ?rest2
        case hy2 => (intro w hSw; (try dsimp only at hSw); first | (go_simp; done) | (go_simp; with_reducible rfl))
        try simp only [Act.put, List.setIfInBounds_toArray, List.set_cons_zero, List.set_cons_succ]
        refine' wpAnyH_take (i := 2) (oi := Oper.mk _ _ _ _ _ _) rfl (by kernel_rfl) (by kernel_rfl) (by kernel_rfl) (fun _ _ _ h => h) (Or.inl ⟨by rfl, ?hy3⟩) hS ?rest3
        case hy3 => (intro w hSw; (try dsimp only at hSw); first | (go_simp; done) | (go_simp; with_reducible rfl))
        try simp only [Act.put, List.setIfInBounds_toArray, List.set_cons_zero, List.set_cons_succ]
        refine' wpAnyH_take (i := 3) (oi := Oper.mk _ _ _ _ _ _) rfl (by kernel_rfl) (by kernel_rfl) (by kernel_rfl) (fun _ _ _ h => h) (Or.inl ⟨by rfl, ?hy4⟩) hS ?rest4
        case hy4 => (intro w hSw; (try dsimp only at hSw); first | (go_simp; done) | (go_simp; with_reducible rfl))
        try simp only [Act.put, List.setIfInBounds_toArray, List.set_cons_zero, List.set_cons_succ]
        refine' wpAnyH_take (i := 4) (oi := Oper.mk _ _ _ _ _ _) rfl (by kernel_rfl) (by kernel_rfl) (by kernel_rfl) (fun _ _ _ h => h) (Or.inl ⟨by rfl, ?hy5⟩) hS ?rest5
        case hy5 => (intro w hSw; (try dsimp only at hSw); first | (go_simp; done) | (go_simp; with_reducible rfl))
        try simp only [Act.put, List.setIfInBounds_toArray, List.set_cons_zero, List.set_cons_succ]
        refine wpAnyH_ready (rs := [5]) (by kernel_rfl) (by simp) ?_
        refine AllReadyH.cons (o := Oper.mk _ _ _ _ _ _) rfl (fun K hK => ?_) ?_
        · obtain ⟨c0, c1, c2, c3, HB⟩ := hS
          refine rg_call (by rfl) _ _ (.bool b1) (by first | (go_simp; done) | (go_simp; rfl)) (P2.out _) ?_
          intro W' hb
          refine hK.out _ _ ⟨pw_cell_below hb.out c0, pw_cell_below hb.out c1, pw_cell_below hb.out c2, pw_cell_below hb.out c3, HB.step hb.out⟩ (fun hS => ?_)
          clear hK K hb c0 c1 c2 c3 HB
          try simp only [Act.put, List.setIfInBounds_toArray, List.set_cons_zero, List.set_cons_succ]
          refine' wpAnyH_take (i := 6) (oi := Oper.mk _ _ _ _ _ _) rfl (by kernel_rfl) (by kernel_rfl) (by kernel_rfl) (fun _ _ _ h => h) (Or.inl ⟨by rfl, ?hy6⟩) hS ?rest6
          case hy6 => (intro w hSw; (try dsimp only at hSw); first | (go_simp; done) | (go_simp; with_reducible rfl))
          try simp only [Act.put, List.setIfInBounds_toArray, List.set_cons_zero, List.set_cons_succ]
          refine' wpAnyH_take (i := 7) (oi := Oper.mk _ _ _ _ _ _) rfl (by kernel_rfl) (by kernel_rfl) (by kernel_rfl) (fun _ _ _ h => h) (Or.inl ⟨by rfl, ?hy7⟩) hS ?rest7
          case hy7 => (intro w hSw; (try dsimp only at hSw); first | (go_simp; done) | (go_simp; with_reducible rfl))
          try simp only [Act.put, List.setIfInBounds_toArray, List.set_cons_zero, List.set_cons_succ]
          refine' wpAnyH_take (i := 8) (oi := Oper.mk _ _ _ _ _ _) rfl (by kernel_rfl) (by kernel_rfl) (by kernel_rfl) (fun _ _ _ h => h) (Or.inl ⟨by rfl, ?hy8⟩) hS ?rest8
          case hy8 => (intro w hSw; (try dsimp only at hSw); first | (go_simp; done) | (go_simp; with_reducible rfl))
          try simp only [Act.put, List.setIfInBounds_toArray, List.set_cons_zero, List.set_cons_succ]
          refine' wpAnyH_take (i := 9) (oi := Oper.mk _ _ _ _ _ _) rfl (by kernel_rfl) (by kernel_rfl) (by kernel_rfl) (fun _ _ _ h => h) (Or.inl ⟨by rfl, ?hy9⟩) hS ?rest9
          case hy9 => (intro w hSw; (try dsimp only at hSw); first | (go_simp; done) | (go_simp; with_reducible rfl))
          try simp only [Act.put, List.setIfInBounds_toArray, List.set_cons_zero, List.set_cons_succ]
          refine' wpAnyH_take (i := 10) (oi := Oper.mk _ _ _ _ _ _) rfl (by kernel_rfl) (by kernel_rfl) (by kernel_rfl) (fun _ _ _ h => h) (Or.inl ⟨by rfl, ?hy10⟩) hS ?rest10
          case hy10 => (intro w hSw; (try dsimp only at hSw); first | (go_simp; done) | (go_simp; with_reducible rfl))
          try simp only [Act.put, List.setIfInBounds_toArray, List.set_cons_zero, List.set_cons_succ]
          refine' wpAnyH_take (i := 11) (oi := Oper.mk _ _ _ _ _ _) rfl (by kernel_rfl) (by kernel_rfl) (by kernel_rfl) (fun _ _ _ h => h) (Or.inl ⟨by rfl, ?hy11⟩) hS ?rest11
          case hy11 => (intro w hSw; (try dsimp only at hSw); first | (go_simp; done) | (go_simp; with_reducible rfl))
          try simp only [Act.put, List.setIfInBounds_toArray, List.set_cons_zero, List.set_cons_succ]
          refine' wpAnyH_take (i := 12) (oi := Oper.mk _ _ _ _ _ _) rfl (by kernel_rfl) (by kernel_rfl) (by kernel_rfl) (fun _ _ _ h => h) (Or.inl ⟨by rfl, ?hy12⟩) hS ?rest12
          case hy12 => (intro w hSw; (try dsimp only at hSw); first | (go_simp; done) | (go_simp; with_reducible rfl))
          try simp only [Act.put, List.setIfInBounds_toArray, List.set_cons_zero, List.set_cons_succ]
          refine' wpAnyH_take (i := 13) (oi := Oper.mk _ _ _ _ _ _) rfl (by kernel_rfl) (by kernel_rfl) (by kernel_rfl) (fun _ _ _ h => h) (Or.inl ⟨by rfl, ?hy13⟩) hS ?rest13
          case hy13 => (intro w hSw; (try dsimp only at hSw); first | (go_simp; done) | (go_simp; with_reducible rfl))
          try simp only [Act.put, List.setIfInBounds_toArray, List.set_cons_zero, List.set_cons_succ]
          refine' wpAnyH_take (i := 14) (oi := Oper.mk _ _ _ _ _ _) rfl (by kernel_rfl) (by kernel_rfl) (by kernel_rfl) (fun _ _ _ h => h) (Or.inl ⟨by rfl, ?hy14⟩) hS ?rest14
          case hy14 => (intro w hSw; (try dsimp only at hSw); first | (go_simp; done) | (go_simp; with_reducible rfl))
          try simp only [Act.put, List.setIfInBounds_toArray, List.set_cons_zero, List.set_cons_succ]
          refine' wpAnyH_take (i := 15) (oi := Oper.mk _ _ _ _ _ _) rfl (by kernel_rfl) (by kernel_rfl) (by kernel_rfl) (fun _ _ _ h => h) (Or.inl ⟨by rfl, ?hy15⟩) hS ?rest15
          case hy15 => (intro w hSw; (try dsimp only at hSw); first | (go_simp; done) | (go_simp; with_reducible rfl))
          try simp only [Act.put, List.setIfInBounds_toArray, List.set_cons_zero, List.set_cons_succ]
          refine' wpAnyH_take (i := 16) (oi := Oper.mk _ _ _ _ _ _) rfl (by kernel_rfl) (by kernel_rfl) (by kernel_rfl) (fun _ _ _ h => h) (Or.inl ⟨by rfl, ?hy16⟩) hS ?rest16
          case hy16 => (intro w hSw; (try dsimp only at hSw); first | (go_simp; done) | (go_simp; with_reducible rfl))
          try simp only [Act.put, List.setIfInBounds_toArray, List.set_cons_zero, List.set_cons_succ]
          refine' wpAnyH_take (i := 17) (oi := Oper.mk _ _ _ _ _ _) rfl (by kernel_rfl) (by kernel_rfl) (by kernel_rfl) (fun _ _ _ h => h) (Or.inl ⟨by rfl, ?hy17⟩) hS ?rest17
          case hy17 => (intro w hSw; (try dsimp only at hSw); first | (go_simp; done) | (go_simp; with_reducible rfl))
          try simp only [Act.put, List.setIfInBounds_toArray, List.set_cons_zero, List.set_cons_succ]
          refine' wpAnyH_take (i := 18) (oi := Oper.mk _ _ _ _ _ _) rfl (by kernel_rfl) (by kernel_rfl) (by kernel_rfl) (fun _ _ _ h => h) (Or.inl ⟨by rfl, ?hy18⟩) hS ?rest18
          case hy18 => (intro w hSw; (try dsimp only at hSw); first | (go_simp; done) | (go_simp; with_reducible rfl))
          try simp only [Act.put, List.setIfInBounds_toArray, List.set_cons_zero, List.set_cons_succ]
          refine' wpAnyH_take (i := 19) (oi := Oper.mk _ _ _ _ _ _) rfl (by kernel_rfl) (by kernel_rfl) (by kernel_rfl) (fun _ _ _ h => h) (Or.inl ⟨by rfl, ?hy19⟩) hS ?rest19
          case hy19 => (intro w hSw; (try dsimp only at hSw); first | (go_simp; done) | (go_simp; with_reducible rfl))
          try simp only [Act.put, List.setIfInBounds_toArray, List.set_cons_zero, List.set_cons_succ]
          refine' wpAnyH_take (i := 20) (oi := Oper.mk _ _ _ _ _ _) rfl (by kernel_rfl) (by kernel_rfl) (by kernel_rfl) (fun _ _ _ h => h) (Or.inl ⟨by rfl, ?hy20⟩) hS ?rest20
          case hy20 => (intro w hSw; (try dsimp only at hSw); first | (go_simp; done) | (go_simp; with_reducible rfl))
          try simp only [Act.put, List.setIfInBounds_toArray, List.set_cons_zero, List.set_cons_succ]
          refine' wpAnyH_take (i := 21) (oi := Oper.mk _ _ _ _ _ _) rfl (by kernel_rfl) (by kernel_rfl) (by kernel_rfl) (fun _ _ _ h => h) (Or.inl ⟨by rfl, ?hy21⟩) hS ?rest21
          case hy21 => (intro w hSw; (try dsimp only at hSw); first | (go_simp; done) | (go_simp; with_reducible rfl))
          try simp only [Act.put, List.setIfInBounds_toArray, List.set_cons_zero, List.set_cons_succ]
          refine' wpAnyH_take (i := 22) (oi := Oper.mk _ _ _ _ _ _) rfl (by kernel_rfl) (by kernel_rfl) (by kernel_rfl) (fun _ _ _ h => h) (Or.inl ⟨by rfl, ?hy22⟩) hS ?rest22
          case hy22 => (intro w hSw; (try dsimp only at hSw); first | (go_simp; done) | (go_simp; with_reducible rfl))
          try simp only [Act.put, List.setIfInBounds_toArray, List.set_cons_zero, List.set_cons_succ]
          refine' wpAnyH_take (i := 23) (oi := Oper.mk _ _ _ _ _ _) rfl (by kernel_rfl) (by kernel_rfl) (by kernel_rfl) (fun _ _ _ h => h) (Or.inl ⟨by rfl, ?hy23⟩) hS ?rest23
          case hy23 => (intro w hSw; (try dsimp only at hSw); first | (go_simp; done) | (go_simp; with_reducible rfl))
          try simp only [Act.put, List.setIfInBounds_toArray, List.set_cons_zero, List.set_cons_succ]
          refine' wpAnyH_take (i := 24) (oi := Oper.mk _ _ _ _ _ _) rfl (by kernel_rfl) (by kernel_rfl) (by kernel_rfl) (fun _ _ _ h => h) (Or.inl ⟨by rfl, ?hy24⟩) hS ?rest24
          case hy24 => (intro w hSw; (try dsimp only at hSw); first | (go_simp; done) | (go_simp; with_reducible rfl))
          try simp only [Act.put, List.setIfInBounds_toArray, List.set_cons_zero, List.set_cons_succ]
          refine' wpAnyH_take (i := 25) (oi := Oper.mk _ _ _ _ _ _) rfl (by kernel_rfl) (by kernel_rfl) (by kernel_rfl) (fun _ _ _ h => h) (Or.inl ⟨by rfl, ?hy25⟩) hS ?rest25
          case hy25 => (intro w hSw; (try dsimp only at hSw); first | (go_simp; done) | (go_simp; with_reducible rfl))
          try simp only [Act.put, List.setIfInBounds_toArray, List.set_cons_zero, List.set_cons_succ]
          refine' wpAnyH_take (i := 26) (oi := Oper.mk _ _ _ _ _ _) rfl (by kernel_rfl) (by kernel_rfl) (by kernel_rfl) (fun _ _ _ h => h) (Or.inl ⟨by rfl, ?hy26⟩) hS ?rest26
          case hy26 => (intro w hSw; (try dsimp only at hSw); first | (go_simp; done) | (go_simp; with_reducible rfl))
          try simp only [Act.put, List.setIfInBounds_toArray, List.set_cons_zero, List.set_cons_succ]
          refine' wpAnyH_take (i := 27) (oi := Oper.mk _ _ _ _ _ _) rfl (by kernel_rfl) (by kernel_rfl) (by kernel_rfl) (fun _ _ _ h => h) (Or.inl ⟨by rfl, ?hy27⟩) hS ?rest27
          case hy27 => (intro w hSw; (try dsimp only at hSw); first | (go_simp; done) | (go_simp; with_reducible rfl))
          try simp only [Act.put, List.setIfInBounds_toArray, List.set_cons_zero, List.set_cons_succ]
          refine' wpAnyH_take (i := 28) (oi := Oper.mk _ _ _ _ _ _) rfl (by kernel_rfl) (by kernel_rfl) (by kernel_rfl) (fun _ _ _ h => h) (Or.inl ⟨by rfl, ?hy28⟩) hS ?rest28
          case hy28 => (intro w hSw; (try dsimp only at hSw); first | (go_simp; done) | (go_simp; with_reducible rfl))
          try simp only [Act.put, List.setIfInBounds_toArray, List.set_cons_zero, List.set_cons_succ]
          refine' wpAnyH_take (i := 29) (oi := Oper.mk _ _ _ _ _ _) rfl (by kernel_rfl) (by kernel_rfl) (by kernel_rfl) (fun _ _ _ h => h) (Or.inl ⟨by rfl, ?hy29⟩) hS ?rest29
          case hy29 => (intro w hSw; (try dsimp only at hSw); first | (go_simp; done) | (go_simp; with_reducible rfl))
          try simp only [Act.put, List.setIfInBounds_toArray, List.set_cons_zero, List.set_cons_succ]
          refine' wpAnyH_take (i := 30) (oi := Oper.mk _ _ _ _ _ _) rfl (by kernel_rfl) (by kernel_rfl) (by kernel_rfl) (fun _ _ _ h => h) (Or.inl ⟨by rfl, ?hy30⟩) hS ?rest30
          case hy30 => (intro w hSw; (try dsimp only at hSw); first | (go_simp; done) | (go_simp; with_reducible rfl))
          try simp only [Act.put, List.setIfInBounds_toArray, List.set_cons_zero, List.set_cons_succ]
          refine' wpAnyH_take (i := 31) (oi := Oper.mk _ _ _ _ _ _) rfl (by kernel_rfl) (by kernel_rfl) (by kernel_rfl) (fun _ _ _ h => h) (Or.inl ⟨by rfl, ?hy31⟩) hS ?rest31
          case hy31 => (intro w hSw; (try dsimp only at hSw); first | (go_simp; done) | (go_simp; with_reducible rfl))
          try simp only [Act.put, List.setIfInBounds_toArray, List.set_cons_zero, List.set_cons_succ]
          refine wpAnyH_ready (rs := [32]) (by kernel_rfl) (by simp) ?_
          refine AllReadyH.cons (o := Oper.mk _ _ _ _ _ _) rfl (fun K hK => ?_) ?_
          · obtain ⟨c0, c1, c2, c3, HB⟩ := hS
            refine rg_call (by rfl) _ _ (.bool true) (by first | (go_simp; done) | (go_simp; rfl)) (AW.out _) ?_
            intro W' hb
            refine hK.out _ _ ⟨pw_cell_below hb.out c0, pw_cell_below hb.out c1, pw_cell_below hb.out c2, pw_cell_below hb.out c3, HB.step hb.out⟩ (fun hS => ?_)
            clear hK K hb c0 c1 c2 c3 HB
            try simp only [Act.put, List.setIfInBounds_toArray, List.set_cons_zero, List.set_cons_succ]
            refine' wpAnyH_take (i := 33) (oi := Oper.mk _ _ _ _ _ _) rfl (by kernel_rfl) (by kernel_rfl) (by kernel_rfl) (fun _ _ _ h => h) (Or.inl ⟨by rfl, ?hy32⟩) hS ?rest32
            case hy32 => (intro w hSw; (try dsimp only at hSw); first | (go_simp; done) | (go_simp; with_reducible rfl))
            try simp only [Act.put, List.setIfInBounds_toArray, List.set_cons_zero, List.set_cons_succ]
            refine' wpAnyH_take (i := 34) (oi := Oper.mk _ _ _ _ _ _) rfl (by kernel_rfl) (by kernel_rfl) (by kernel_rfl) (fun _ _ _ h => h) (Or.inl ⟨by rfl, ?hy33⟩) hS ?rest33
            case hy33 => (intro w hSw; (try dsimp only at hSw); first | (go_simp; done) | (go_simp; with_reducible rfl))
            try simp only [Act.put, List.setIfInBounds_toArray, List.set_cons_zero, List.set_cons_succ]
            refine wpAnyH_done (by kernel_rfl) ?_ _
            refine NoPanic.normal ?_
            obtain ⟨c0, c1, c2, c3, HB⟩ := hS
            go_wp2
            go_ret
            exact ⟨rfl, HB.out⟩
          exact AllReadyH.nil
        exact AllReadyH.nil
      exact AllReadyH.nil
    exact AllReadyH.nil
  exact AllReadyH.nil
end


end Go.Proofs.Ytifpahkgielocaa.PT
