-- Written by a program (myprint.py, over the kit's print) for this claim. Not trusted: Lean checks it.
import Derived.Test.YtifpahkgielocaaPJx0
namespace Go.Proofs.Ytifpahkgielocaa.PJ
open Go.RowKit Go.Proofs.YtifpahkgielocaaW.PrintWords Go.Proofs.YtifpahkgielocaaW.PrintLast Go.Proofs.YtifpahkgielocaaW.PrintMore
attribute [local go_sem] max2_int min2_int max_two min_two max_three min_three max_four min_four   -- for this text's walks alone
set_option linter.unusedVariables false
set_option linter.unusedSimpArgs false

/-! ### quarryref06_Is: function 29 -/
def quarryref06_Is.l0 : Nat → ByteArray → List Bool → Int → Option (List Bool)
  | 0, _, _, _ => none
  | k + 1, x0, x5, x6 => if x6 < (x0.size : Int) then (if 0 ≤ x6 then (if (bt x0 x6) = 92 then (if x6 < (x5.length : Int) then (if x5.length < 140737488355328 then (quarryref06_Is.l0 k x0 (x5 ++ [!(rdOf false x5 x6)]) (wrap64 (x6 + 1))) else (none)) else (none)) else (if x5.length < 140737488355328 then (quarryref06_Is.l0 k x0 (x5 ++ [false]) (wrap64 (x6 + 1))) else (none))) else (none)) else (some x5)
def quarryref06_Is.f (k : Nat) (a0 : ByteArray) (a1 : Bool) : Option (List Bool) := quarryref06_Is.l0 k a0 (([a1] : List Bool)) 0
theorem quarryref06_Is.mono_l : ∀ k, (∀ y0 y1 y2, LeO (quarryref06_Is.l0 k y0 y1 y2) (quarryref06_Is.l0 (k + 1) y0 y1 y2))
  | 0 => fun _ _ _ r h => by simp [quarryref06_Is.l0] at h
  | k + 1 => by
    have ih0 := quarryref06_Is.mono_l k
    · intro y0 y1 y2
      unfold quarryref06_Is.l0
      repeat' first
      | (with_reducible exact ih0 _ _ _)
      | (with_reducible exact LeO.refl _)
      | (with_reducible exact LeO.none _)
      | (with_reducible refine LeO.ite ?_ ?_)
      | (with_reducible refine LeO.bind ?_ (fun _ => ?_))
      | exact ih0 _ _ _
      | exact LeO.none _
      | refine LeO.ite ?_ ?_
      | refine LeO.bind ?_ (fun _ => ?_)
theorem quarryref06_Is.mono : ∀ a0 a1 k, LeO (quarryref06_Is.f k a0 a1) (quarryref06_Is.f (k + 1) a0 a1) := by
  intro a0 a1 k
  have ih0 := quarryref06_Is.mono_l k
  unfold quarryref06_Is.f
  repeat' first
      | (with_reducible exact ih0 _ _ _)
      | (with_reducible exact LeO.refl _)
      | (with_reducible exact LeO.none _)
      | (with_reducible refine LeO.ite ?_ ?_)
      | (with_reducible refine LeO.bind ?_ (fun _ => ?_))
      | exact ih0 _ _ _
      | exact LeO.none _
      | refine LeO.ite ?_ ?_
      | refine LeO.bind ?_ (fun _ => ?_)
set_option maxHeartbeats 8000000 in
set_option maxRecDepth 100000 in
theorem quarryref06_Is.calls (k : Nat) (a0 : ByteArray) (a1 : Bool) (r : List Bool) (w : World) (h : quarryref06_Is.f k a0 a1 = some r) :
    Calls Try.prog 29 #[.string a0, .bool a1] w fun e w' => ∃ v0_ : Value, e = .returned (v0_) ∧ Kd.R Kd.bool 4 w' w.heap.size (fun _ => True) v0_ r ∧ Below w.heap.size w w' := by
  have HB := Aside0.mk (Below.refl w.heap.size w)
  have H : (quarryref06_Is.l0 k a0 (([a1] : List Bool)) 0) = some r := h
  clear h
  obtain ⟨y103, hy103⟩ : ∃ y_ : List Bool, y_ = (([a1] : List Bool)) := ⟨_, rfl⟩
  replace H : (quarryref06_Is.l0 k a0 y103 0) = some r := by first | (rw [hy103]; with_reducible exact H) | (have H2_ := (Option.bind_some _ _).symm.trans H; rw [hy103]; with_reducible exact H2_) | (have H2_ := (Option.bind_some _ _).symm.trans H; with_reducible exact H2_) | with_reducible exact H | (rw [hy103]; exact H) | exact H
  have Ny103 := Aside0.mk hy103
  clear hy103
  have H' := Aside0.mk H
  clear H
  go_enter Try.func29, Try.ntmps29
  go_wp2_with (first | ((with_reducible refine gate_dst (N := 9) rfl ?_); refine Kd.R_lit Kd.bool _ 4 ?hg (N := 9) ?hd (xs := ([a1] : List Bool)) (inner := [.bool a1]) (ok := fun _ => True) (okp := fun _ => True) ?hr ?hp (fun _ hk => hk) trivial (Below.refl _ _) (Nat.le_refl _) (by simp) ?_; (case hd => rfl); (case hg => rfl); (case hr => first | (go_simp; done) | (go_simp; rfl)); (case hp => exact (Reps.one (show Kd.M Kd.bool _ _ _ a1 [.bool a1] from rfl) (Reps.none _ _))); intro v104 w3 ho4 hb hg_ hnew_; clear hg_ hnew_; (first | rw [← Ny103.out] at ho4 | (simp only [Int.reduceToNat] at ho4; rw [← Ny103.out] at ho4)); have n0_ := Aside0.mk (Kd.R_lower ho4 (below_size (by repeat (first | (with_reducible first | exact HB.out | apply below_alloc | apply pw_below_drewN | apply below_drew1) | exact HB.out)))); have n1_ := Aside0.mk (below_step (by repeat (first | (with_reducible first | exact HB.out | apply below_alloc | apply pw_below_drewN | apply below_drew1) | exact HB.out)) hb); clear HB; have HO105 := n0_; have HB := n1_; clear n0_ n1_; clear hb ho4))
  go_loopg [5, 6] k (fun kq v5 v6 w' => ∃ (x5_1 : List Bool) (x6_1 : Int), v6 = .int .i64 x6_1 ∧ Aside0 (quarryref06_Is.l0 kq a0 x5_1 x6_1 = some r) ∧ Aside0 (kq ≤ k) ∧ Aside0 (Kd.R Kd.bool 4 w' w.heap.size (fun _ => True) v5 x5_1) ∧ Aside0 (Below w.heap.size w w'))
  case atStart => exact ⟨(y103), (0), (by first | rfl | (simp; done) | (simp [*]; done)), H', ⟨Nat.le_refl _⟩, ⟨by (with_reducible repeat (first | apply Kd.R_alloc | apply Kd.R_drewN | apply Kd.R_drew)); exact HO105.out⟩, ⟨by repeat (first | (with_reducible first | exact HB.out | apply below_alloc | apply pw_below_drewN | apply below_drew1) | exact HB.out)⟩⟩
  case round =>
    clear H'
    try clear c2
    try clear p2
    obtain ⟨x5_1, x6_1, rfl, HA, HK1, HO_5, HB⟩ := hrel
    cases gk with
    | zero => exact absurd HA.out (by simp [quarryref06_Is.l0])
    | succ k1 =>
      have H := HA.out
      clear HA
      simp only [quarryref06_Is.l0] at H
      by_cases c5 : x6_1 < (a0.size : Int)
      · rw [if_pos c5] at H
        have c5b0 : decide (x6_1 < (a0.size : Int)) = true := decide_eq_true c5
        clear c5
        by_cases c6 : 0 ≤ x6_1
        · rw [if_pos c6] at H
          have c6b0 : decide (0 ≤ x6_1) = true := decide_eq_true c6
          clear c6
          by_cases c8 : (bt a0 x6_1) = 92
          · rw [if_pos c8] at H
            have c8b0 : ((bt a0 x6_1) == 92) = true := beq_iff_eq.mpr c8
            have c8b1 : ((bt a0 x6_1) != 92) = false := bne_eq_false_iff_eq.mpr c8
            clear c8
            by_cases c9 : x6_1 < (x5_1.length : Int)
            · rw [if_pos c9] at H
              have c9b0 : decide (x6_1 < (x5_1.length : Int)) = true := decide_eq_true c9
              clear c9
              by_cases c10 : x5_1.length < 140737488355328
              · rw [if_pos c10] at H
                have LMc10 := Aside0.mk c10
                clear c10
                obtain ⟨y107, hy107⟩ : ∃ y_ : List Bool, y_ = (x5_1 ++ [!(rdOf false x5_1 x6_1)]) := ⟨_, rfl⟩
                replace H : (quarryref06_Is.l0 k1 a0 y107 (wrap64 (x6_1 + 1))) = some r := by first | (rw [hy107]; with_reducible exact H) | (have H2_ := (Option.bind_some _ _).symm.trans H; rw [hy107]; with_reducible exact H2_) | (have H2_ := (Option.bind_some _ _).symm.trans H; with_reducible exact H2_) | with_reducible exact H | (rw [hy107]; exact H) | exact H
                have Ny107 := Aside0.mk hy107
                clear hy107
                have H' := Aside0.mk H
                clear H
                have p7 : 0 ≤ (x6_1 : Int) := of_decide_eq_true (by first | (with_reducible assumption) | assumption)
                have q7 : x6_1 < (a0.size : Int) := of_decide_eq_true (by first | (with_reducible assumption) | assumption)
                have hx7 := bt_at a0 x6_1
                replace p7 := eq_true p7
                replace q7 := eq_true q7
                obtain ⟨Ao11, co11, eo11⟩ := Kd.R_slice HO_5.out
                subst eo11
                have p106 : 0 ≤ (x6_1 : Int) := of_decide_eq_true (by first | (with_reducible assumption) | assumption)
                have q106 : x6_1 < (x5_1.length : Int) := of_decide_eq_true (by first | (with_reducible assumption) | assumption)
                obtain ⟨ad106, e106, hx106_0⟩ := Kd.at_bool (Kd.R_reads' HO_5.out).2.2 x6_1 p106 q106
                cases e106
                replace p106 := eq_true p106
                replace q106 := eq_true q106
                go_wp2_with (first | ((with_reducible refine gate_builtin (b := .append) (xs := #[.tmp 27, .tmp 29]) rfl ?_); at_builtin; refine Kd.R_append Kd.bool (w0 := w) w.heap.size rfl (.tmp 27) (.tmp 29) 48 4 (.bool false) 1 rfl Try.underlying48 info4 rfl (by decide) (by omega) (.slice (some ad106) x5_1.length co11) x5_1 (!(rdOf false x5_1 x6_1)) [.bool (!(rdOf false x5_1 x6_1))] (fun _ => True) (fun _ => False) rfl rfl ?aP (fun _ hk => hk.elim) ?aF ?aO ?aB ?aS ?aL ?_; (case aP => exact rfl); (case aB => exact (by repeat (first | (with_reducible first | exact HB.out | apply below_alloc | apply pw_below_drewN | apply below_drew1) | exact HB.out))); (case aF => exact (fun _ _ => trivial)); (case aO => exact (by (with_reducible repeat (first | apply Kd.R_alloc | apply Kd.R_drewN | apply Kd.R_drew)); exact HO_5.out)); (case aS => exact (below_size (by repeat (first | (with_reducible first | exact HB.out | apply below_alloc | apply pw_below_drewN | apply below_drew1) | exact HB.out)))); (case aL => have := LMc10.out; omega); intro v108 w12 ho hb hg hat; rw [← Ny107.out] at ho; have n0_ := Aside0.mk (hb); have n1_ := Aside0.mk (ho); clear HB; clear HO_5; have HB := n0_; have HO109 := n1_; clear n0_ n1_; clear ho hb hg hat))
                go_roundg k1
                case measure => have := HK1.out; omega
                case rel => exact ⟨(y107), (wrap64 (x6_1 + 1)), (by first | rfl | (simp; done) | (simp [*]; done)), H', ⟨by have := HK1.out; omega⟩, ⟨by (with_reducible repeat (first | apply Kd.R_alloc | apply Kd.R_drewN | apply Kd.R_drew)); exact HO109.out⟩, ⟨by repeat (first | (with_reducible first | exact HB.out | apply below_alloc | apply pw_below_drewN | apply below_drew1) | exact HB.out)⟩⟩
              · rw [if_neg c10] at H
                exact absurd H (by simp)
            · rw [if_neg c9] at H
              exact absurd H (by simp)
          · rw [if_neg c8] at H
            have c8b0 : ((bt a0 x6_1) == 92) = false := beq_eq_false_iff_ne.mpr c8
            have c8b1 : ((bt a0 x6_1) != 92) = true := bne_iff_ne.mpr c8
            by_cases c13 : x5_1.length < 140737488355328
            · rw [if_pos c13] at H
              have LMc13 := Aside0.mk c13
              clear c13
              obtain ⟨y110, hy110⟩ : ∃ y_ : List Bool, y_ = (x5_1 ++ [false]) := ⟨_, rfl⟩
              replace H : (quarryref06_Is.l0 k1 a0 y110 (wrap64 (x6_1 + 1))) = some r := by first | (rw [hy110]; with_reducible exact H) | (have H2_ := (Option.bind_some _ _).symm.trans H; rw [hy110]; with_reducible exact H2_) | (have H2_ := (Option.bind_some _ _).symm.trans H; with_reducible exact H2_) | with_reducible exact H | (rw [hy110]; exact H) | exact H
              have Ny110 := Aside0.mk hy110
              clear hy110
              have H' := Aside0.mk H
              clear H
              have p7 : 0 ≤ (x6_1 : Int) := of_decide_eq_true (by first | (with_reducible assumption) | assumption)
              have q7 : x6_1 < (a0.size : Int) := of_decide_eq_true (by first | (with_reducible assumption) | assumption)
              have hx7 := bt_at a0 x6_1
              replace p7 := eq_true p7
              replace q7 := eq_true q7
              go_wp2_with (first | ((with_reducible refine gate_builtin (b := .append) (xs := #[.tmp 27, .tmp 29]) rfl ?_); at_builtin; refine Kd.R_append Kd.bool (w0 := w) w.heap.size rfl (.tmp 27) (.tmp 29) 48 4 (.bool false) 1 rfl Try.underlying48 info4 rfl (by decide) (by omega) u5 x5_1 false [.bool false] (fun _ => True) (fun _ => False) rfl rfl ?aP (fun _ hk => hk.elim) ?aF ?aO ?aB ?aS ?aL ?_; (case aP => exact rfl); (case aB => exact (by repeat (first | (with_reducible first | exact HB.out | apply below_alloc | apply pw_below_drewN | apply below_drew1) | exact HB.out))); (case aF => exact (fun _ _ => trivial)); (case aO => exact (by (with_reducible repeat (first | apply Kd.R_alloc | apply Kd.R_drewN | apply Kd.R_drew)); exact HO_5.out)); (case aS => exact (below_size (by repeat (first | (with_reducible first | exact HB.out | apply below_alloc | apply pw_below_drewN | apply below_drew1) | exact HB.out)))); (case aL => have := LMc13.out; omega); intro v111 w14 ho hb hg hat; rw [← Ny110.out] at ho; have n0_ := Aside0.mk (hb); have n1_ := Aside0.mk (ho); clear HB; clear HO_5; have HB := n0_; have HO112 := n1_; clear n0_ n1_; clear ho hb hg hat))
              go_roundg k1
              case measure => have := HK1.out; omega
              case rel => exact ⟨(y110), (wrap64 (x6_1 + 1)), (by first | rfl | (simp; done) | (simp [*]; done)), H', ⟨by have := HK1.out; omega⟩, ⟨by (with_reducible repeat (first | apply Kd.R_alloc | apply Kd.R_drewN | apply Kd.R_drew)); exact HO112.out⟩, ⟨by repeat (first | (with_reducible first | exact HB.out | apply below_alloc | apply pw_below_drewN | apply below_drew1) | exact HB.out)⟩⟩
            · rw [if_neg c13] at H
              exact absurd H (by simp)
        · rw [if_neg c6] at H
          exact absurd H (by simp)
      · rw [if_neg c5] at H
        have c5b0 : decide (x6_1 < (a0.size : Int)) = false := decide_eq_false c5
        clear c5
        obtain rfl := Option.some.inj H
        go_wp2
        go_ret
        exact ⟨_, by first | rfl | (simp [errW_none, errW_some] <;> rfl) | (simp [*, errW_none, errW_some] <;> rfl), by (with_reducible repeat (first | apply Kd.R_alloc | apply Kd.R_drewN | apply Kd.R_drew)); exact HO_5.out, by repeat (first | (with_reducible first | exact HB.out | apply below_alloc | apply pw_below_drewN | apply below_drew1) | exact HB.out)⟩

/-! ### quarryref09_Of: function 11 -/
section
open Go.Proofs.YtifpahkgielocaaQ Go.Proofs.YtifpahkgielocaaM
theorem is_loop (s : ByteArray) (f : Bool) (hn : s.size ≤ 140737488351232) :
    ∀ (d i k : Nat), i + d = s.size → d < k → quarryref06_Is.l0 k s ((List.range (i + 1)).map (esc s f)) (i : Int) = some ((List.range (s.size + 1)).map (esc s f)) := by
  intro d
  induction d with
  | zero =>
    intro i k hi hk
    obtain ⟨k, rfl⟩ : ∃ m, k = m + 1 := ⟨k - 1, by omega⟩
    unfold quarryref06_Is.l0
    rw [if_neg (by omega), show i = s.size by omega]
  | succ d ih =>
    intro i k hi hk
    obtain ⟨k, rfl⟩ : ∃ m, k = m + 1 := ⟨k - 1, by omega⟩
    have e1 : wrap64 ((i : Int) + 1) = ((i + 1 : Nat) : Int) := by unfold wrap64; omega
    have hl : ((List.range (i + 1)).map (esc s f)).length = i + 1 := by simp
    have h2 := ih (i + 1) k (by omega) (by omega)
    rw [List.range_succ, List.map_append] at h2
    have er : rdOf false ((List.range (i + 1)).map (esc s f)) (i : Int) = esc s f i := by
      unfold rdOf
      rw [Int.toNat_natCast]
      simp
    unfold quarryref06_Is.l0
    rw [if_pos (by omega), if_pos (by omega), e1, er, hl]
    by_cases h : bt s (i : Int) = 92
    · rw [if_pos h, if_pos (by omega), if_pos (by omega)]
      rw [show ((List.map (esc s f) [i + 1])) = [!esc s f i] by simp [esc, h]] at h2
      exact h2
    · rw [if_neg h, if_pos (by omega)]
      rw [show ((List.map (esc s f) [i + 1])) = [false] by simp [esc, h]] at h2
      exact h2
/-- The document's Is: is each byte escaped, and the one behind the last. -/
theorem is_eq (s : ByteArray) (f : Bool) (hn : s.size ≤ 140737488351232) (k : Nat) (hk : s.size < k) : quarryref06_Is.f k s f = some ((List.range (s.size + 1)).map (esc s f)) := by
  unfold quarryref06_Is.f
  exact is_loop s f hn s.size 0 k (by omega) hk
theorem cell_other {W W1 : World} {g : Nat} (K : Aside0 (W.heap.size ≤ W1.heap.size ∧ ∀ k, k ≠ g → W1.heap[k]? = W.heap[k]?)) {a : Addr} (hne : a.block ≠ g) {v : Value} (h : W.cell? a = some v) : W1.cell? a = some v := by
  have e := K.out.2 a.block hne
  unfold World.cell? at h ⊢
  rw [e]
  exact h
theorem add_block (a : Addr) (n : Nat) : (a.add n).block = a.block := by
  unfold Addr.add
  split <;> rfl
set_option maxHeartbeats 1000000 in
set_option maxRecDepth 100000 in
theorem quarryref09_Of.calls (s : ByteArray) (w : World) (hs : s.size ≤ 140737488351232) :
    Calls Try.prog 11 #[.string s] w fun e w' => e = .returned (.agg (partA (partO s) (partU s))) ∧ Below w.heap.size w w' := by
  have HB := BelowH.refl w
  have HS := Aside0.mk hs
  have HS2 := Aside0.mk (show s.size ≤ 844424930107392 by omega)
  clear hs
  go_enter Try.func11, Try.ntmps11
  go_wp2_with (first
    | ((with_reducible refine gate_dst (N := 2) rfl ?_); refine ev_alloc HB rfl (partA (fun _ => false) (fun _ => 0)) 25 ?hr ?_; (case hr => (rw [← partA_zero]; first | (go_simp; done) | (go_simp; rfl))); intro g0 w1 G_g0 GE_g0 B_g0 HBn K_g0; clear HB; have HB := HBn; clear HBn)
    | ((with_reducible refine gate_dst (N := 3) rfl ?_); refine ev_alloc HB rfl (partA (fun _ => false) (fun _ => 0)) 25 ?hr ?_; (case hr => (rw [← partA_zero]; first | (go_simp; done) | (go_simp; rfl))); intro g1 w2 G_g1 GE_g1 B_g1 HBn K_g1; clear HB; have HB := HBn; clear HBn)
    | ((with_reducible refine gate_ (Op.store 25 (.tmp 3) (.tmp 7)) rfl ?_); refine ev_store (cs := partA (fun _ => false) (fun _ => 0)) HB B_g1 GE_g1 rfl 25 _ _ rfl rfl rfl (sizeP' _ _) rfl (partA_one _ _) ?_; intro w3 B1 HB3 K3))
  have N01 := Aside0.mk (show g0 < g1 by have := B_g0.lt; have := G_g1.out; omega)
  have B0 := (B_g0.below K_g1.out).other K3 (Nat.ne_of_lt N01.out)
  clear B_g0 B_g1 K_g1 K_g0 HB K3
  go_loopw [4] (fun v4 wr => ∃ x : Nat, x ≤ 2 ∧ v4 = .int .i64 x ∧ Blk wr g0 (partA (fun _ => false) (fun _ => 0)) 25 ∧ Blk wr g1 (partA (fun y => decide (y < x) && partO s y) (fun y => if y < x then partU s y else 0)) 25 ∧ BelowH w wr) (fun v4 _ => 2 - (intOf v4).toNat)
  case atStart => exact ⟨0, by omega, rfl, B0, B1.eqA (partA_congr (fun _ _ => by simp) (fun _ _ => by simp)), HB3⟩
  case round =>
    clear B0 B1 HB3
    obtain ⟨x, hx, rfl, B0, B1, HB⟩ := hrel
    by_cases hlt : x < 2
    · have h1 : (x : Int) < 2 := by omega
      have KX := Aside0.mk hlt
      obtain ⟨fx, hfx⟩ : ∃ fx : Bool, fx = (x == 1) := ⟨_, rfl⟩
      have hf1 : ((x : Int) == 1) = fx := by rw [hfx, Bool.eq_iff_iff, beq_iff_eq, beq_iff_eq]; omega
      have HFX := Aside0.mk hfx
      have CI := Aside0.mk (fun W => quarryref06_Is.calls (s.size + 1) s fx _ W (is_eq s fx HS.out _ (by omega)))
      clear hfx hx hlt
      rw [acc_start] at B1
      go_upto_region 6 with (first
        | (go_at_call 29; (with_reducible refine (CI.out _).mono ?_); rintro e w5 ⟨v0, rfl, hR, hb5⟩; obtain ⟨ad, cap, rfl⟩ := Kd.R_slice1 hR (by simp); have HR5 := Aside0.mk hR; have D1 := B1.below hb5; have D0 := B0.below hb5; have HB5 := HB.step hb5; clear B1 B0 HB hb5 hR))
      have CE : Aside0 (∀ j, j ≤ s.size → w5.cell? (ad.add j) = some (.bool (esc s fx j))) := ⟨fun j hj => by
        obtain ⟨A, c, e, _, hC⟩ := Kd.R_reads HR5.out
        cases e
        have h := Kd.foot_bool hC (j : Int) (by omega) (by simp; omega)
        rw [Int.toNat_natCast] at h
        rw [h]
        unfold rdOf
        rw [Int.toNat_natCast]
        simp [show j < s.size + 1 by omega]⟩
      have NA := Aside0.mk (show ad.block ≠ g1 from fun h => Kd.R_ne HR5.out D1.out (by decide) (by rw [← h]; rfl))
      clear HR5
      go_wp2
      go_loopw [6] (fun v6 wi => ∃ i : Nat, i ≤ s.size ∧ v6 = .int .i64 i ∧ Blk wi g0 (partA (fun _ => false) (fun _ => 0)) 25 ∧ Blk wi g1 (partA (accO s x i) (fun y => if y < x then partU s y else 0)) 25 ∧ BelowH w wi ∧ Aside0 (∀ j, j ≤ s.size → wi.cell? (ad.add j) = some (.bool (esc s fx j)))) (fun v6 _ => s.size - (intOf v6).toNat)
      case atStart => exact ⟨0, by omega, rfl, D0, D1, HB5, CE⟩
      case round =>
        clear D0 D1 HB5 CE
        obtain ⟨i, hi, rfl, B0, B1, HB, CE⟩ := hrel
        by_cases hlt : i < s.size
        · have KI := Aside0.mk hlt
          have hlt' : decide ((i : Int) < (s.size : Int)) = true := decide_eq_true (by omega)
          have hb : ∀ h : i < s.size, (((s[i]'h).toNat : Nat) : Int) = bt s (i : Int) := fun h => bt_at s (i : Int) h
          have hc := B1.cell (partA_o (accO s x i) (fun y => if y < x then partU s y else 0) KX.out)
          rw [accO_self s x i HFX.out] at hc
          obtain ⟨o, ho⟩ : ∃ o, o = oddQ s fx i := ⟨_, rfl⟩
          obtain ⟨e, he⟩ : ∃ e, e = esc s fx i := ⟨_, rfl⟩
          rw [← ho] at hc
          have ce := CE.out i (by omega)
          rw [← he] at ce
          have hin : (i : Int) < (s.size : Int) + 1 := by omega
          have HO := Aside0.mk ho
          have HE := Aside0.mk he
          clear ho he hi
          by_cases q34 : bt s (i : Int) = 34
          · have f34 : (bt s (i : Int) == 34) = true := beq_iff_eq.mpr q34
            cases e with
            | false =>
              have ST := Aside0.mk (acc_turn s x i (fun y => if y < x then partU s y else 0) KX.out HFX.out (by rw [← HE.out, decide_eq_true q34]; rfl))
              rw [← HO.out] at ST
              clear q34
              go_wp2_with (first
                | ((with_reducible refine gate_ (Op.store 4 (.tmp 40) (.tmp 38)) rfl ?_); refine ev_store1 (i := x) HB B1 GE_g1 rfl 4 _ _ rfl rfl (.bool (!o)) rfl (by rw [partA_size]; have := KX.out; omega) (by kernel_rfl) rfl ?_; intro w7 B7 HB7 K7))
              rw [ST.out] at B7
              go_roundw
              case rel => exact ⟨i + 1, by have := KI.out; omega, by rw [w64_up' KI.out HS2.out], B0.other K7 (Nat.ne_of_lt N01.out), B7, HB7, ⟨fun j hj => cell_other (a := ad.add j) K7 (by rw [add_block]; exact NA.out) (CE.out j hj)⟩⟩
              case measure =>
                rw [w64_up' KI.out HS2.out]
                simp [intOf]
                have := KI.out
                omega
            | true =>
              have ST := Aside0.mk (acc_same s x i (fun y => if y < x then partU s y else 0) HFX.out (by rw [← HE.out, Bool.not_true, Bool.and_false]))
              clear q34
              go_wp2
              rw [ST.out] at B1
              go_roundw
              case rel => exact ⟨i + 1, by have := KI.out; omega, by rw [w64_up' KI.out HS2.out], B0, B1, HB, CE⟩
              case measure =>
                rw [w64_up' KI.out HS2.out]
                simp [intOf]
                have := KI.out
                omega
          · have f34 : (bt s (i : Int) == 34) = false := beq_eq_false_iff_ne.mpr q34
            have ST := Aside0.mk (acc_same s x i (fun y => if y < x then partU s y else 0) HFX.out (by rw [decide_eq_false q34, Bool.false_and]))
            clear q34
            go_wp2
            rw [ST.out] at B1
            go_roundw
            case rel => exact ⟨i + 1, by have := KI.out; omega, by rw [w64_up' KI.out HS2.out], B0, B1, HB, CE⟩
            case measure =>
              rw [w64_up' KI.out HS2.out]
              simp [intOf]
              have := KI.out
              omega
        · obtain rfl : i = s.size := by omega
          have hlt' : decide ((s.size : Int) < (s.size : Int)) = false := decide_eq_false (by omega)
          have hin : (s.size : Int) < (s.size : Int) + 1 := by omega
          obtain ⟨e, he⟩ : ∃ e, e = esc s fx s.size := ⟨_, rfl⟩
          have ce := CE.out s.size (by omega)
          rw [← he] at ce
          have HE := Aside0.mk he
          clear he hlt hi
          cases e with
          | true =>
            have ST := Aside0.mk (accU_one s x (accO s x s.size) KX.out HFX.out HE.out.symm)
            have SE := Aside0.mk (acc_end s x (fun y => if y < x + 1 then partU s y else 0) (fun y => if y < x + 1 then partU s y else 0) (fun _ _ => rfl))
            go_wp2_with (first
              | ((with_reducible refine gate_ (Op.store 3 (.tmp 48) (.const (.int .i64 1))) rfl ?_); refine ev_store1 (i := 2 + x) HB B1 GE_g1 rfl 3 _ _ rfl rfl (.int .i64 1) rfl (by rw [partA_size]; have := KX.out; omega) (by kernel_rfl) rfl ?_; intro w7 B7 HB7 K7))
            rw [ST.out, SE.out] at B7
            go_roundw
            case rel => exact ⟨x + 1, by have := KX.out; omega, by simp, B0.other K7 (Nat.ne_of_lt N01.out), B7, HB7⟩
            case measure =>
              simp [intOf]
              have := KX.out
              omega
          | false =>
            have SE := Aside0.mk (acc_end s x (fun y => if y < x then partU s y else 0) (fun y => if y < x + 1 then partU s y else 0) (accU_none s x HFX.out HE.out.symm))
            go_wp2
            rw [SE.out] at B1
            go_roundw
            case rel => exact ⟨x + 1, by have := KX.out; omega, by simp, B0, B1, HB⟩
            case measure =>
              simp [intOf]
              have := KX.out
              omega
    · obtain rfl : x = 2 := by omega
      rw [part_end] at B1
      go_wp2_with (first
        | ((with_reducible refine gate_dst (N := 49) rfl ?_); (try (refine gate_guard (by rfl) ?_; dsimp only)); refine ev_loadS B1 rfl 25 _ rfl rfl Try.underlying25 rfl (sizeP' _ _) ?_)
        | ((with_reducible refine gate_ (Op.store 25 (.tmp 2) (.tmp 49)) rfl ?_); refine ev_store HB B0 GE_g0 rfl 25 _ _ rfl rfl rfl (sizeP' _ _) rfl (partA_one _ _) ?_; intro w6 B6 HBn K_w6; clear HB; have HB := HBn; clear HBn))
      refine bodyPost_ret (results_cell_row rfl _ _ g0 25 _ (0, 0) _ rfl B6.out Try.underlying25 rfl (sizeP' _ _)) rfl ?_
      exact ⟨rfl, HB.out⟩
end


/-! ### quarryref09_texts: function 30 -/
mutual
def quarryref09_texts.l0 : Nat → List ByteArray → Int → Int → Option (List ByteArray)
  | 0, _, _, _ => none
  | k + 1, x1, x2, x3 => if x3 < 3 then (quarryref09_texts.l1 k x1 x3 (x1.length : Int) x2) else (some x1)
def quarryref09_texts.l1 : Nat → List ByteArray → Int → Int → Int → Option (List ByteArray)
  | 0, _, _, _, _ => none
  | k + 1, x1, x3, x4, x5 => if x5 < x4 then (if 0 ≤ x5 then (if x5 < (x1.length : Int) then (if (rdOf ByteArray.empty x1 x5).size + 1 ≤ 9223372036854775807 then (if x1.length < 8796093022208 then ((some (x1 ++ [(rdOf ByteArray.empty x1 x5) ++ (⟨#[92]⟩ : ByteArray)] : List ByteArray)).bind fun y117 => (if x5 < (y117.length : Int) then (if (rdOf ByteArray.empty y117 x5).size + 1 ≤ 9223372036854775807 then (if y117.length < 8796093022208 then ((some (y117 ++ [(rdOf ByteArray.empty y117 x5) ++ (⟨#[34]⟩ : ByteArray)] : List ByteArray)).bind fun y121 => (if x5 < (y121.length : Int) then (if (rdOf ByteArray.empty y121 x5).size + 1 ≤ 9223372036854775807 then (if y121.length < 8796093022208 then (quarryref09_texts.l1 k (y121 ++ [(rdOf ByteArray.empty y121 x5) ++ (⟨#[120]⟩ : ByteArray)]) x3 x4 (wrap64 (x5 + 1))) else (none)) else (none)) else (none))) else (none)) else (none)) else (none))) else (none)) else (none)) else (none)) else (none)) else (quarryref09_texts.l0 k x1 x4 (wrap64 (x3 + 1)))
end
def quarryref09_texts.f (k : Nat)  : Option (List ByteArray) := quarryref09_texts.l0 k (([(⟨#[]⟩ : ByteArray)] : List ByteArray)) 0 0
theorem quarryref09_texts.mono_l : ∀ k, (∀ y0 y1 y2, LeO (quarryref09_texts.l0 k y0 y1 y2) (quarryref09_texts.l0 (k + 1) y0 y1 y2)) ∧ (∀ y0 y1 y2 y3, LeO (quarryref09_texts.l1 k y0 y1 y2 y3) (quarryref09_texts.l1 (k + 1) y0 y1 y2 y3))
  | 0 => ⟨fun _ _ _ r h => by simp [quarryref09_texts.l0] at h, fun _ _ _ _ r h => by simp [quarryref09_texts.l1] at h⟩
  | k + 1 => by
    obtain ⟨ih0, ih1⟩ := quarryref09_texts.mono_l k
    refine ⟨?_, ?_⟩
    · intro y0 y1 y2
      unfold quarryref09_texts.l0
      repeat' first
      | (with_reducible exact ih0 _ _ _)
      | (with_reducible exact ih1 _ _ _ _)
      | (with_reducible exact LeO.refl _)
      | (with_reducible exact LeO.none _)
      | (with_reducible refine LeO.ite ?_ ?_)
      | (with_reducible refine LeO.bind ?_ (fun _ => ?_))
      | exact ih0 _ _ _
      | exact ih1 _ _ _ _
      | exact LeO.none _
      | refine LeO.ite ?_ ?_
      | refine LeO.bind ?_ (fun _ => ?_)
    · intro y0 y1 y2 y3
      unfold quarryref09_texts.l1
      repeat' first
      | (with_reducible exact ih0 _ _ _)
      | (with_reducible exact ih1 _ _ _ _)
      | (with_reducible exact LeO.refl _)
      | (with_reducible exact LeO.none _)
      | (with_reducible refine LeO.ite ?_ ?_)
      | (with_reducible refine LeO.bind ?_ (fun _ => ?_))
      | exact ih0 _ _ _
      | exact ih1 _ _ _ _
      | exact LeO.none _
      | refine LeO.ite ?_ ?_
      | refine LeO.bind ?_ (fun _ => ?_)
theorem quarryref09_texts.mono : ∀ k, LeO (quarryref09_texts.f k ) (quarryref09_texts.f (k + 1) ) := by
  intro  k
  obtain ⟨ih0, ih1⟩ := quarryref09_texts.mono_l k
  unfold quarryref09_texts.f
  repeat' first
      | (with_reducible exact ih0 _ _ _)
      | (with_reducible exact ih1 _ _ _ _)
      | (with_reducible exact LeO.refl _)
      | (with_reducible exact LeO.none _)
      | (with_reducible refine LeO.ite ?_ ?_)
      | (with_reducible refine LeO.bind ?_ (fun _ => ?_))
      | exact ih0 _ _ _
      | exact ih1 _ _ _ _
      | exact LeO.none _
      | refine LeO.ite ?_ ?_
      | refine LeO.bind ?_ (fun _ => ?_)
set_option maxHeartbeats 8000000 in
set_option maxRecDepth 100000 in
theorem quarryref09_texts.calls (k : Nat)  (r : List ByteArray) (w : World) (h : quarryref09_texts.f k  = some r) :
    Calls Try.prog 30 #[] w fun e w' => ∃ v0_ : Value, e = .returned (v0_) ∧ Kd.R Kd.string 9 w' w.heap.size (fun _ => True) v0_ r ∧ Below w.heap.size w w' := by
  have HB := Aside0.mk (Below.refl w.heap.size w)
  have H : (quarryref09_texts.l0 k (([(⟨#[]⟩ : ByteArray)] : List ByteArray)) 0 0) = some r := h
  clear h
  obtain ⟨y113, hy113⟩ : ∃ y_ : List ByteArray, y_ = (([(⟨#[]⟩ : ByteArray)] : List ByteArray)) := ⟨_, rfl⟩
  replace H : (quarryref09_texts.l0 k y113 0 0) = some r := by first | (rw [hy113]; with_reducible exact H) | (have H2_ := (Option.bind_some _ _).symm.trans H; rw [hy113]; with_reducible exact H2_) | (have H2_ := (Option.bind_some _ _).symm.trans H; with_reducible exact H2_) | with_reducible exact H | (rw [hy113]; exact H) | exact H
  have Ny113 := Aside0.mk hy113
  clear hy113
  have H' := Aside0.mk H
  clear H
  go_enter Try.func30, Try.ntmps30
  go_wp2_with (first | ((with_reducible refine gate_dst (N := 6) rfl ?_); refine Kd.R_lit Kd.string _ 9 ?hg (N := 6) ?hd (xs := ([(⟨#[]⟩ : ByteArray)] : List ByteArray)) (inner := [.string (⟨#[]⟩ : ByteArray)]) (ok := fun _ => True) (okp := fun _ => True) ?hr ?hp (fun _ hk => hk) trivial (Below.refl _ _) (Nat.le_refl _) (by simp) ?_; (case hd => rfl); (case hg => rfl); (case hr => first | (go_simp; done) | (go_simp; rfl)); (case hp => exact (Reps.one (show Kd.M Kd.string _ _ _ (⟨#[]⟩ : ByteArray) [.string (⟨#[]⟩ : ByteArray)] from rfl) (Reps.none _ _))); intro v114 w1 ho2 hb hg_ hnew_; clear hg_ hnew_; (first | rw [← Ny113.out] at ho2 | (simp only [Int.reduceToNat] at ho2; rw [← Ny113.out] at ho2)); have n0_ := Aside0.mk (Kd.R_lower ho2 (below_size (by repeat (first | (with_reducible first | exact HB.out | apply below_alloc | apply pw_below_drewN | apply below_drew1) | exact HB.out)))); have n1_ := Aside0.mk (below_step (by repeat (first | (with_reducible first | exact HB.out | apply below_alloc | apply pw_below_drewN | apply below_drew1) | exact HB.out)) hb); clear HB; have HO115 := n0_; have HB := n1_; clear n0_ n1_; clear hb ho2))
  go_loopg [1, 2, 3] k (fun kq v1 v2 v3 w' => ∃ (x1_1 : List ByteArray) (x2_1 : Int) (x3_1 : Int), v2 = .int .i64 x2_1 ∧ v3 = .int .i64 x3_1 ∧ Aside0 (quarryref09_texts.l0 kq x1_1 x2_1 x3_1 = some r) ∧ Aside0 (kq ≤ k) ∧ Aside0 (Kd.R Kd.string 9 w' w.heap.size (fun _ => True) v1 x1_1) ∧ Aside0 (Below w.heap.size w w'))
  case atStart => exact ⟨(y113), (0), (0), (by first | rfl | (simp; done) | (simp [*]; done)), (by first | rfl | (simp; done) | (simp [*]; done)), H', ⟨Nat.le_refl _⟩, ⟨by (with_reducible repeat (first | apply Kd.R_alloc | apply Kd.R_drewN | apply Kd.R_drew)); exact HO115.out⟩, ⟨by repeat (first | (with_reducible first | exact HB.out | apply below_alloc | apply pw_below_drewN | apply below_drew1) | exact HB.out)⟩⟩
  case round =>
    clear H'
    try clear p2
    obtain ⟨x1_1, x2_1, x3_1, rfl, rfl, HA, HK1, HO_1, HB⟩ := hrel
    cases gk with
    | zero => exact absurd HA.out (by simp [quarryref09_texts.l0])
    | succ k1 =>
      have H := HA.out
      clear HA
      simp only [quarryref09_texts.l0] at H
      by_cases c3 : x3_1 < 3
      · rw [if_pos c3] at H
        have c3b0 : decide (x3_1 < 3) = true := decide_eq_true c3
        clear c3
        have H' := Aside0.mk H
        clear H
        obtain ⟨Ao4, co4, eo4⟩ := Kd.R_slice HO_1.out
        subst eo4
        go_wp2
        go_loopg [1, 5] k1 (fun kq v1 v5 w' => ∃ (x1_2 : List ByteArray) (x5_2 : Int), v5 = .int .i64 x5_2 ∧ Aside0 (quarryref09_texts.l1 kq x1_2 x3_1 (x1_1.length : Int) x5_2 = some r) ∧ Aside0 (kq ≤ k1) ∧ Aside0 (Kd.R Kd.string 9 w' w.heap.size (fun _ => True) v1 x1_2) ∧ Aside0 (Below w.heap.size w w'))
        case atStart => exact ⟨(x1_1), (x2_1), (by first | rfl | (simp; done) | (simp [*]; done)), H', ⟨Nat.le_refl _⟩, ⟨by (with_reducible repeat (first | apply Kd.R_alloc | apply Kd.R_drewN | apply Kd.R_drew)); exact HO_1.out⟩, ⟨by repeat (first | (with_reducible first | exact HB.out | apply below_alloc | apply pw_below_drewN | apply below_drew1) | exact HB.out)⟩⟩
        case round =>
          clear H'
          try clear p2
          try clear c3
          try clear c3b0
          try clear p2
          obtain ⟨x1_2, x5_2, rfl, HA, HK2, HO_1, HB⟩ := hrel
          cases gk with
          | zero => exact absurd HA.out (by simp [quarryref09_texts.l1])
          | succ k2 =>
            have H := HA.out
            clear HA
            simp only [quarryref09_texts.l1] at H
            by_cases c5 : x5_2 < (x1_1.length : Int)
            · rw [if_pos c5] at H
              have c5b0 : decide (x5_2 < (x1_1.length : Int)) = true := decide_eq_true c5
              clear c5
              by_cases c6 : 0 ≤ x5_2
              · rw [if_pos c6] at H
                have c6b0 : decide (0 ≤ x5_2) = true := decide_eq_true c6
                clear c6
                by_cases c7 : x5_2 < (x1_2.length : Int)
                · rw [if_pos c7] at H
                  have c7b0 : decide (x5_2 < (x1_2.length : Int)) = true := decide_eq_true c7
                  clear c7
                  by_cases c8 : (rdOf ByteArray.empty x1_2 x5_2).size + 1 ≤ 9223372036854775807
                  · rw [if_pos c8] at H
                    have c8b0 := eq_true c8
                    have c8b1 : decide ((rdOf ByteArray.empty x1_2 x5_2).size + 1 ≤ 9223372036854775807) = true := decide_eq_true c8
                    try have c8b2 : (9223372036854775807 < (rdOf ByteArray.empty x1_2 x5_2).size + 1) = False := eq_false (Nat.not_lt.2 c8)
                    by_cases c9 : x1_2.length < 8796093022208
                    · rw [if_pos c9] at H
                      have LMc9 := Aside0.mk c9
                      clear c9
                      obtain ⟨y117, hy117⟩ : ∃ y_ : List ByteArray, y_ = (x1_2 ++ [(rdOf ByteArray.empty x1_2 x5_2) ++ (⟨#[92]⟩ : ByteArray)]) := ⟨_, rfl⟩
                      replace H : (if x5_2 < (y117.length : Int) then (if (rdOf ByteArray.empty y117 x5_2).size + 1 ≤ 9223372036854775807 then (if y117.length < 8796093022208 then ((some (y117 ++ [(rdOf ByteArray.empty y117 x5_2) ++ (⟨#[34]⟩ : ByteArray)] : List ByteArray)).bind fun y121 => (if x5_2 < (y121.length : Int) then (if (rdOf ByteArray.empty y121 x5_2).size + 1 ≤ 9223372036854775807 then (if y121.length < 8796093022208 then (quarryref09_texts.l1 k2 (y121 ++ [(rdOf ByteArray.empty y121 x5_2) ++ (⟨#[120]⟩ : ByteArray)]) x3_1 (x1_1.length : Int) (wrap64 (x5_2 + 1))) else (none)) else (none)) else (none))) else (none)) else (none)) else (none)) = some r := by first | (rw [hy117]; with_reducible exact H) | (have H2_ := (Option.bind_some _ _).symm.trans H; rw [hy117]; with_reducible exact H2_) | (have H2_ := (Option.bind_some _ _).symm.trans H; with_reducible exact H2_) | with_reducible exact H | (rw [hy117]; exact H) | exact H
                      have Ny117 := Aside0.mk hy117
                      clear hy117
                      by_cases c10 : x5_2 < (y117.length : Int)
                      · rw [if_pos c10] at H
                        have c10b0 : decide (x5_2 < (y117.length : Int)) = true := decide_eq_true c10
                        clear c10
                        by_cases c11 : (rdOf ByteArray.empty y117 x5_2).size + 1 ≤ 9223372036854775807
                        · rw [if_pos c11] at H
                          have c11b0 := eq_true c11
                          have c11b1 : decide ((rdOf ByteArray.empty y117 x5_2).size + 1 ≤ 9223372036854775807) = true := decide_eq_true c11
                          try have c11b2 : (9223372036854775807 < (rdOf ByteArray.empty y117 x5_2).size + 1) = False := eq_false (Nat.not_lt.2 c11)
                          by_cases c12 : y117.length < 8796093022208
                          · rw [if_pos c12] at H
                            have LMc12 := Aside0.mk c12
                            clear c12
                            obtain ⟨y121, hy121⟩ : ∃ y_ : List ByteArray, y_ = (y117 ++ [(rdOf ByteArray.empty y117 x5_2) ++ (⟨#[34]⟩ : ByteArray)]) := ⟨_, rfl⟩
                            replace H : (if x5_2 < (y121.length : Int) then (if (rdOf ByteArray.empty y121 x5_2).size + 1 ≤ 9223372036854775807 then (if y121.length < 8796093022208 then (quarryref09_texts.l1 k2 (y121 ++ [(rdOf ByteArray.empty y121 x5_2) ++ (⟨#[120]⟩ : ByteArray)]) x3_1 (x1_1.length : Int) (wrap64 (x5_2 + 1))) else (none)) else (none)) else (none)) = some r := by first | (rw [hy121]; with_reducible exact H) | (have H2_ := (Option.bind_some _ _).symm.trans H; rw [hy121]; with_reducible exact H2_) | (have H2_ := (Option.bind_some _ _).symm.trans H; with_reducible exact H2_) | with_reducible exact H | (rw [hy121]; exact H) | exact H
                            have Ny121 := Aside0.mk hy121
                            clear hy121
                            by_cases c13 : x5_2 < (y121.length : Int)
                            · rw [if_pos c13] at H
                              have c13b0 : decide (x5_2 < (y121.length : Int)) = true := decide_eq_true c13
                              clear c13
                              by_cases c14 : (rdOf ByteArray.empty y121 x5_2).size + 1 ≤ 9223372036854775807
                              · rw [if_pos c14] at H
                                have c14b0 := eq_true c14
                                have c14b1 : decide ((rdOf ByteArray.empty y121 x5_2).size + 1 ≤ 9223372036854775807) = true := decide_eq_true c14
                                try have c14b2 : (9223372036854775807 < (rdOf ByteArray.empty y121 x5_2).size + 1) = False := eq_false (Nat.not_lt.2 c14)
                                by_cases c15 : y121.length < 8796093022208
                                · rw [if_pos c15] at H
                                  have LMc15 := Aside0.mk c15
                                  clear c15
                                  obtain ⟨y125, hy125⟩ : ∃ y_ : List ByteArray, y_ = (y121 ++ [(rdOf ByteArray.empty y121 x5_2) ++ (⟨#[120]⟩ : ByteArray)]) := ⟨_, rfl⟩
                                  replace H : (quarryref09_texts.l1 k2 y125 x3_1 (x1_1.length : Int) (wrap64 (x5_2 + 1))) = some r := by first | (rw [hy125]; with_reducible exact H) | (have H2_ := (Option.bind_some _ _).symm.trans H; rw [hy125]; with_reducible exact H2_) | (have H2_ := (Option.bind_some _ _).symm.trans H; with_reducible exact H2_) | with_reducible exact H | (rw [hy125]; exact H) | exact H
                                  have Ny125 := Aside0.mk hy125
                                  clear hy125
                                  have H' := Aside0.mk H
                                  clear H
                                  obtain ⟨Ao16, co16, eo16⟩ := Kd.R_slice HO_1.out
                                  subst eo16
                                  have p116 : 0 ≤ (x5_2 : Int) := of_decide_eq_true (by first | (with_reducible assumption) | assumption)
                                  have q116 : x5_2 < (x1_2.length : Int) := of_decide_eq_true (by first | (with_reducible assumption) | assumption)
                                  obtain ⟨ad116, e116, hx116_0⟩ := Kd.at_string (Kd.R_reads' HO_1.out).2.2 x5_2 p116 q116
                                  cases e116
                                  replace p116 := eq_true p116
                                  replace q116 := eq_true q116
                                  go_wp2_with (first | ((with_reducible refine gate_builtin (b := .append) (xs := #[.tmp 19, .tmp 25]) rfl ?_); at_builtin; refine Kd.R_append Kd.string (w0 := w) w.heap.size rfl (.tmp 19) (.tmp 25) 50 9 (.string ⟨#[]⟩) 16 rfl Try.underlying50 info9 rfl (by decide) (by omega) (.slice (some ad116) x1_2.length co16) x1_2 ((rdOf ByteArray.empty x1_2 x5_2) ++ (⟨#[92]⟩ : ByteArray)) [.string ((rdOf ByteArray.empty x1_2 x5_2) ++ (⟨#[92]⟩ : ByteArray))] (fun _ => True) (fun _ => False) rfl rfl ?aP (fun _ hk => hk.elim) ?aF ?aO ?aB ?aS ?aL ?_; (case aP => exact rfl); (case aB => exact (by repeat (first | (with_reducible first | exact HB.out | apply below_alloc | apply pw_below_drewN | apply below_drew1) | exact HB.out))); (case aF => exact (fun _ _ => trivial)); (case aO => exact (by (with_reducible repeat (first | apply Kd.R_alloc | apply Kd.R_drewN | apply Kd.R_drew)); exact HO_1.out)); (case aS => exact (below_size (by repeat (first | (with_reducible first | exact HB.out | apply below_alloc | apply pw_below_drewN | apply below_drew1) | exact HB.out)))); (case aL => have := LMc9.out; omega); intro v118 w17 ho hb hg hat; rw [← Ny117.out] at ho; have n0_ := Aside0.mk (hb); have n1_ := Aside0.mk (ho); clear HB; clear HO_1; have HB := n0_; have HO119 := n1_; clear n0_ n1_; clear ho hb hg hat; obtain ⟨Ao18, co18, eo18⟩ := Kd.R_slice HO119.out; subst eo18; have p120 : 0 ≤ (x5_2 : Int) := of_decide_eq_true (by first | (with_reducible assumption) | assumption); have q120 : x5_2 < (y117.length : Int) := of_decide_eq_true (by first | (with_reducible assumption) | assumption); obtain ⟨ad120, e120, hx120_0⟩ := Kd.at_string (Kd.R_reads' HO119.out).2.2 x5_2 p120 q120; cases e120; replace p120 := eq_true p120; replace q120 := eq_true q120) | ((with_reducible refine gate_builtin (b := .append) (xs := #[.tmp 27, .tmp 33]) rfl ?_); at_builtin; refine Kd.R_append Kd.string (w0 := w) w.heap.size rfl (.tmp 27) (.tmp 33) 50 9 (.string ⟨#[]⟩) 16 rfl Try.underlying50 info9 rfl (by decide) (by omega) (.slice (some ad120) y117.length co18) y117 ((rdOf ByteArray.empty y117 x5_2) ++ (⟨#[34]⟩ : ByteArray)) [.string ((rdOf ByteArray.empty y117 x5_2) ++ (⟨#[34]⟩ : ByteArray))] (fun _ => True) (fun _ => False) rfl rfl ?aP (fun _ hk => hk.elim) ?aF ?aO ?aB ?aS ?aL ?_; (case aP => exact rfl); (case aB => exact (by repeat (first | (with_reducible first | exact HB.out | apply below_alloc | apply pw_below_drewN | apply below_drew1) | exact HB.out))); (case aF => exact (fun _ _ => trivial)); (case aO => exact (by (with_reducible repeat (first | apply Kd.R_alloc | apply Kd.R_drewN | apply Kd.R_drew)); exact HO119.out)); (case aS => exact (below_size (by repeat (first | (with_reducible first | exact HB.out | apply below_alloc | apply pw_below_drewN | apply below_drew1) | exact HB.out)))); (case aL => have := LMc12.out; omega); intro v122 w19 ho hb hg hat; rw [← Ny121.out] at ho; have n0_ := Aside0.mk (hb); have n1_ := Aside0.mk (ho); clear HB; clear HO119; have HB := n0_; have HO123 := n1_; clear n0_ n1_; clear ho hb hg hat; obtain ⟨Ao20, co20, eo20⟩ := Kd.R_slice HO123.out; subst eo20; have p124 : 0 ≤ (x5_2 : Int) := of_decide_eq_true (by first | (with_reducible assumption) | assumption); have q124 : x5_2 < (y121.length : Int) := of_decide_eq_true (by first | (with_reducible assumption) | assumption); obtain ⟨ad124, e124, hx124_0⟩ := Kd.at_string (Kd.R_reads' HO123.out).2.2 x5_2 p124 q124; cases e124; replace p124 := eq_true p124; replace q124 := eq_true q124) | ((with_reducible refine gate_builtin (b := .append) (xs := #[.tmp 35, .tmp 41]) rfl ?_); at_builtin; refine Kd.R_append Kd.string (w0 := w) w.heap.size rfl (.tmp 35) (.tmp 41) 50 9 (.string ⟨#[]⟩) 16 rfl Try.underlying50 info9 rfl (by decide) (by omega) (.slice (some ad124) y121.length co20) y121 ((rdOf ByteArray.empty y121 x5_2) ++ (⟨#[120]⟩ : ByteArray)) [.string ((rdOf ByteArray.empty y121 x5_2) ++ (⟨#[120]⟩ : ByteArray))] (fun _ => True) (fun _ => False) rfl rfl ?aP (fun _ hk => hk.elim) ?aF ?aO ?aB ?aS ?aL ?_; (case aP => exact rfl); (case aB => exact (by repeat (first | (with_reducible first | exact HB.out | apply below_alloc | apply pw_below_drewN | apply below_drew1) | exact HB.out))); (case aF => exact (fun _ _ => trivial)); (case aO => exact (by (with_reducible repeat (first | apply Kd.R_alloc | apply Kd.R_drewN | apply Kd.R_drew)); exact HO123.out)); (case aS => exact (below_size (by repeat (first | (with_reducible first | exact HB.out | apply below_alloc | apply pw_below_drewN | apply below_drew1) | exact HB.out)))); (case aL => have := LMc15.out; omega); intro v126 w21 ho hb hg hat; rw [← Ny125.out] at ho; have n0_ := Aside0.mk (hb); have n1_ := Aside0.mk (ho); clear HB; clear HO123; have HB := n0_; have HO127 := n1_; clear n0_ n1_; clear ho hb hg hat))
                                  go_roundg k2
                                  case measure => have := HK1.out; have := HK2.out; omega
                                  case rel => exact ⟨(y125), (wrap64 (x5_2 + 1)), (by first | rfl | (simp; done) | (simp [*]; done)), H', ⟨by have := HK1.out; have := HK2.out; omega⟩, ⟨by (with_reducible repeat (first | apply Kd.R_alloc | apply Kd.R_drewN | apply Kd.R_drew)); exact HO127.out⟩, ⟨by repeat (first | (with_reducible first | exact HB.out | apply below_alloc | apply pw_below_drewN | apply below_drew1) | exact HB.out)⟩⟩
                                · rw [if_neg c15] at H
                                  exact absurd H (by simp)
                              · rw [if_neg c14] at H
                                exact absurd H (by simp)
                            · rw [if_neg c13] at H
                              exact absurd H (by simp)
                          · rw [if_neg c12] at H
                            exact absurd H (by simp)
                        · rw [if_neg c11] at H
                          exact absurd H (by simp)
                      · rw [if_neg c10] at H
                        exact absurd H (by simp)
                    · rw [if_neg c9] at H
                      exact absurd H (by simp)
                  · rw [if_neg c8] at H
                    exact absurd H (by simp)
                · rw [if_neg c7] at H
                  exact absurd H (by simp)
              · rw [if_neg c6] at H
                exact absurd H (by simp)
            · rw [if_neg c5] at H
              have c5b0 : decide (x5_2 < (x1_1.length : Int)) = false := decide_eq_false c5
              clear c5
              have H' := Aside0.mk H
              clear H
              go_wp2
              go_roundg k2
              case measure => have := HK1.out; have := HK2.out; omega
              case rel => exact ⟨(x1_2), ((x1_1.length : Int)), (wrap64 (x3_1 + 1)), (by first | rfl | (simp; done) | (simp [*]; done)), (by first | rfl | (simp; done) | (simp [*]; done)), H', ⟨by have := HK1.out; have := HK2.out; omega⟩, ⟨by (with_reducible repeat (first | apply Kd.R_alloc | apply Kd.R_drewN | apply Kd.R_drew)); exact HO_1.out⟩, ⟨by repeat (first | (with_reducible first | exact HB.out | apply below_alloc | apply pw_below_drewN | apply below_drew1) | exact HB.out)⟩⟩
      · rw [if_neg c3] at H
        have c3b0 : decide (x3_1 < 3) = false := decide_eq_false c3
        clear c3
        obtain rfl := Option.some.inj H
        go_wp2
        go_ret
        exact ⟨_, by first | rfl | (simp [errW_none, errW_some] <;> rfl) | (simp [*, errW_none, errW_some] <;> rfl), by (with_reducible repeat (first | apply Kd.R_alloc | apply Kd.R_drewN | apply Kd.R_drew)); exact HO_1.out, by repeat (first | (with_reducible first | exact HB.out | apply below_alloc | apply pw_below_drewN | apply below_drew1) | exact HB.out)⟩

/-! ### quarryref09_Formed: function 13 -/
section
open Go.Proofs.YtifpahkgielocaaQ Go.Proofs.YtifpahkgielocaaM
def TL : List ByteArray := (quarryref09_texts.f 64).getD []
def tx (j : Nat) : ByteArray := rdOf ByteArray.empty TL (j : Int)
theorem tl_eq : quarryref09_texts.f 64 = some TL := by decide +kernel
theorem tl_len : TL.length = 40 := by decide +kernel
theorem tx_short : ∀ j, j < 40 → (tx j).size ≤ 3 := by decide +kernel
def pk (a b : Bool) (j : Nat) : Bool := if j = 0 then a else b
def uk (a b : Int) (j : Nat) : Int := if j = 0 then a else b
theorem all_parts : ∀ (a b : Bool) (c d : Fin 2), formedP (pk a b) (uk c.val d.val) = true → (List.range 40).any (fun j => peq (partO (tx j)) (partU (tx j)) (pk a b) (uk c.val d.val)) = true := by decide +kernel
theorem none_formed {o : Nat → Bool} {u : Nat → Int} (h : ∀ j, j < 40 → peq (partO (tx j)) (partU (tx j)) o u = false) : formedP o u = false := by
  cases g : formedP o u with
  | false => rfl
  | true =>
    exfalso
    obtain ⟨y0, hy0, e0, _⟩ := formed_out g (x := 0) (by decide)
    obtain ⟨y1, hy1, e1, _⟩ := formed_out g (x := 1) (by decide)
    have eo : ∀ o' u', peq o' u' (pk (o 0) (o 1)) (uk (y0 : Int) (y1 : Int)) = peq o' u' o u := fun o' u' => by
      unfold peq pk uk
      rw [e0, e1]
      rfl
    have ef : formedP (pk (o 0) (o 1)) (uk (y0 : Int) (y1 : Int)) = formedP o u := by
      unfold formedP pk uk
      rw [e0, e1]
      rfl
    have hp := all_parts (o 0) (o 1) ⟨y0, hy0⟩ ⟨y1, hy1⟩ (by rw [ef]; exact g)
    rw [List.any_eq_true] at hp
    obtain ⟨j, hj, hj2⟩ := hp
    rw [eo, h j (List.mem_range.mp hj)] at hj2
    cases hj2
set_option maxHeartbeats 1000000 in
set_option maxRecDepth 100000 in
theorem quarryref09_Formed.calls (o : Nat → Bool) (u : Nat → Int) (w : World) :
    Calls Try.prog 13 #[.agg (partA o u)] w fun e w' => e = .returned (.bool (formedP o u)) ∧ Below w.heap.size w w' := by
  have HB := BelowH.refl w
  obtain ⟨r, hr⟩ : ∃ r, r = formedP o u := ⟨_, rfl⟩
  rw [← hr]
  have HR := Aside0.mk hr
  clear hr
  go_enter Try.func13, Try.ntmps13
  go_upto_region 2 with (first
    | ((with_reducible refine gate_dst (N := 1) rfl ?_); refine ev_alloc HB rfl (partA o u) 25 ?hr ?_; (case hr => first | (go_simp; done) | (go_simp; rfl)); intro g1 w1 G_g1 GE_g1 B_g1 HBn K_g1; clear HB; have HB := HBn; clear HBn)
    | (go_at_call 30; (with_reducible refine (quarryref09_texts.calls 64 TL _ tl_eq).mono ?_); rintro e w2 ⟨v0, rfl, hR, hb2⟩; obtain ⟨ad, cap, rfl⟩ := Kd.R_slice1 hR (by rw [tl_len]; decide); have HR2 := Aside0.mk hR; have B1 := B_g1.below hb2; have HB2 := HB.step hb2; clear B_g1 HB hb2 hR))
  have CE : Aside0 (∀ j, j < 40 → w2.cell? (ad.add j) = some (.string (tx j))) := ⟨fun j hj => by
    obtain ⟨A, c, e, _, hC⟩ := Kd.R_reads HR2.out
    cases e
    have h := Kd.foot_string hC (j : Int) (by omega) (by rw [tl_len]; omega)
    rw [Int.toNat_natCast] at h
    exact h⟩
  rw [tl_len]
  clear HR2
  go_wp2
  go_loopw [4] (fun v4 wr => ∃ i : Nat, i ≤ 40 ∧ v4 = .int .i64 i ∧ Blk wr g1 (partA o u) 25 ∧ Aside0 (∀ j, j < 40 → wr.cell? (ad.add j) = some (.string (tx j))) ∧ Aside0 (∀ j, j < i → peq (partO (tx j)) (partU (tx j)) o u = false) ∧ BelowH w wr) (fun v4 _ => 40 - (intOf v4).toNat)
  case atStart => exact ⟨0, by omega, rfl, B1, CE, ⟨fun j h => absurd h (by omega)⟩, HB2⟩
  case round =>
    clear B1 CE HB2
    obtain ⟨i, hi, rfl, s1, CE, NF, HB⟩ := hrel
    by_cases hlt : i < 40
    · have KI := Aside0.mk hlt
      have h1 : (i : Int) < 40 := by omega
      obtain ⟨t, ht⟩ : ∃ t, t = tx i := ⟨_, rfl⟩
      have ca := CE.out
      have ci := ca i hlt
      rw [← ht] at ci
      obtain ⟨b, hb⟩ : ∃ b, b = peq (partO t) (partU t) o u := ⟨_, rfl⟩
      have OC : Aside0 (∀ W, Calls Try.prog 11 #[.string t] W fun e w' => e = .returned (.agg (partA (partO t) (partU t))) ∧ Below W.heap.size W w') := ⟨fun W => quarryref09_Of.calls t W (by have := tx_short i hlt; rw [ht]; omega)⟩
      have EQ : ∀ W : World, (Op.equalIn 10000 25 (.agg (partA (partO t) (partU t))) (.agg (partA o u))).run Try.prog W = .ok b W := fun W => by rw [hb]; exact eqPart _ _ _ _ W
      have HBB : Aside0 (b = true → formedP o u = true) := ⟨fun h => by rw [← formed_same (hb.symm.trans h)]; exact ppart_formed t⟩
      have HBN : Aside0 (b = false → peq (partO (tx i)) (partU (tx i)) o u = false) := ⟨fun h => by rw [← ht, ← hb]; exact h⟩
      clear hlt hi ht hb CE
      go_upto_region 5 with (fail)
      try simp only [Act.put, List.setIfInBounds_toArray, List.set_cons_zero, List.set_cons_succ]
      refine wp_region_noPanic ?_
      refine wp_region_held_drew (S := fun W => Blk W g1 (partA o u) 25 ∧ W.cell? (ad.add i) = some (.string t) ∧ (∀ j, j < 40 → W.cell? (ad.add j) = some (.string (tx j))) ∧ BelowH w W) (by kernel_rfl) ⟨s1.drew, pw_cell_below (below_drew (Below.refl _ _)) ci, fun j hj => pw_cell_below (below_drew (Below.refl _ _)) (ca j hj), HB.drew⟩ (fun hS => ?_)
      clear s1 ci ca HB
      refine' wpAnyH_take (i := 0) (oi := { dst := some 12, op := Go.Op.move (Go.Operand.tmp 3), type := 50, pos := "ref.go:54", after := #[], guard := none }) rfl (by kernel_rfl) (by kernel_rfl) (by kernel_rfl) (fun _ _ _ h => h) (Or.inl ⟨by rfl, ?hy1⟩) hS ?rest1
      case hy1 => (intro w hSw; (try dsimp only at hSw); first | (go_simp; done) | (go_simp; with_reducible rfl))
      try simp only [Act.put, List.setIfInBounds_toArray, List.set_cons_zero, List.set_cons_succ]
      refine' wpAnyH_take (i := 1) (oi := { dst := some 13, op := Go.Op.move (Go.Operand.tmp 4), type := 3, pos := "ref.go:54", after := #[], guard := none }) rfl (by kernel_rfl) (by kernel_rfl) (by kernel_rfl) (fun _ _ _ h => h) (Or.inl ⟨by rfl, ?hy2⟩) hS ?rest2
      case hy2 => (intro w hSw; (try dsimp only at hSw); first | (go_simp; done) | (go_simp; with_reducible rfl))
      try simp only [Act.put, List.setIfInBounds_toArray, List.set_cons_zero, List.set_cons_succ]
      refine' wpAnyH_take (i := 2) (oi := { dst := some 14, op := Go.Op.indexAddr 50 (Go.Operand.tmp 12) (Go.Operand.tmp 13), type := 0, pos := "ref.go:54", after := #[{ on := 0, ground := Go.Ground.data }, { on := 1, ground := Go.Ground.data }], guard := none }) rfl (by kernel_rfl) (by kernel_rfl) (by kernel_rfl) (fun _ _ _ h => h) (Or.inl ⟨by rfl, ?hy3⟩) hS ?rest3
      case hy3 => (intro w hSw; (try dsimp only at hSw); first | (go_simp; done) | (go_simp; with_reducible rfl))
      try simp only [Act.put, List.setIfInBounds_toArray, List.set_cons_zero, List.set_cons_succ]
      refine' wpAnyH_take (i := 3) (oi := { dst := some 15, op := Go.Op.load 9 (Go.Operand.tmp 14), type := 9, pos := "ref.go:54", after := #[{ on := 2, ground := Go.Ground.data }], guard := none }) rfl (by kernel_rfl) (by kernel_rfl) (by kernel_rfl) (fun _ _ _ h => h) (Or.inl ⟨by rfl, ?hy4⟩) hS ?rest4
      case hy4 => (intro w hSw; (try dsimp only at hSw); first | (go_simp; done) | (go_simp; with_reducible rfl))
      try simp only [Act.put, List.setIfInBounds_toArray, List.set_cons_zero, List.set_cons_succ]
      refine wpAnyH_take (i := 5) (oi := { dst := some 17, op := Go.Op.load 25 (Go.Operand.tmp 1), type := 25, pos := "ref.go:54", after := #[], guard := none }) rfl (by kernel_rfl) (by kernel_rfl) (by kernel_rfl) (fun _ _ _ h => h) (rg_load (by rfl) (fun _ hS => hS.1) 25 _ rfl rfl Try.underlying25 rfl (sizeP' _ _)) hS ?_
      try simp only [Act.put, List.setIfInBounds_toArray, List.set_cons_zero, List.set_cons_succ]
      refine wpAnyH_ready (rs := [4]) (by kernel_rfl) (by simp) ?_
      refine AllReadyH.cons (o := { dst := some 16, op := Go.Op.call { callee := Go.Callee.value (Go.Operand.func 11), args := #[Go.Operand.tmp 15], argTypes := #[9] }, type := 25, pos := "ref.go:54", after := #[{ on := 3, ground := Go.Ground.data }], guard := none }) rfl (fun K hK => ?_) ?_
      · obtain ⟨s1, ci, ca, HB⟩ := hS
        refine rg_call (by rfl) _ _ (.agg (partA (partO t) (partU t))) (by first | (go_simp; done) | (go_simp; rfl)) (OC.out _) ?_
        intro W' hb
        refine hK.out _ _ ⟨s1.below hb.out, pw_cell_below hb.out ci, fun j hj => pw_cell_below hb.out (ca j hj), HB.step hb.out⟩ (fun hS => ?_)
        clear hK K hb s1 ci ca HB
        try simp only [Act.put, List.setIfInBounds_toArray, List.set_cons_zero, List.set_cons_succ]
        refine' wpAnyH_take (i := 6) (oi := { dst := some 18, op := Go.Op.binOp Go.BinOp.eql 25 (Go.Operand.tmp 16) (Go.Operand.tmp 17) 25, type := 4, pos := "ref.go:54", after := #[{ on := 4, ground := Go.Ground.data }, { on := 5, ground := Go.Ground.data }], guard := none }) rfl (by kernel_rfl) (by kernel_rfl) (by kernel_rfl) (fun _ _ _ h => h) (Or.inl ⟨by rfl, ?hy5⟩) hS ?rest5
        case hy5 => (intro w hSw; (try dsimp only at hSw); first | (go_simp; done) | (go_simp; with_reducible rfl))
        try simp only [Act.put, List.setIfInBounds_toArray, List.set_cons_zero, List.set_cons_succ]
        refine wpAnyH_done (by kernel_rfl) ?_ _
        refine NoPanic.normal ?_
        obtain ⟨s1, ci, ca, HB⟩ := hS
        cases b with
        | true =>
          have HF := Aside0.mk (HR.out.trans (HBB.out rfl))
          have HF' := HF.out
          subst HF'
          go_wp2
          go_ret
          exact ⟨rfl, HB.out⟩
        | false =>
          go_wp2
          go_roundw
          case rel => exact ⟨i + 1, by have := KI.out; omega, by simp, s1, ⟨ca⟩, ⟨fun j hj => by
            by_cases e : j = i
            · subst e
              exact HBN.out rfl
            · exact NF.out j (by omega)⟩, HB⟩
          case measure =>
            simp [intOf]
            have := KI.out
            omega
      exact AllReadyH.nil
    · obtain rfl : i = 40 := by omega
      have HF := Aside0.mk (HR.out.trans (none_formed NF.out))
      have HF' := HF.out
      subst HF'
      go_wp2
      go_ret
      exact ⟨rfl, HB.out⟩
end


/-! ### quarryref09_Join: function 16 -/
section
open Go.Proofs.YtifpahkgielocaaQ Go.Proofs.YtifpahkgielocaaM
set_option maxHeartbeats 1000000 in
set_option maxRecDepth 100000 in
theorem quarryref09_Join.calls (o : Nat → Bool) (u : Nat → Int) (o' : Nat → Bool) (u' : Nat → Int) (w : World) :
    Calls Try.prog 16 #[.agg (partA o u), .agg (partA o' u')] w fun e w' => e = .returned (.agg (joinA o u o' u')) ∧ Below w.heap.size w w' := by
  have HB := BelowH.refl w
  unfold joinA
  obtain ⟨f1, h1⟩ : ∃ f, f = formedP o u := ⟨_, rfl⟩
  obtain ⟨f2, h2⟩ : ∃ f, f = formedP o' u' := ⟨_, rfl⟩
  have C1 : Aside0 (∀ W, Calls Try.prog 13 #[.agg (partA o u)] W fun e w' => e = .returned (.bool f1) ∧ Below W.heap.size W w') := ⟨fun W => by rw [h1]; exact quarryref09_Formed.calls o u W⟩
  have C2 : Aside0 (∀ W, Calls Try.prog 13 #[.agg (partA o' u')] W fun e w' => e = .returned (.bool f2) ∧ Below W.heap.size W w') := ⟨fun W => by rw [h2]; exact quarryref09_Formed.calls o' u' W⟩
  rw [← h1, ← h2]
  have H1 := Aside0.mk h1
  have H2 := Aside0.mk h2
  clear h1 h2
  by_cases ff : (f1 && f2) = true
  · rw [if_pos ff]
    obtain ⟨rfl, rfl⟩ : f1 = true ∧ f2 = true := by simpa using ff
    clear ff
    go_enter Try.func16, Try.ntmps16
    go_upto_region 2 with (first
      | ((with_reducible refine gate_dst (N := 2) rfl ?_); refine ev_alloc HB rfl (partA o u) 25 ?hr ?_; (case hr => first | (go_simp; done) | (go_simp; rfl)); intro g2 w1 G_g2 GE_g2 B_g2 HBn K_g2; clear HB; have HB := HBn; clear HBn)
      | ((with_reducible refine gate_dst (N := 3) rfl ?_); refine ev_alloc HB rfl (partA o' u') 25 ?hr ?_; (case hr => first | (go_simp; done) | (go_simp; rfl)); intro g3 w2 G_g3 GE_g3 B_g3 HBn K_g3; clear HB; have HB := HBn; clear HBn)
      | ((with_reducible refine gate_dst (N := 4) rfl ?_); refine ev_alloc HB rfl (partA (fun _ => false) (fun _ => 0)) 25 ?hr ?_; (case hr => (rw [← partA_zero]; first | (go_simp; done) | (go_simp; rfl))); intro g4 w3 G_g4 GE_g4 B_g4 HBn K_g4; clear HB; have HB := HBn; clear HBn)
      | ((with_reducible refine gate_dst (N := 5) rfl ?_); refine ev_alloc HB rfl (partA (fun _ => false) (fun _ => 0)) 25 ?hr ?_; (case hr => (rw [← partA_zero]; first | (go_simp; done) | (go_simp; rfl))); intro g5 w4 G_g5 GE_g5 B_g5 HBn K_g5; clear HB; have HB := HBn; clear HBn)
      | ((with_reducible refine gate_ (Op.store 25 (.tmp 5) (.tmp 9)) rfl ?_); refine ev_store (cs := partA (fun _ => false) (fun _ => 0)) HB B_g5 GE_g5 rfl 25 _ _ rfl rfl rfl (sizeP' _ _) rfl (partA_one _ _) ?_; intro w5 E5 HB5 K5))
    have N25 := Aside0.mk (show g2 < g5 by have := B_g2.lt; have := G_g3.out; have := B_g3.lt; have := G_g4.out; have := B_g4.lt; have := G_g5.out; omega)
    have N35 := Aside0.mk (show g3 < g5 by have := B_g3.lt; have := G_g4.out; have := B_g4.lt; have := G_g5.out; omega)
    have N45 := Aside0.mk (show g4 < g5 by have := B_g4.lt; have := G_g5.out; omega)
    have E2 := ((((B_g2.below K_g3.out).below K_g4.out).below K_g5.out)).other K5 (Nat.ne_of_lt N25.out)
    have E3 := ((B_g3.below K_g4.out).below K_g5.out).other K5 (Nat.ne_of_lt N35.out)
    have E4 := (B_g4.below K_g5.out).other K5 (Nat.ne_of_lt N45.out)
    clear B_g2 B_g3 B_g4 B_g5 K_g2 K_g3 K_g4 K_g5 K5 G_g2 G_g3 G_g4 G_g5 HB
    go_upto_region 6 with (first
      | ((with_reducible refine gate_dst (N := 10) rfl ?_); (try (refine gate_guard (by rfl) ?_; dsimp only)); refine ev_loadS E2 rfl 25 _ rfl rfl Try.underlying25 rfl (sizeP' _ _) ?_)
      | ((with_reducible refine gate_dst (N := 12) rfl ?_); (try (refine gate_guard (by rfl) ?_; dsimp only)); refine ev_loadS F3 rfl 25 _ rfl rfl Try.underlying25 rfl (sizeP' _ _) ?_)
      | (go_at_call 13; (with_reducible refine (C1.out _).mono ?_); rintro e w6 ⟨rfl, hb6⟩; have F2 := E2.below hb6; have F3 := E3.below hb6; have F4 := E4.below hb6; have F5 := E5.below hb6; have HBF := HB5.step hb6; clear E2 E3 E4 E5 HB5 hb6)
      | (go_at_call 13; (with_reducible refine (C2.out _).mono ?_); rintro e w6 ⟨rfl, hb6⟩; have G2 := F2.below hb6; have G3 := F3.below hb6; have G4 := F4.below hb6; have G5 := F5.below hb6; have HBG := HBF.step hb6; clear F2 F3 F4 F5 HBF hb6))
    rw [jn_zero (joinO o u o') (joinU u u')] at G5
    go_wp2
    go_loopw [8] (fun v8 wr => ∃ x : Nat, x ≤ 2 ∧ v8 = .int .i64 x ∧ Blk wr g2 (partA o u) 25 ∧ Blk wr g3 (partA o' u') 25 ∧ Blk wr g4 (partA (fun _ => false) (fun _ => 0)) 25 ∧ Blk wr g5 (partA (jO (joinO o u o') x) (jU (joinU u u') x)) 25 ∧ BelowH w wr) (fun v8 _ => 2 - (intOf v8).toNat)
    case atStart => exact ⟨0, by omega, rfl, G2, G3, G4, G5, HBG⟩
    case round =>
      clear G2 G3 G4 G5 HBG
      obtain ⟨x, hx, rfl, B2, B3, B4, B5, HB⟩ := hrel
      by_cases hlt : x < 2
      · have h1 : (x : Int) < 2 := by omega
        have KX := Aside0.mk hlt
        obtain ⟨y, hy, hu, hv⟩ := formed_out H1.out.symm hlt
        have JO := Aside0.mk (show (!(o x == o' y)) = joinO o u o' x by unfold joinO; rw [hv]; rfl)
        have JU := Aside0.mk (show u' y = joinU u u' x by unfold joinU; rw [hv])
        have cu := B2.cell (partA_u o u hlt)
        rw [hu] at cu
        have co := B2.cell (partA_o o u hlt)
        have co' := B3.cell (partA_o o' u' hy)
        have h2 : (y : Int) < 2 := by omega
        clear hx hu hv
        go_upto_region 9 with (fail)
        go_still_tail 15, (by kernel_rfl)
        change wpList _ _ _ _ _ wr.drew
        have E2 := B2.drew
        have E3 := B3.drew
        have E4 := B4.drew
        have E5 := B5.drew
        have HE := HB.drew
        have NY := Aside0.mk hy
        clear B2 B3 B4 B5 HB co co' hlt hy
        go_upto_region 10 with (first
          | ((with_reducible refine gate_ (Op.store 4 (.tmp 39) (.tmp 37)) rfl ?_); refine ev_store1 (i := x) HE E5 GE_g5 rfl 4 _ _ rfl rfl (.bool (!(o x == o' y))) rfl (by rw [partA_size]; have := KX.out; omega) (by kernel_rfl) rfl ?_; intro w8 F5 HF K8))
        rw [jn_setO (joinO o u o') (jU (joinU u u') x) KX.out JO.out] at F5
        have F2 := E2.other K8 (Nat.ne_of_lt N25.out)
        have F3 := E3.other K8 (Nat.ne_of_lt N35.out)
        have F4 := E4.other K8 (Nat.ne_of_lt N45.out)
        have cu' := F3.cell (partA_u o' u' NY.out)
        have cu2 := cell_other (a := ⟨g2, 2 + x, none⟩) K8 (Nat.ne_of_lt N25.out) cu
        clear E2 E3 E4 E5 HE K8 cu
        go_wp2_with (first
          | ((with_reducible refine gate_ (Op.store 3 (.tmp 49) (.tmp 47)) rfl ?_); refine ev_store1 (i := 2 + x) HF F5 GE_g5 rfl 3 _ _ rfl rfl (.int .i64 (u' y)) rfl (by rw [partA_size]; have := KX.out; omega) (by kernel_rfl) rfl ?_; intro w9 G5 HG K9))
        rw [jn_setU (jO (joinO o u o') (x + 1)) (joinU u u') KX.out JU.out] at G5
        go_roundw
        case rel => exact ⟨x + 1, by have := KX.out; omega, by simp, F2.other K9 (Nat.ne_of_lt N25.out), F3.other K9 (Nat.ne_of_lt N35.out), F4.other K9 (Nat.ne_of_lt N45.out), G5, HG⟩
        case measure =>
          simp [intOf]
          have := KX.out
          omega
      · obtain rfl : x = 2 := by omega
        rw [jn_end] at B5
        go_wp2_with (first
          | ((with_reducible refine gate_dst (N := 50) rfl ?_); (try (refine gate_guard (by rfl) ?_; dsimp only)); refine ev_loadS B5 rfl 25 _ rfl rfl Try.underlying25 rfl (sizeP' _ _) ?_)
          | ((with_reducible refine gate_ (Op.store 25 (.tmp 4) (.tmp 50)) rfl ?_); refine ev_store HB B4 GE_g4 rfl 25 _ _ rfl rfl rfl (sizeP' _ _) rfl (partA_one _ _) ?_; intro w8 B8 HBn K_w8; clear HB; have HB := HBn; clear HBn))
        refine bodyPost_ret (results_cell_row rfl _ _ g4 25 _ (0, 0) _ rfl B8.out Try.underlying25 rfl (sizeP' _ _)) rfl ?_
        exact ⟨rfl, HB.out⟩
  · rw [if_neg ff]
    have SE : (f1 = false ∧ f2 = false) ∨ (f1 = false ∧ f2 = true) ∨ (f1 = true ∧ f2 = false) := by cases f1 <;> cases f2 <;> simp at ff ⊢
    clear ff
    rcases SE with ⟨rfl, rfl⟩ | ⟨rfl, rfl⟩ | ⟨rfl, rfl⟩
    all_goals
      go_enter Try.func16, Try.ntmps16
      go_upto_region 2 with (first
        | ((with_reducible refine gate_dst (N := 2) rfl ?_); refine ev_alloc HB rfl (partA o u) 25 ?hr ?_; (case hr => first | (go_simp; done) | (go_simp; rfl)); intro g2 w1 G_g2 GE_g2 B_g2 HBn K_g2; clear HB; have HB := HBn; clear HBn)
        | ((with_reducible refine gate_dst (N := 3) rfl ?_); refine ev_alloc HB rfl (partA o' u') 25 ?hr ?_; (case hr => first | (go_simp; done) | (go_simp; rfl)); intro g3 w2 G_g3 GE_g3 B_g3 HBn K_g3; clear HB; have HB := HBn; clear HBn)
        | ((with_reducible refine gate_dst (N := 4) rfl ?_); refine ev_alloc HB rfl (partA (fun _ => false) (fun _ => 0)) 25 ?hr ?_; (case hr => (rw [← partA_zero]; first | (go_simp; done) | (go_simp; rfl))); intro g4 w3 G_g4 GE_g4 B_g4 HBn K_g4; clear HB; have HB := HBn; clear HBn)
        | ((with_reducible refine gate_dst (N := 5) rfl ?_); refine ev_alloc HB rfl (partA (fun _ => false) (fun _ => 0)) 25 ?hr ?_; (case hr => (rw [← partA_zero]; first | (go_simp; done) | (go_simp; rfl))); intro g5 w4 G_g5 GE_g5 B_g5 HBn K_g5; clear HB; have HB := HBn; clear HBn)
        | ((with_reducible refine gate_ (Op.store 25 (.tmp 5) (.tmp 9)) rfl ?_); refine ev_store (cs := partA (fun _ => false) (fun _ => 0)) HB B_g5 GE_g5 rfl 25 _ _ rfl rfl rfl (sizeP' _ _) rfl (partA_one _ _) ?_; intro w5 E5 HB5 K5))
      have N25 := Aside0.mk (show g2 < g5 by have := B_g2.lt; have := G_g3.out; have := B_g3.lt; have := G_g4.out; have := B_g4.lt; have := G_g5.out; omega)
      have N35 := Aside0.mk (show g3 < g5 by have := B_g3.lt; have := G_g4.out; have := B_g4.lt; have := G_g5.out; omega)
      have N45 := Aside0.mk (show g4 < g5 by have := B_g4.lt; have := G_g5.out; omega)
      have E2 := ((((B_g2.below K_g3.out).below K_g4.out).below K_g5.out)).other K5 (Nat.ne_of_lt N25.out)
      have E3 := ((B_g3.below K_g4.out).below K_g5.out).other K5 (Nat.ne_of_lt N35.out)
      have E4 := (B_g4.below K_g5.out).other K5 (Nat.ne_of_lt N45.out)
      clear B_g2 B_g3 B_g4 B_g5 K_g2 K_g3 K_g4 K_g5 K5 G_g2 G_g3 G_g4 G_g5 HB
      go_wp2_with (first
        | ((with_reducible refine gate_dst (N := 10) rfl ?_); (try (refine gate_guard (by rfl) ?_; dsimp only)); refine ev_loadS E2 rfl 25 _ rfl rfl Try.underlying25 rfl (sizeP' _ _) ?_)
        | ((with_reducible refine gate_dst (N := 12) rfl ?_); (try (refine gate_guard (by rfl) ?_; dsimp only)); refine ev_loadS F3 rfl 25 _ rfl rfl Try.underlying25 rfl (sizeP' _ _) ?_)
        | (go_at_call 13; (with_reducible refine (C1.out _).mono ?_); rintro e w6 ⟨rfl, hb6⟩; have F2 := E2.below hb6; have F3 := E3.below hb6; have F4 := E4.below hb6; have F5 := E5.below hb6; have HBF := HB5.step hb6; clear E2 E3 E4 E5 HB5 hb6)
        | (go_at_call 13; (with_reducible refine (C2.out _).mono ?_); rintro e w6 ⟨rfl, hb6⟩; have G2 := F2.below hb6; have G3 := F3.below hb6; have G4 := F4.below hb6; have G5 := F5.below hb6; have HBG := HBF.step hb6; clear F2 F3 F4 F5 HBF hb6)
        | ((with_reducible refine gate_dst (N := 20) rfl ?_); (try (refine gate_guard (by rfl) ?_; dsimp only)); refine ev_loadS G5 rfl 25 _ rfl rfl Try.underlying25 rfl (sizeP' _ _) ?_)
        | ((with_reducible refine gate_ (Op.store 25 (.tmp 4) (.tmp 20)) rfl ?_); refine ev_store HBG G4 GE_g4 rfl 25 _ _ rfl rfl rfl (sizeP' _ _) rfl (partA_one _ _) ?_; intro w7 B7 HB7 K7))
      refine bodyPost_ret (results_cell_row rfl _ _ g4 25 _ (0, 0) _ rfl B7.out Try.underlying25 rfl (sizeP' _ _)) rfl ?_
      exact ⟨rfl, HB7.out⟩
end


end Go.Proofs.Ytifpahkgielocaa.PJ
