-- Written by a program (myprint.py, over the kit's print) for this claim. Not trusted: Lean checks it.
import Derived.Test.YtifpahkgielocaaPGx0
import Derived.Test.YtifpahkgielocaaPGx1
namespace Go.Proofs.Ytifpahkgielocaa.PG
open Go.RowKit Go.Proofs.YtifpahkgielocaaW.PrintWords Go.Proofs.YtifpahkgielocaaW.PrintLast Go.Proofs.YtifpahkgielocaaW.PrintMore
attribute [local go_sem] max2_int min2_int max_two min_two max_three min_three max_four min_four   -- for this text's walks alone
set_option linter.unusedVariables false
set_option linter.unusedSimpArgs false

/-! ### quarrylaw09_PiecesGroups: function 5 -/
section
open Go.Proofs.YtifpahkgielocaaQ Go.Proofs.YtifpahkgielocaaM
theorem bt_left (s t : ByteArray) (i : Nat) (h : i < s.size) : bt (s ++ t) (i : Int) = bt s (i : Int) := by
  have hz : (s ++ t).size = s.size + t.size := ByteArray.size_append
  unfold bt
  simp only [Int.toNat_natCast]
  rw [dif_pos (by omega), dif_pos h, ByteArray.getElem_append_left h]
theorem bt_right (s t : ByteArray) (i : Nat) : bt (s ++ t) ((s.size + i : Nat) : Int) = bt t (i : Int) := by
  have hz : (s ++ t).size = s.size + t.size := ByteArray.size_append
  unfold bt
  simp only [Int.toNat_natCast]
  by_cases h : i < t.size
  · rw [dif_pos (by omega), dif_pos h, ByteArray.getElem_append_right (by omega)]
    simp only [Nat.add_sub_cancel_left]
  · rw [dif_neg (by omega), dif_neg h]
theorem esc_left (s t : ByteArray) (f : Bool) : ∀ i, i ≤ s.size → esc (s ++ t) f i = esc s f i
  | 0, _ => rfl
  | i + 1, h => by simp only [esc]; rw [esc_left s t f i (by omega), bt_left s t i (by omega)]
theorem esc_right (s t : ByteArray) (f : Bool) : ∀ i, esc (s ++ t) f (s.size + i) = esc t (esc s f s.size) i
  | 0 => esc_left s t f s.size (Nat.le_refl _)
  | i + 1 => by
    show (decide (bt (s ++ t) ((s.size + i : Nat) : Int) = 92) && !esc (s ++ t) f (s.size + i)) = _
    rw [bt_right, esc_right s t f i]; rfl
theorem sizeP4 (a b c d : Value) : (Try.prog.info? 25).map (·.size) = some (#[a, b, c, d] : Array Value).size := by
  rw [show (#[a, b, c, d] : Array Value).size = 4 from rfl]
  kernel_rfl
theorem odd_all (s : ByteArray) (f : Bool) : ∀ i : Nat, (∀ j : Nat, j < i → bt s (j : Int) = 92) → oddQ s f i = false
  | 0, _ => rfl
  | i + 1, h => by
    show (oddQ s f i != (decide (bt s (i : Int) = 34) && !esc s f i)) = false
    rw [odd_all s f i fun j hj => h j (by omega), decide_eq_false (by rw [h i (by omega)]; decide)]
    rfl
theorem part_formed (s : ByteArray) : formedP (partO s) (partU s) = true := by
  have e0 : (0 == 1) = false := rfl
  have e1 : (1 == 1) = true := rfl
  unfold formedP partO partU
  rw [e0, e1]
  have hf := esc_first s true s.size
  by_cases g : runs s s.size = s.size
  · have h0 : ∀ f, oddQ s f s.size = false := fun f => odd_all s f s.size fun j hj => runs_all s s.size j (by rw [g]; omega) hj
    rw [h0, h0]
    cases esc s false s.size <;> cases esc s true s.size <;> rfl
  · rw [decide_eq_false g] at hf
    simp only [Bool.and_false, Bool.xor_false] at hf
    rw [hf]
    cases esc s false s.size <;> simp [binB]
theorem odd_left (s t : ByteArray) (f : Bool) : ∀ i, i ≤ s.size → oddQ (s ++ t) f i = oddQ s f i
  | 0, _ => rfl
  | i + 1, h => by
    show (oddQ (s ++ t) f i != _) = (oddQ s f i != _)
    rw [odd_left s t f i (by omega), bt_left s t i (by omega), esc_left s t f i (by omega)]
theorem odd_right (s t : ByteArray) (f : Bool) : ∀ i, oddQ (s ++ t) f (s.size + i) = (oddQ s f s.size != oddQ t (esc s f s.size) i)
  | 0 => by
    rw [Nat.add_zero, odd_left s t f s.size (Nat.le_refl _)]
    show _ = (oddQ s f s.size != false)
    simp
  | i + 1 => by
    show (oddQ (s ++ t) f (s.size + i) != (decide (bt (s ++ t) ((s.size + i : Nat) : Int) = 34) && !esc (s ++ t) f (s.size + i))) = (oddQ s f s.size != (oddQ t (esc s f s.size) i != (decide (bt t (i : Int) = 34) && !esc t (esc s f s.size) i)))
    rw [odd_right s t f i, bt_right s t i, esc_right s t f i]
    cases oddQ s f s.size <;> cases oddQ t (esc s f s.size) i <;> simp
theorem join_eq (s t : ByteArray) : joinA (partO s) (partU s) (partO t) (partU t) = partA (partO (s ++ t)) (partU (s ++ t)) := by
  unfold joinA
  rw [part_formed, part_formed, Bool.and_self, if_pos rfl]
  have hu : ∀ x, ((partU s x).toNat == 1) = esc s (x == 1) s.size := fun x => by
    unfold partU
    cases esc s (x == 1) s.size <;> rfl
  refine partA_congr (fun x _ => ?_) (fun x _ => ?_)
  · unfold joinO partO
    rw [hu, ByteArray.size_append, odd_right]
  · unfold joinU
    have h2 : partU t (partU s x).toNat = (if esc t ((partU s x).toNat == 1) t.size then 1 else 0) := rfl
    rw [h2, hu]
    unfold partU
    rw [ByteArray.size_append, esc_right]
def quarrylaw09_PiecesGroups.Pure : Prop := True
set_option maxHeartbeats 1000000 in
set_option maxRecDepth 100000 in
theorem quarrylaw09_PiecesGroups.walk (_ : quarrylaw09_PiecesGroups.Pure) (a0 a1 a2 : ByteArray) (w : World) (w0 : a0.size ≤ 140737488351232) (w1 : a1.size ≤ 140737488351232) (w2 : a2.size ≤ 140737488351232) :
    Calls Try.prog 5 #[.string a0, .string a1, .string a2] w fun e w' => e = .returned (.bool true) ∧ Below w.heap.size w w' := by
  have HB := BelowH.refl w
  obtain ⟨oE, hoE⟩ : ∃ o, o = partO (⟨#[]⟩ : ByteArray) := ⟨_, rfl⟩
  obtain ⟨uE, huE⟩ : ∃ u, u = partU (⟨#[]⟩ : ByteArray) := ⟨_, rfl⟩
  obtain ⟨oA, hoA⟩ : ∃ o, o = partO a0 := ⟨_, rfl⟩
  obtain ⟨uA, huA⟩ : ∃ u, u = partU a0 := ⟨_, rfl⟩
  obtain ⟨oB, hoB⟩ : ∃ o, o = partO a1 := ⟨_, rfl⟩
  obtain ⟨uB, huB⟩ : ∃ u, u = partU a1 := ⟨_, rfl⟩
  obtain ⟨oC, hoC⟩ : ∃ o, o = partO a2 := ⟨_, rfl⟩
  obtain ⟨uC, huC⟩ : ∃ u, u = partU a2 := ⟨_, rfl⟩
  obtain ⟨oAB, hoAB⟩ : ∃ o, o = partO (a0 ++ a1) := ⟨_, rfl⟩
  obtain ⟨uAB, huAB⟩ : ∃ u, u = partU (a0 ++ a1) := ⟨_, rfl⟩
  obtain ⟨oBC, hoBC⟩ : ∃ o, o = partO (a1 ++ a2) := ⟨_, rfl⟩
  obtain ⟨uBC, huBC⟩ : ∃ u, u = partU (a1 ++ a2) := ⟨_, rfl⟩
  obtain ⟨oABC, hoABC⟩ : ∃ o, o = partO (a0 ++ a1 ++ a2) := ⟨_, rfl⟩
  obtain ⟨uABC, huABC⟩ : ∃ u, u = partU (a0 ++ a1 ++ a2) := ⟨_, rfl⟩
  have J0 : Aside0 (∀ W, Calls Try.prog 15 #[.agg #[.bool (oA 0), .bool (oA 1), .int .i64 (uA 0), .int .i64 (uA 1)], .agg #[.bool (oB 0), .bool (oB 1), .int .i64 (uB 0), .int .i64 (uB 1)]] W fun e w' => e = .returned (.agg #[.bool (oAB 0), .bool (oAB 1), .int .i64 (uAB 0), .int .i64 (uAB 1)]) ∧ Below W.heap.size W w') := ⟨fun W => by
    have h := pieces_Join.calls oA uA oB uB W
    rw [show joinA oA uA oB uB = partA oAB uAB by
      subst_vars
      exact (join_eq a0 a1)] at h
    exact h⟩
  have J1 : Aside0 (∀ W, Calls Try.prog 15 #[.agg #[.bool (oAB 0), .bool (oAB 1), .int .i64 (uAB 0), .int .i64 (uAB 1)], .agg #[.bool (oC 0), .bool (oC 1), .int .i64 (uC 0), .int .i64 (uC 1)]] W fun e w' => e = .returned (.agg #[.bool (oABC 0), .bool (oABC 1), .int .i64 (uABC 0), .int .i64 (uABC 1)]) ∧ Below W.heap.size W w') := ⟨fun W => by
    have h := pieces_Join.calls oAB uAB oC uC W
    rw [show joinA oAB uAB oC uC = partA oABC uABC by
      subst_vars
      exact (join_eq (a0 ++ a1) a2)] at h
    exact h⟩
  have J2 : Aside0 (∀ W, Calls Try.prog 15 #[.agg #[.bool (oB 0), .bool (oB 1), .int .i64 (uB 0), .int .i64 (uB 1)], .agg #[.bool (oC 0), .bool (oC 1), .int .i64 (uC 0), .int .i64 (uC 1)]] W fun e w' => e = .returned (.agg #[.bool (oBC 0), .bool (oBC 1), .int .i64 (uBC 0), .int .i64 (uBC 1)]) ∧ Below W.heap.size W w') := ⟨fun W => by
    have h := pieces_Join.calls oB uB oC uC W
    rw [show joinA oB uB oC uC = partA oBC uBC by
      subst_vars
      exact (join_eq a1 a2)] at h
    exact h⟩
  have J3 : Aside0 (∀ W, Calls Try.prog 15 #[.agg #[.bool (oA 0), .bool (oA 1), .int .i64 (uA 0), .int .i64 (uA 1)], .agg #[.bool (oBC 0), .bool (oBC 1), .int .i64 (uBC 0), .int .i64 (uBC 1)]] W fun e w' => e = .returned (.agg #[.bool (oABC 0), .bool (oABC 1), .int .i64 (uABC 0), .int .i64 (uABC 1)]) ∧ Below W.heap.size W w') := ⟨fun W => by
    have h := pieces_Join.calls oA uA oBC uBC W
    rw [show joinA oA uA oBC uBC = partA oABC uABC by
      subst_vars
      exact (by rw [join_eq, ByteArray.append_assoc])] at h
    exact h⟩
  have J4 : Aside0 (∀ W, Calls Try.prog 15 #[.agg #[.bool (oA 0), .bool (oA 1), .int .i64 (uA 0), .int .i64 (uA 1)], .agg #[.bool (oE 0), .bool (oE 1), .int .i64 (uE 0), .int .i64 (uE 1)]] W fun e w' => e = .returned (.agg #[.bool (oA 0), .bool (oA 1), .int .i64 (uA 0), .int .i64 (uA 1)]) ∧ Below W.heap.size W w') := ⟨fun W => by
    have h := pieces_Join.calls oA uA oE uE W
    rw [show joinA oA uA oE uE = partA oA uA by
      subst_vars
      exact (by rw [join_eq, show a0 ++ (⟨#[]⟩ : ByteArray) = a0 from ByteArray.append_empty])] at h
    exact h⟩
  have J5 : Aside0 (∀ W, Calls Try.prog 15 #[.agg #[.bool (oE 0), .bool (oE 1), .int .i64 (uE 0), .int .i64 (uE 1)], .agg #[.bool (oA 0), .bool (oA 1), .int .i64 (uA 0), .int .i64 (uA 1)]] W fun e w' => e = .returned (.agg #[.bool (oA 0), .bool (oA 1), .int .i64 (uA 0), .int .i64 (uA 1)]) ∧ Below W.heap.size W w') := ⟨fun W => by
    have h := pieces_Join.calls oE uE oA uA W
    rw [show joinA oE uE oA uA = partA oA uA by
      subst_vars
      exact (by rw [join_eq, show (⟨#[]⟩ : ByteArray) ++ a0 = a0 from ByteArray.empty_append])] at h
    exact h⟩
  have P0 : Aside0 (∀ W, Calls Try.prog 15 #[.agg (partA oA uA), .agg (partA oB uB)] W fun e w' => e = .returned (.agg (partA oAB uAB)) ∧ Below W.heap.size W w') := ⟨J0.out⟩
  have P1 : Aside0 (∀ W, Calls Try.prog 15 #[.agg (partA oAB uAB), .agg (partA oC uC)] W fun e w' => e = .returned (.agg (partA oABC uABC)) ∧ Below W.heap.size W w') := ⟨J1.out⟩
  have P2 : Aside0 (∀ W, Calls Try.prog 15 #[.agg (partA oB uB), .agg (partA oC uC)] W fun e w' => e = .returned (.agg (partA oBC uBC)) ∧ Below W.heap.size W w') := ⟨J2.out⟩
  have P3 : Aside0 (∀ W, Calls Try.prog 15 #[.agg (partA oA uA), .agg (partA oBC uBC)] W fun e w' => e = .returned (.agg (partA oABC uABC)) ∧ Below W.heap.size W w') := ⟨J3.out⟩
  have F0 : Aside0 (∀ W, Calls Try.prog 10 #[.string a0] W fun e w' => e = .returned (.agg #[.bool (oA 0), .bool (oA 1), .int .i64 (uA 0), .int .i64 (uA 1)]) ∧ Below W.heap.size W w') := ⟨fun W => by
    have h := pieces_Of.calls a0 W (by omega)
    rw [← hoA, ← huA] at h
    exact h⟩
  have F1 : Aside0 (∀ W, Calls Try.prog 10 #[.string a1] W fun e w' => e = .returned (.agg #[.bool (oB 0), .bool (oB 1), .int .i64 (uB 0), .int .i64 (uB 1)]) ∧ Below W.heap.size W w') := ⟨fun W => by
    have h := pieces_Of.calls a1 W (by omega)
    rw [← hoB, ← huB] at h
    exact h⟩
  have F2 : Aside0 (∀ W, Calls Try.prog 10 #[.string a2] W fun e w' => e = .returned (.agg #[.bool (oC 0), .bool (oC 1), .int .i64 (uC 0), .int .i64 (uC 1)]) ∧ Below W.heap.size W w') := ⟨fun W => by
    have h := pieces_Of.calls a2 W (by omega)
    rw [← hoC, ← huC] at h
    exact h⟩
  have F3 : Aside0 (∀ W, Calls Try.prog 10 #[.string (⟨#[]⟩ : ByteArray)] W fun e w' => e = .returned (.agg #[.bool (oE 0), .bool (oE 1), .int .i64 (uE 0), .int .i64 (uE 1)]) ∧ Below W.heap.size W w') := ⟨fun W => by
    have h := pieces_Of.calls (⟨#[]⟩ : ByteArray) W (by decide)
    rw [← hoE, ← huE] at h
    exact h⟩
  have F4 : Aside0 (∀ W, Calls Try.prog 10 #[.string (a0 ++ a1 ++ a2)] W fun e w' => e = .returned (.agg #[.bool (oABC 0), .bool (oABC 1), .int .i64 (uABC 0), .int .i64 (uABC 1)]) ∧ Below W.heap.size W w') := ⟨fun W => by
    have h := pieces_Of.calls (a0 ++ a1 ++ a2) W (by rw [ByteArray.size_append, ByteArray.size_append]; omega)
    rw [← hoABC, ← huABC] at h
    exact h⟩
  have FO : Aside0 (∀ W, Calls Try.prog 12 #[.agg #[.bool (oABC 0), .bool (oABC 1), .int .i64 (uABC 0), .int .i64 (uABC 1)]] W fun e w' => e = .returned (.bool true) ∧ Below W.heap.size W w') := ⟨fun W => by
    have h := pieces_Formed.calls oABC uABC W
    rw [show formedP oABC uABC = true by rw [hoABC, huABC]; exact part_formed _] at h
    exact h⟩
  have Q1 : ∀ W : World, (Op.equalIn 10000 25 (.agg #[.bool (oABC 0), .bool (oABC 1), .int .i64 (uABC 0), .int .i64 (uABC 1)]) (.agg #[.bool (oABC 0), .bool (oABC 1), .int .i64 (uABC 0), .int .i64 (uABC 1)])).run Try.prog W = .ok true W := fun W => by
    have h := eqPart oABC uABC oABC uABC W
    rw [peq_true (fun _ _ => rfl) (fun _ _ => rfl)] at h
    exact h
  have Q2 : ∀ W : World, (Op.equalIn 10000 25 (.agg #[.bool (oA 0), .bool (oA 1), .int .i64 (uA 0), .int .i64 (uA 1)]) (.agg #[.bool (oA 0), .bool (oA 1), .int .i64 (uA 0), .int .i64 (uA 1)])).run Try.prog W = .ok true W := fun W => by
    have h := eqPart oA uA oA uA W
    rw [peq_true (fun _ _ => rfl) (fun _ _ => rfl)] at h
    exact h
  have z1 : ¬ (a0.size + a1.size > 9223372036854775807) := by omega
  have z2 : ¬ (a0.size + a1.size + a2.size > 9223372036854775807) := by omega
  have z3 : ¬ ((a0 ++ a1).size + a2.size > 9223372036854775807) := by rw [ByteArray.size_append]; omega
  clear w0 w1 w2 hoE huE hoA huA hoB huB hoC huC hoAB huAB hoBC huBC hoABC huABC
  go_enter Try.func5, Try.ntmps5
  go_upto_region 2 with (first
    | (go_at_call 10; (first | (with_reducible refine (F0.out _).mono ?_) | (with_reducible refine (F1.out _).mono ?_) | (with_reducible refine (F2.out _).mono ?_)); rintro e w5 ⟨rfl, hb5⟩; have HBn := HB.step hb5; clear HB hb5; have HB := HBn; clear HBn)
    | ((with_reducible refine gate_dst (N := 7) rfl ?_); refine ev_alloc HB rfl (partA (fun _ => false) (fun _ => 0)) 25 ?hr ?_; (case hr => (rw [← partA_zero]; first | (go_simp; done) | (go_simp; rfl))); intro g7 w7 G_g7 GE_g7 B_g7 HBn K_g7; clear HB; have HB := HBn; clear HBn)
    | ((with_reducible refine gate_dst (N := 8) rfl ?_); refine ev_alloc HB rfl (partA (fun _ => false) (fun _ => 0)) 25 ?hr ?_; (case hr => (rw [← partA_zero]; first | (go_simp; done) | (go_simp; rfl))); intro g8 w8 G_g8 GE_g8 B_g8 HBn K_g8; clear HB; have HB := HBn; clear HBn)
    | (((with_reducible refine gate_dst (N := 9) rfl ?_); refine ev_alloc HB rfl (partA (fun _ => false) (fun _ => 0)) 25 ?hr ?_; (case hr => (rw [← partA_zero]; first | (go_simp; done) | (go_simp; rfl))); intro g9 w9 G_g9 GE_g9 B_g9 HBn K_g9; clear HB; have HB := HBn; clear HBn); have N78 := Aside0.mk (show g7 < g8 by have := B_g7.lt; have := G_g8.out; omega); have N89 := Aside0.mk (show g8 < g9 by have := B_g8.lt; have := G_g9.out; omega); have N79 := Aside0.mk (Nat.lt_trans N78.out N89.out))
    | ((with_reducible refine gate_ (Op.store 25 (.tmp 7) (.tmp 14)) rfl ?_); refine ev_store HB ((B_g7.below K_g8.out).below K_g9.out) GE_g7 rfl 25 _ _ rfl rfl rfl (sizeP4 _ _ _ _) rfl (by simp [Value.oneCell']) ?_; intro w10 B7 HBn K_w10; clear HB; have HB := HBn; clear HBn)
    | ((with_reducible refine gate_ (Op.store 25 (.tmp 8) (.tmp 16)) rfl ?_); refine ev_store HB ((B_g8.below K_g9.out).other K_w10 (Nat.ne_of_gt N78.out)) GE_g8 rfl 25 _ _ rfl rfl rfl (sizeP4 _ _ _ _) rfl (by simp [Value.oneCell']) ?_; intro w11 B8 HBn K_w11; clear HB; have HB := HBn; clear HBn)
    | ((with_reducible refine gate_ (Op.store 25 (.tmp 9) (.tmp 18)) rfl ?_); refine ev_store HB ((B_g9.other K_w10 (Nat.ne_of_gt N79.out)).other K_w11 (Nat.ne_of_gt N89.out)) GE_g9 rfl 25 _ _ rfl rfl rfl (sizeP4 _ _ _ _) rfl (by simp [Value.oneCell']) ?_; intro w12 B9 HBn K_w12; clear HB; have HB := HBn; clear HBn))
  have s7 := (B7.other K_w11 (Nat.ne_of_lt N78.out)).other K_w12 (Nat.ne_of_lt N79.out)
  have s8 := B8.other K_w12 (Nat.ne_of_lt N89.out)
  have sg7 : Blk w12 g7 (partA oA uA) 25 := s7
  have sg8 : Blk w12 g8 (partA oB uB) 25 := s8
  have sg9 : Blk w12 g9 (partA oC uC) 25 := B9
  clear s7 s8 B7 B8 B9 B_g7 B_g8 B_g9 K_w10 K_w11 K_w12 K_g7 K_g8 K_g9 G_g7 G_g8 G_g9 GE_g7 GE_g8 GE_g9 N78 N89 N79
  try simp only [Act.put, List.setIfInBounds_toArray, List.set_cons_zero, List.set_cons_succ]
  go_cut [10] from 19 to 23 (fun v10 wx => ∃ g10 : Nat, v10 = .pointer (some ⟨g10, 0, none⟩) ∧ Blk wx g7 (partA oA uA) 25 ∧ Blk wx g8 (partA oB uB) 25 ∧ Blk wx g9 (partA oC uC) 25 ∧ Blk wx g10 (partA oABC uABC) 25 ∧ BelowH w wx)
  case first =>
    refine wp_region_noPanic ?_
    refine wp_region_held_drew (S := fun W => Blk W g7 (partA oA uA) 25 ∧ Blk W g8 (partA oB uB) 25 ∧ Blk W g9 (partA oC uC) 25 ∧ BelowH w W) (by kernel_rfl) ⟨sg7.drew, sg8.drew, sg9.drew, HB.drew⟩ (fun hS => ?_)
    clear sg7 sg8 sg9 HB
    refine wpAnyH_take (i := 0) (oi := { dst := some 19, op := Go.Op.load 25 (Go.Operand.tmp 7), type := 25, pos := "outright.go:18", after := #[], guard := none }) rfl (by kernel_rfl) (by kernel_rfl) (by kernel_rfl) (fun _ _ _ h => h) (rg_load (by rfl) (fun _ hS => hS.1) 25 _ rfl rfl Try.underlying25 rfl (sizeP' _ _)) hS ?_
    try simp only [Act.put, List.setIfInBounds_toArray, List.set_cons_zero, List.set_cons_succ]
    refine wpAnyH_take (i := 1) (oi := { dst := some 20, op := Go.Op.load 25 (Go.Operand.tmp 8), type := 25, pos := "outright.go:18", after := #[], guard := none }) rfl (by kernel_rfl) (by kernel_rfl) (by kernel_rfl) (fun _ _ _ h => h) (rg_load (by rfl) (fun _ hS => hS.2.1) 25 _ rfl rfl Try.underlying25 rfl (sizeP' _ _)) hS ?_
    try simp only [Act.put, List.setIfInBounds_toArray, List.set_cons_zero, List.set_cons_succ]
    refine wpAnyH_take (i := 3) (oi := { dst := some 22, op := Go.Op.load 25 (Go.Operand.tmp 9), type := 25, pos := "outright.go:18", after := #[], guard := none }) rfl (by kernel_rfl) (by kernel_rfl) (by kernel_rfl) (fun _ _ _ h => h) (rg_load (by rfl) (fun _ hS => hS.2.2.1) 25 _ rfl rfl Try.underlying25 rfl (sizeP' _ _)) hS ?_
    try simp only [Act.put, List.setIfInBounds_toArray, List.set_cons_zero, List.set_cons_succ]
    refine wpAnyH_ready (rs := [2, 5]) (by kernel_rfl) (by simp) ?_
    refine AllReadyH.cons (o := { dst := some 21, op := Go.Op.call { callee := Go.Callee.value (Go.Operand.func 15), args := #[Go.Operand.tmp 19, Go.Operand.tmp 20], argTypes := #[25, 25] }, type := 25, pos := "outright.go:18", after := #[{ on := 0, ground := Go.Ground.data }, { on := 1, ground := Go.Ground.data }], guard := none }) rfl (fun K hK => ?_) ?_
    · obtain ⟨sg7, sg8, sg9, HB⟩ := hS
      refine rg_call (by rfl) _ _ (.agg (partA oAB uAB)) (by first | (go_simp; done) | (go_simp; rfl)) (P0.out _) ?_
      intro W' hb
      refine hK.out _ _ ⟨sg7.below hb.out, sg8.below hb.out, sg9.below hb.out, HB.step hb.out⟩ (fun hS => ?_)
      clear hK K hb sg7 sg8 sg9 HB
      try simp only [Act.put, List.setIfInBounds_toArray, List.set_cons_zero, List.set_cons_succ]
      refine wpAnyH_ready (rs := [4, 5]) (by kernel_rfl) (by simp) ?_
      refine AllReadyH.cons (o := { dst := some 23, op := Go.Op.call { callee := Go.Callee.value (Go.Operand.func 15), args := #[Go.Operand.tmp 21, Go.Operand.tmp 22], argTypes := #[25, 25] }, type := 25, pos := "outright.go:18", after := #[{ on := 2, ground := Go.Ground.data }, { on := 3, ground := Go.Ground.data }, { on := 2, ground := Go.Ground.chain }], guard := none }) rfl (fun K hK => ?_) ?_
      · obtain ⟨sg7, sg8, sg9, HB⟩ := hS
        refine rg_call (by rfl) _ _ (.agg (partA oABC uABC)) (by first | (go_simp; done) | (go_simp; rfl)) (P1.out _) ?_
        intro W' hb
        refine hK.out _ _ ⟨sg7.below hb.out, sg8.below hb.out, sg9.below hb.out, HB.step hb.out⟩ (fun hS => ?_)
        clear hK K hb sg7 sg8 sg9 HB
        try simp only [Act.put, List.setIfInBounds_toArray, List.set_cons_zero, List.set_cons_succ]
        refine wpAnyH_ready (rs := [5]) (by kernel_rfl) (by simp) ?_
        refine AllReadyH.cons (o := { dst := some 10, op := Go.Op.alloc 25, type := 0, pos := "outright.go:18", after := #[], guard := none }) rfl (fun K hK => ?_) ?_
        · obtain ⟨sg7, sg8, sg9, HB⟩ := hS
          refine rg_alloc HB (by rfl) (partA (fun _ => false) (fun _ => 0)) 25 (by rw [← partA_zero]; first | (go_simp; done) | (go_simp; rfl)) ?_
          intro gN W' hgN geN sN HBn hb
          have ng7 := Aside0.mk (show g7 ≠ gN by have := sg7.lt; have := hgN.out; omega)
          have ng8 := Aside0.mk (show g8 ≠ gN by have := sg8.lt; have := hgN.out; omega)
          have ng9 := Aside0.mk (show g9 ≠ gN by have := sg9.lt; have := hgN.out; omega)
          refine hK.out _ _ ⟨sg7.below hb.out, sg8.below hb.out, sg9.below hb.out, HBn⟩ (fun hS => ?_)
          clear hK K hb hgN HBn sg7 sg8 sg9 HB
          try simp only [Act.put, List.setIfInBounds_toArray, List.set_cons_zero, List.set_cons_succ]
          refine wpAnyH_ready (rs := [6]) (by kernel_rfl) (by simp) ?_
          refine AllReadyH.cons (o := { dst := none, op := Go.Op.store 25 (Go.Operand.tmp 10) (Go.Operand.tmp 23), type := 0, pos := "outright.go:18", after := #[{ on := 5, ground := Go.Ground.data }, { on := 4, ground := Go.Ground.data }, { on := 4, ground := Go.Ground.chain }, { on := 0, ground := Go.Ground.phase }, { on := 1, ground := Go.Ground.phase }, { on := 2, ground := Go.Ground.phase }, { on := 3, ground := Go.Ground.phase }, { on := 4, ground := Go.Ground.phase }, { on := 5, ground := Go.Ground.phase }], guard := none }) rfl (fun K hK => ?_) ?_
          · obtain ⟨sg7, sg8, sg9, HB⟩ := hS
            refine rg_store (cs := (partA oABC uABC)) HB (by rfl) sN geN 25 _ _ rfl rfl rfl (sizeP' _ _) rfl (partA_one _ _) ?_
            intro W' sM HBn hk
            refine hK.out _ _ ⟨sg7.other hk ng7.out, sg8.other hk ng8.out, sg9.other hk ng9.out, HBn⟩ (fun hS => ?_)
            clear hK K hk HBn sN sg7 sg8 sg9 HB
            try simp only [Act.put, List.setIfInBounds_toArray, List.set_cons_zero, List.set_cons_succ]
            refine wpAnyH_done (by kernel_rfl) ?_ _
            refine NoPanic.normal ?_
            go_step
            go_step
            go_meet
            case rel =>
              obtain ⟨sg7, sg8, sg9, HB⟩ := hS
              exact ⟨gN, rfl, sg7, sg8, sg9, sM, HB⟩
          exact AllReadyH.nil
        exact AllReadyH.nil
      refine AllReadyH.cons (o := { dst := some 10, op := Go.Op.alloc 25, type := 0, pos := "outright.go:18", after := #[], guard := none }) rfl (fun K hK => ?_) ?_
      · obtain ⟨sg7, sg8, sg9, HB⟩ := hS
        refine rg_alloc HB (by rfl) (partA (fun _ => false) (fun _ => 0)) 25 (by rw [← partA_zero]; first | (go_simp; done) | (go_simp; rfl)) ?_
        intro gN W' hgN geN sN HBn hb
        have ng7 := Aside0.mk (show g7 ≠ gN by have := sg7.lt; have := hgN.out; omega)
        have ng8 := Aside0.mk (show g8 ≠ gN by have := sg8.lt; have := hgN.out; omega)
        have ng9 := Aside0.mk (show g9 ≠ gN by have := sg9.lt; have := hgN.out; omega)
        refine hK.out _ _ ⟨sg7.below hb.out, sg8.below hb.out, sg9.below hb.out, HBn⟩ (fun hS => ?_)
        clear hK K hb hgN HBn sg7 sg8 sg9 HB
        try simp only [Act.put, List.setIfInBounds_toArray, List.set_cons_zero, List.set_cons_succ]
        refine wpAnyH_ready (rs := [4]) (by kernel_rfl) (by simp) ?_
        refine AllReadyH.cons (o := { dst := some 23, op := Go.Op.call { callee := Go.Callee.value (Go.Operand.func 15), args := #[Go.Operand.tmp 21, Go.Operand.tmp 22], argTypes := #[25, 25] }, type := 25, pos := "outright.go:18", after := #[{ on := 2, ground := Go.Ground.data }, { on := 3, ground := Go.Ground.data }, { on := 2, ground := Go.Ground.chain }], guard := none }) rfl (fun K hK => ?_) ?_
        · obtain ⟨sg7, sg8, sg9, HB⟩ := hS
          refine rg_call (by rfl) _ _ (.agg (partA oABC uABC)) (by first | (go_simp; done) | (go_simp; rfl)) (P1.out _) ?_
          intro W' hb
          refine hK.out _ _ ⟨sg7.below hb.out, sg8.below hb.out, sg9.below hb.out, HB.step hb.out⟩ (fun hS => ?_)
          have sN' := sN.below hb.out
          clear sN
          have sN := sN'
          clear sN'
          clear hK K hb sg7 sg8 sg9 HB
          try simp only [Act.put, List.setIfInBounds_toArray, List.set_cons_zero, List.set_cons_succ]
          refine wpAnyH_ready (rs := [6]) (by kernel_rfl) (by simp) ?_
          refine AllReadyH.cons (o := { dst := none, op := Go.Op.store 25 (Go.Operand.tmp 10) (Go.Operand.tmp 23), type := 0, pos := "outright.go:18", after := #[{ on := 5, ground := Go.Ground.data }, { on := 4, ground := Go.Ground.data }, { on := 4, ground := Go.Ground.chain }, { on := 0, ground := Go.Ground.phase }, { on := 1, ground := Go.Ground.phase }, { on := 2, ground := Go.Ground.phase }, { on := 3, ground := Go.Ground.phase }, { on := 4, ground := Go.Ground.phase }, { on := 5, ground := Go.Ground.phase }], guard := none }) rfl (fun K hK => ?_) ?_
          · obtain ⟨sg7, sg8, sg9, HB⟩ := hS
            refine rg_store (cs := (partA oABC uABC)) HB (by rfl) sN geN 25 _ _ rfl rfl rfl (sizeP' _ _) rfl (partA_one _ _) ?_
            intro W' sM HBn hk
            refine hK.out _ _ ⟨sg7.other hk ng7.out, sg8.other hk ng8.out, sg9.other hk ng9.out, HBn⟩ (fun hS => ?_)
            clear hK K hk HBn sN sg7 sg8 sg9 HB
            try simp only [Act.put, List.setIfInBounds_toArray, List.set_cons_zero, List.set_cons_succ]
            refine wpAnyH_done (by kernel_rfl) ?_ _
            refine NoPanic.normal ?_
            go_step
            go_step
            go_meet
            case rel =>
              obtain ⟨sg7, sg8, sg9, HB⟩ := hS
              exact ⟨gN, rfl, sg7, sg8, sg9, sM, HB⟩
          exact AllReadyH.nil
        exact AllReadyH.nil
      exact AllReadyH.nil
    refine AllReadyH.cons (o := { dst := some 10, op := Go.Op.alloc 25, type := 0, pos := "outright.go:18", after := #[], guard := none }) rfl (fun K hK => ?_) ?_
    · obtain ⟨sg7, sg8, sg9, HB⟩ := hS
      refine rg_alloc HB (by rfl) (partA (fun _ => false) (fun _ => 0)) 25 (by rw [← partA_zero]; first | (go_simp; done) | (go_simp; rfl)) ?_
      intro gN W' hgN geN sN HBn hb
      have ng7 := Aside0.mk (show g7 ≠ gN by have := sg7.lt; have := hgN.out; omega)
      have ng8 := Aside0.mk (show g8 ≠ gN by have := sg8.lt; have := hgN.out; omega)
      have ng9 := Aside0.mk (show g9 ≠ gN by have := sg9.lt; have := hgN.out; omega)
      refine hK.out _ _ ⟨sg7.below hb.out, sg8.below hb.out, sg9.below hb.out, HBn⟩ (fun hS => ?_)
      clear hK K hb hgN HBn sg7 sg8 sg9 HB
      try simp only [Act.put, List.setIfInBounds_toArray, List.set_cons_zero, List.set_cons_succ]
      refine wpAnyH_ready (rs := [2]) (by kernel_rfl) (by simp) ?_
      refine AllReadyH.cons (o := { dst := some 21, op := Go.Op.call { callee := Go.Callee.value (Go.Operand.func 15), args := #[Go.Operand.tmp 19, Go.Operand.tmp 20], argTypes := #[25, 25] }, type := 25, pos := "outright.go:18", after := #[{ on := 0, ground := Go.Ground.data }, { on := 1, ground := Go.Ground.data }], guard := none }) rfl (fun K hK => ?_) ?_
      · obtain ⟨sg7, sg8, sg9, HB⟩ := hS
        refine rg_call (by rfl) _ _ (.agg (partA oAB uAB)) (by first | (go_simp; done) | (go_simp; rfl)) (P0.out _) ?_
        intro W' hb
        refine hK.out _ _ ⟨sg7.below hb.out, sg8.below hb.out, sg9.below hb.out, HB.step hb.out⟩ (fun hS => ?_)
        have sN' := sN.below hb.out
        clear sN
        have sN := sN'
        clear sN'
        clear hK K hb sg7 sg8 sg9 HB
        try simp only [Act.put, List.setIfInBounds_toArray, List.set_cons_zero, List.set_cons_succ]
        refine wpAnyH_ready (rs := [4]) (by kernel_rfl) (by simp) ?_
        refine AllReadyH.cons (o := { dst := some 23, op := Go.Op.call { callee := Go.Callee.value (Go.Operand.func 15), args := #[Go.Operand.tmp 21, Go.Operand.tmp 22], argTypes := #[25, 25] }, type := 25, pos := "outright.go:18", after := #[{ on := 2, ground := Go.Ground.data }, { on := 3, ground := Go.Ground.data }, { on := 2, ground := Go.Ground.chain }], guard := none }) rfl (fun K hK => ?_) ?_
        · obtain ⟨sg7, sg8, sg9, HB⟩ := hS
          refine rg_call (by rfl) _ _ (.agg (partA oABC uABC)) (by first | (go_simp; done) | (go_simp; rfl)) (P1.out _) ?_
          intro W' hb
          refine hK.out _ _ ⟨sg7.below hb.out, sg8.below hb.out, sg9.below hb.out, HB.step hb.out⟩ (fun hS => ?_)
          have sN' := sN.below hb.out
          clear sN
          have sN := sN'
          clear sN'
          clear hK K hb sg7 sg8 sg9 HB
          try simp only [Act.put, List.setIfInBounds_toArray, List.set_cons_zero, List.set_cons_succ]
          refine wpAnyH_ready (rs := [6]) (by kernel_rfl) (by simp) ?_
          refine AllReadyH.cons (o := { dst := none, op := Go.Op.store 25 (Go.Operand.tmp 10) (Go.Operand.tmp 23), type := 0, pos := "outright.go:18", after := #[{ on := 5, ground := Go.Ground.data }, { on := 4, ground := Go.Ground.data }, { on := 4, ground := Go.Ground.chain }, { on := 0, ground := Go.Ground.phase }, { on := 1, ground := Go.Ground.phase }, { on := 2, ground := Go.Ground.phase }, { on := 3, ground := Go.Ground.phase }, { on := 4, ground := Go.Ground.phase }, { on := 5, ground := Go.Ground.phase }], guard := none }) rfl (fun K hK => ?_) ?_
          · obtain ⟨sg7, sg8, sg9, HB⟩ := hS
            refine rg_store (cs := (partA oABC uABC)) HB (by rfl) sN geN 25 _ _ rfl rfl rfl (sizeP' _ _) rfl (partA_one _ _) ?_
            intro W' sM HBn hk
            refine hK.out _ _ ⟨sg7.other hk ng7.out, sg8.other hk ng8.out, sg9.other hk ng9.out, HBn⟩ (fun hS => ?_)
            clear hK K hk HBn sN sg7 sg8 sg9 HB
            try simp only [Act.put, List.setIfInBounds_toArray, List.set_cons_zero, List.set_cons_succ]
            refine wpAnyH_done (by kernel_rfl) ?_ _
            refine NoPanic.normal ?_
            go_step
            go_step
            go_meet
            case rel =>
              obtain ⟨sg7, sg8, sg9, HB⟩ := hS
              exact ⟨gN, rfl, sg7, sg8, sg9, sM, HB⟩
          exact AllReadyH.nil
        exact AllReadyH.nil
      exact AllReadyH.nil
    exact AllReadyH.nil
  case rest =>
    obtain ⟨g10, rfl, sg7, sg8, sg9, sg10, HB⟩ := hcut
    go_upto_region 3 with (fail)
    try simp only [Act.put, List.setIfInBounds_toArray, List.set_cons_zero, List.set_cons_succ]
    go_cut [11] from 24 to 28 (fun v11 wx => ∃ g11 : Nat, v11 = .pointer (some ⟨g11, 0, none⟩) ∧ Blk wx g7 (partA oA uA) 25 ∧ Blk wx g8 (partA oB uB) 25 ∧ Blk wx g9 (partA oC uC) 25 ∧ Blk wx g10 (partA oABC uABC) 25 ∧ Blk wx g11 (partA oABC uABC) 25 ∧ BelowH w wx)
    case first =>
      refine wp_region_noPanic ?_
      refine wp_region_held_drew (S := fun W => Blk W g7 (partA oA uA) 25 ∧ Blk W g8 (partA oB uB) 25 ∧ Blk W g9 (partA oC uC) 25 ∧ Blk W g10 (partA oABC uABC) 25 ∧ BelowH w W) (by kernel_rfl) ⟨sg7.drew, sg8.drew, sg9.drew, sg10.drew, HB.drew⟩ (fun hS => ?_)
      clear sg7 sg8 sg9 sg10 HB
      refine wpAnyH_take (i := 0) (oi := { dst := some 24, op := Go.Op.load 25 (Go.Operand.tmp 7), type := 25, pos := "outright.go:19", after := #[], guard := none }) rfl (by kernel_rfl) (by kernel_rfl) (by kernel_rfl) (fun _ _ _ h => h) (rg_load (by rfl) (fun _ hS => hS.1) 25 _ rfl rfl Try.underlying25 rfl (sizeP' _ _)) hS ?_
      try simp only [Act.put, List.setIfInBounds_toArray, List.set_cons_zero, List.set_cons_succ]
      refine wpAnyH_take (i := 1) (oi := { dst := some 25, op := Go.Op.load 25 (Go.Operand.tmp 8), type := 25, pos := "outright.go:19", after := #[], guard := none }) rfl (by kernel_rfl) (by kernel_rfl) (by kernel_rfl) (fun _ _ _ h => h) (rg_load (by rfl) (fun _ hS => hS.2.1) 25 _ rfl rfl Try.underlying25 rfl (sizeP' _ _)) hS ?_
      try simp only [Act.put, List.setIfInBounds_toArray, List.set_cons_zero, List.set_cons_succ]
      refine wpAnyH_take (i := 2) (oi := { dst := some 26, op := Go.Op.load 25 (Go.Operand.tmp 9), type := 25, pos := "outright.go:19", after := #[], guard := none }) rfl (by kernel_rfl) (by kernel_rfl) (by kernel_rfl) (fun _ _ _ h => h) (rg_load (by rfl) (fun _ hS => hS.2.2.1) 25 _ rfl rfl Try.underlying25 rfl (sizeP' _ _)) hS ?_
      try simp only [Act.put, List.setIfInBounds_toArray, List.set_cons_zero, List.set_cons_succ]
      refine wpAnyH_ready (rs := [3, 5]) (by kernel_rfl) (by simp) ?_
      refine AllReadyH.cons (o := { dst := some 27, op := Go.Op.call { callee := Go.Callee.value (Go.Operand.func 15), args := #[Go.Operand.tmp 25, Go.Operand.tmp 26], argTypes := #[25, 25] }, type := 25, pos := "outright.go:19", after := #[{ on := 1, ground := Go.Ground.data }, { on := 2, ground := Go.Ground.data }], guard := none }) rfl (fun K hK => ?_) ?_
      · obtain ⟨sg7, sg8, sg9, sg10, HB⟩ := hS
        refine rg_call (by rfl) _ _ (.agg (partA oBC uBC)) (by first | (go_simp; done) | (go_simp; rfl)) (P2.out _) ?_
        intro W' hb
        refine hK.out _ _ ⟨sg7.below hb.out, sg8.below hb.out, sg9.below hb.out, sg10.below hb.out, HB.step hb.out⟩ (fun hS => ?_)
        clear hK K hb sg7 sg8 sg9 sg10 HB
        try simp only [Act.put, List.setIfInBounds_toArray, List.set_cons_zero, List.set_cons_succ]
        refine wpAnyH_ready (rs := [4, 5]) (by kernel_rfl) (by simp) ?_
        refine AllReadyH.cons (o := { dst := some 28, op := Go.Op.call { callee := Go.Callee.value (Go.Operand.func 15), args := #[Go.Operand.tmp 24, Go.Operand.tmp 27], argTypes := #[25, 25] }, type := 25, pos := "outright.go:19", after := #[{ on := 0, ground := Go.Ground.data }, { on := 3, ground := Go.Ground.data }, { on := 3, ground := Go.Ground.chain }], guard := none }) rfl (fun K hK => ?_) ?_
        · obtain ⟨sg7, sg8, sg9, sg10, HB⟩ := hS
          refine rg_call (by rfl) _ _ (.agg (partA oABC uABC)) (by first | (go_simp; done) | (go_simp; rfl)) (P3.out _) ?_
          intro W' hb
          refine hK.out _ _ ⟨sg7.below hb.out, sg8.below hb.out, sg9.below hb.out, sg10.below hb.out, HB.step hb.out⟩ (fun hS => ?_)
          clear hK K hb sg7 sg8 sg9 sg10 HB
          try simp only [Act.put, List.setIfInBounds_toArray, List.set_cons_zero, List.set_cons_succ]
          refine wpAnyH_ready (rs := [5]) (by kernel_rfl) (by simp) ?_
          refine AllReadyH.cons (o := { dst := some 11, op := Go.Op.alloc 25, type := 0, pos := "outright.go:19", after := #[], guard := none }) rfl (fun K hK => ?_) ?_
          · obtain ⟨sg7, sg8, sg9, sg10, HB⟩ := hS
            refine rg_alloc HB (by rfl) (partA (fun _ => false) (fun _ => 0)) 25 (by rw [← partA_zero]; first | (go_simp; done) | (go_simp; rfl)) ?_
            intro gN W' hgN geN sN HBn hb
            have ng7 := Aside0.mk (show g7 ≠ gN by have := sg7.lt; have := hgN.out; omega)
            have ng8 := Aside0.mk (show g8 ≠ gN by have := sg8.lt; have := hgN.out; omega)
            have ng9 := Aside0.mk (show g9 ≠ gN by have := sg9.lt; have := hgN.out; omega)
            have ng10 := Aside0.mk (show g10 ≠ gN by have := sg10.lt; have := hgN.out; omega)
            refine hK.out _ _ ⟨sg7.below hb.out, sg8.below hb.out, sg9.below hb.out, sg10.below hb.out, HBn⟩ (fun hS => ?_)
            clear hK K hb hgN HBn sg7 sg8 sg9 sg10 HB
            try simp only [Act.put, List.setIfInBounds_toArray, List.set_cons_zero, List.set_cons_succ]
            refine wpAnyH_ready (rs := [6]) (by kernel_rfl) (by simp) ?_
            refine AllReadyH.cons (o := { dst := none, op := Go.Op.store 25 (Go.Operand.tmp 11) (Go.Operand.tmp 28), type := 0, pos := "outright.go:19", after := #[{ on := 5, ground := Go.Ground.data }, { on := 4, ground := Go.Ground.data }, { on := 4, ground := Go.Ground.chain }, { on := 0, ground := Go.Ground.phase }, { on := 1, ground := Go.Ground.phase }, { on := 2, ground := Go.Ground.phase }, { on := 3, ground := Go.Ground.phase }, { on := 4, ground := Go.Ground.phase }, { on := 5, ground := Go.Ground.phase }], guard := none }) rfl (fun K hK => ?_) ?_
            · obtain ⟨sg7, sg8, sg9, sg10, HB⟩ := hS
              refine rg_store (cs := (partA oABC uABC)) HB (by rfl) sN geN 25 _ _ rfl rfl rfl (sizeP' _ _) rfl (partA_one _ _) ?_
              intro W' sM HBn hk
              refine hK.out _ _ ⟨sg7.other hk ng7.out, sg8.other hk ng8.out, sg9.other hk ng9.out, sg10.other hk ng10.out, HBn⟩ (fun hS => ?_)
              clear hK K hk HBn sN sg7 sg8 sg9 sg10 HB
              try simp only [Act.put, List.setIfInBounds_toArray, List.set_cons_zero, List.set_cons_succ]
              refine wpAnyH_done (by kernel_rfl) ?_ _
              refine NoPanic.normal ?_
              go_step
              go_step
              go_meet
              case rel =>
                obtain ⟨sg7, sg8, sg9, sg10, HB⟩ := hS
                exact ⟨gN, rfl, sg7, sg8, sg9, sg10, sM, HB⟩
            exact AllReadyH.nil
          exact AllReadyH.nil
        refine AllReadyH.cons (o := { dst := some 11, op := Go.Op.alloc 25, type := 0, pos := "outright.go:19", after := #[], guard := none }) rfl (fun K hK => ?_) ?_
        · obtain ⟨sg7, sg8, sg9, sg10, HB⟩ := hS
          refine rg_alloc HB (by rfl) (partA (fun _ => false) (fun _ => 0)) 25 (by rw [← partA_zero]; first | (go_simp; done) | (go_simp; rfl)) ?_
          intro gN W' hgN geN sN HBn hb
          have ng7 := Aside0.mk (show g7 ≠ gN by have := sg7.lt; have := hgN.out; omega)
          have ng8 := Aside0.mk (show g8 ≠ gN by have := sg8.lt; have := hgN.out; omega)
          have ng9 := Aside0.mk (show g9 ≠ gN by have := sg9.lt; have := hgN.out; omega)
          have ng10 := Aside0.mk (show g10 ≠ gN by have := sg10.lt; have := hgN.out; omega)
          refine hK.out _ _ ⟨sg7.below hb.out, sg8.below hb.out, sg9.below hb.out, sg10.below hb.out, HBn⟩ (fun hS => ?_)
          clear hK K hb hgN HBn sg7 sg8 sg9 sg10 HB
          try simp only [Act.put, List.setIfInBounds_toArray, List.set_cons_zero, List.set_cons_succ]
          refine wpAnyH_ready (rs := [4]) (by kernel_rfl) (by simp) ?_
          refine AllReadyH.cons (o := { dst := some 28, op := Go.Op.call { callee := Go.Callee.value (Go.Operand.func 15), args := #[Go.Operand.tmp 24, Go.Operand.tmp 27], argTypes := #[25, 25] }, type := 25, pos := "outright.go:19", after := #[{ on := 0, ground := Go.Ground.data }, { on := 3, ground := Go.Ground.data }, { on := 3, ground := Go.Ground.chain }], guard := none }) rfl (fun K hK => ?_) ?_
          · obtain ⟨sg7, sg8, sg9, sg10, HB⟩ := hS
            refine rg_call (by rfl) _ _ (.agg (partA oABC uABC)) (by first | (go_simp; done) | (go_simp; rfl)) (P3.out _) ?_
            intro W' hb
            refine hK.out _ _ ⟨sg7.below hb.out, sg8.below hb.out, sg9.below hb.out, sg10.below hb.out, HB.step hb.out⟩ (fun hS => ?_)
            have sN' := sN.below hb.out
            clear sN
            have sN := sN'
            clear sN'
            clear hK K hb sg7 sg8 sg9 sg10 HB
            try simp only [Act.put, List.setIfInBounds_toArray, List.set_cons_zero, List.set_cons_succ]
            refine wpAnyH_ready (rs := [6]) (by kernel_rfl) (by simp) ?_
            refine AllReadyH.cons (o := { dst := none, op := Go.Op.store 25 (Go.Operand.tmp 11) (Go.Operand.tmp 28), type := 0, pos := "outright.go:19", after := #[{ on := 5, ground := Go.Ground.data }, { on := 4, ground := Go.Ground.data }, { on := 4, ground := Go.Ground.chain }, { on := 0, ground := Go.Ground.phase }, { on := 1, ground := Go.Ground.phase }, { on := 2, ground := Go.Ground.phase }, { on := 3, ground := Go.Ground.phase }, { on := 4, ground := Go.Ground.phase }, { on := 5, ground := Go.Ground.phase }], guard := none }) rfl (fun K hK => ?_) ?_
            · obtain ⟨sg7, sg8, sg9, sg10, HB⟩ := hS
              refine rg_store (cs := (partA oABC uABC)) HB (by rfl) sN geN 25 _ _ rfl rfl rfl (sizeP' _ _) rfl (partA_one _ _) ?_
              intro W' sM HBn hk
              refine hK.out _ _ ⟨sg7.other hk ng7.out, sg8.other hk ng8.out, sg9.other hk ng9.out, sg10.other hk ng10.out, HBn⟩ (fun hS => ?_)
              clear hK K hk HBn sN sg7 sg8 sg9 sg10 HB
              try simp only [Act.put, List.setIfInBounds_toArray, List.set_cons_zero, List.set_cons_succ]
              refine wpAnyH_done (by kernel_rfl) ?_ _
              refine NoPanic.normal ?_
              go_step
              go_step
              go_meet
              case rel =>
                obtain ⟨sg7, sg8, sg9, sg10, HB⟩ := hS
                exact ⟨gN, rfl, sg7, sg8, sg9, sg10, sM, HB⟩
            exact AllReadyH.nil
          exact AllReadyH.nil
        exact AllReadyH.nil
      refine AllReadyH.cons (o := { dst := some 11, op := Go.Op.alloc 25, type := 0, pos := "outright.go:19", after := #[], guard := none }) rfl (fun K hK => ?_) ?_
      · obtain ⟨sg7, sg8, sg9, sg10, HB⟩ := hS
        refine rg_alloc HB (by rfl) (partA (fun _ => false) (fun _ => 0)) 25 (by rw [← partA_zero]; first | (go_simp; done) | (go_simp; rfl)) ?_
        intro gN W' hgN geN sN HBn hb
        have ng7 := Aside0.mk (show g7 ≠ gN by have := sg7.lt; have := hgN.out; omega)
        have ng8 := Aside0.mk (show g8 ≠ gN by have := sg8.lt; have := hgN.out; omega)
        have ng9 := Aside0.mk (show g9 ≠ gN by have := sg9.lt; have := hgN.out; omega)
        have ng10 := Aside0.mk (show g10 ≠ gN by have := sg10.lt; have := hgN.out; omega)
        refine hK.out _ _ ⟨sg7.below hb.out, sg8.below hb.out, sg9.below hb.out, sg10.below hb.out, HBn⟩ (fun hS => ?_)
        clear hK K hb hgN HBn sg7 sg8 sg9 sg10 HB
        try simp only [Act.put, List.setIfInBounds_toArray, List.set_cons_zero, List.set_cons_succ]
        refine wpAnyH_ready (rs := [3]) (by kernel_rfl) (by simp) ?_
        refine AllReadyH.cons (o := { dst := some 27, op := Go.Op.call { callee := Go.Callee.value (Go.Operand.func 15), args := #[Go.Operand.tmp 25, Go.Operand.tmp 26], argTypes := #[25, 25] }, type := 25, pos := "outright.go:19", after := #[{ on := 1, ground := Go.Ground.data }, { on := 2, ground := Go.Ground.data }], guard := none }) rfl (fun K hK => ?_) ?_
        · obtain ⟨sg7, sg8, sg9, sg10, HB⟩ := hS
          refine rg_call (by rfl) _ _ (.agg (partA oBC uBC)) (by first | (go_simp; done) | (go_simp; rfl)) (P2.out _) ?_
          intro W' hb
          refine hK.out _ _ ⟨sg7.below hb.out, sg8.below hb.out, sg9.below hb.out, sg10.below hb.out, HB.step hb.out⟩ (fun hS => ?_)
          have sN' := sN.below hb.out
          clear sN
          have sN := sN'
          clear sN'
          clear hK K hb sg7 sg8 sg9 sg10 HB
          try simp only [Act.put, List.setIfInBounds_toArray, List.set_cons_zero, List.set_cons_succ]
          refine wpAnyH_ready (rs := [4]) (by kernel_rfl) (by simp) ?_
          refine AllReadyH.cons (o := { dst := some 28, op := Go.Op.call { callee := Go.Callee.value (Go.Operand.func 15), args := #[Go.Operand.tmp 24, Go.Operand.tmp 27], argTypes := #[25, 25] }, type := 25, pos := "outright.go:19", after := #[{ on := 0, ground := Go.Ground.data }, { on := 3, ground := Go.Ground.data }, { on := 3, ground := Go.Ground.chain }], guard := none }) rfl (fun K hK => ?_) ?_
          · obtain ⟨sg7, sg8, sg9, sg10, HB⟩ := hS
            refine rg_call (by rfl) _ _ (.agg (partA oABC uABC)) (by first | (go_simp; done) | (go_simp; rfl)) (P3.out _) ?_
            intro W' hb
            refine hK.out _ _ ⟨sg7.below hb.out, sg8.below hb.out, sg9.below hb.out, sg10.below hb.out, HB.step hb.out⟩ (fun hS => ?_)
            have sN' := sN.below hb.out
            clear sN
            have sN := sN'
            clear sN'
            clear hK K hb sg7 sg8 sg9 sg10 HB
            try simp only [Act.put, List.setIfInBounds_toArray, List.set_cons_zero, List.set_cons_succ]
            refine wpAnyH_ready (rs := [6]) (by kernel_rfl) (by simp) ?_
            refine AllReadyH.cons (o := { dst := none, op := Go.Op.store 25 (Go.Operand.tmp 11) (Go.Operand.tmp 28), type := 0, pos := "outright.go:19", after := #[{ on := 5, ground := Go.Ground.data }, { on := 4, ground := Go.Ground.data }, { on := 4, ground := Go.Ground.chain }, { on := 0, ground := Go.Ground.phase }, { on := 1, ground := Go.Ground.phase }, { on := 2, ground := Go.Ground.phase }, { on := 3, ground := Go.Ground.phase }, { on := 4, ground := Go.Ground.phase }, { on := 5, ground := Go.Ground.phase }], guard := none }) rfl (fun K hK => ?_) ?_
            · obtain ⟨sg7, sg8, sg9, sg10, HB⟩ := hS
              refine rg_store (cs := (partA oABC uABC)) HB (by rfl) sN geN 25 _ _ rfl rfl rfl (sizeP' _ _) rfl (partA_one _ _) ?_
              intro W' sM HBn hk
              refine hK.out _ _ ⟨sg7.other hk ng7.out, sg8.other hk ng8.out, sg9.other hk ng9.out, sg10.other hk ng10.out, HBn⟩ (fun hS => ?_)
              clear hK K hk HBn sN sg7 sg8 sg9 sg10 HB
              try simp only [Act.put, List.setIfInBounds_toArray, List.set_cons_zero, List.set_cons_succ]
              refine wpAnyH_done (by kernel_rfl) ?_ _
              refine NoPanic.normal ?_
              go_step
              go_step
              go_meet
              case rel =>
                obtain ⟨sg7, sg8, sg9, sg10, HB⟩ := hS
                exact ⟨gN, rfl, sg7, sg8, sg9, sg10, sM, HB⟩
            exact AllReadyH.nil
          exact AllReadyH.nil
        exact AllReadyH.nil
      exact AllReadyH.nil
    case rest =>
      obtain ⟨g11, rfl, sg7, sg8, sg9, sg10, sg11, HB⟩ := hcut
      go_upto_region 5 with (first
        | (go_at_call 10; (with_reducible refine (F3.out _).mono ?_); rintro e w15 ⟨rfl, hb15⟩; have t7 := sg7.below hb15; have t10 := sg10.below hb15; have t11 := sg11.below hb15; have HB15 := HB.step hb15; clear sg7 sg8 sg9 sg10 sg11 HB hb15)
        | ((with_reducible refine gate_dst (N := 12) rfl ?_); refine ev_alloc HB15 rfl (partA (fun _ => false) (fun _ => 0)) 25 (by rw [← partA_zero]; first | (go_simp; done) | (go_simp; rfl)) ?_; intro g12 w16 G_g12 GE_g12 B_g12 HB16 K_g12)
        | ((with_reducible refine gate_ (Op.store 25 (.tmp 12) (.tmp 29)) rfl ?_); refine ev_store HB16 B_g12 GE_g12 rfl 25 _ _ rfl rfl rfl (sizeP4 _ _ _ _) rfl (by simp [Value.oneCell']) ?_; intro w17 B12 HB17 K17))
      have N7 := Aside0.mk (show g7 ≠ g12 by have := t7.lt; have := G_g12.out; omega)
      have N10 := Aside0.mk (show g10 ≠ g12 by have := t10.lt; have := G_g12.out; omega)
      have N11 := Aside0.mk (show g11 ≠ g12 by have := t11.lt; have := G_g12.out; omega)
      have E7 := (t7.below K_g12.out).other K17 N7.out
      have E10 := (t10.below K_g12.out).other K17 N10.out
      have E11 := (t11.below K_g12.out).other K17 N11.out
      have SS : w17.cell? ⟨g7, 0, none⟩ = some (.bool (oA 0)) ∧ w17.cell? ⟨g7, 1, none⟩ = some (.bool (oA 1)) ∧ w17.cell? ⟨g7, 2, none⟩ = some (.int .i64 (uA 0)) ∧ w17.cell? ⟨g7, 3, none⟩ = some (.int .i64 (uA 1)) ∧ w17.cell? ⟨g10, 0, none⟩ = some (.bool (oABC 0)) ∧ w17.cell? ⟨g10, 1, none⟩ = some (.bool (oABC 1)) ∧ w17.cell? ⟨g10, 2, none⟩ = some (.int .i64 (uABC 0)) ∧ w17.cell? ⟨g10, 3, none⟩ = some (.int .i64 (uABC 1)) ∧ w17.cell? ⟨g11, 0, none⟩ = some (.bool (oABC 0)) ∧ w17.cell? ⟨g11, 1, none⟩ = some (.bool (oABC 1)) ∧ w17.cell? ⟨g11, 2, none⟩ = some (.int .i64 (uABC 0)) ∧ w17.cell? ⟨g11, 3, none⟩ = some (.int .i64 (uABC 1)) ∧ w17.cell? ⟨g12, 0, none⟩ = some (.bool (oE 0)) ∧ w17.cell? ⟨g12, 1, none⟩ = some (.bool (oE 1)) ∧ w17.cell? ⟨g12, 2, none⟩ = some (.int .i64 (uE 0)) ∧ w17.cell? ⟨g12, 3, none⟩ = some (.int .i64 (uE 1)) ∧ BelowH w w17 := ⟨E7.cell (i := 0) rfl, E7.cell (i := 1) rfl, E7.cell (i := 2) rfl, E7.cell (i := 3) rfl, E10.cell (i := 0) rfl, E10.cell (i := 1) rfl, E10.cell (i := 2) rfl, E10.cell (i := 3) rfl, E11.cell (i := 0) rfl, E11.cell (i := 1) rfl, E11.cell (i := 2) rfl, E11.cell (i := 3) rfl, B12.cell (i := 0) rfl, B12.cell (i := 1) rfl, B12.cell (i := 2) rfl, B12.cell (i := 3) rfl, HB17⟩
      clear E7 E10 E11 t7 t10 t11 B12 B_g12 K17 K_g12 HB15 HB16 HB17 G_g12 GE_g12 N7 N10 N11
      have SB4 : Aside0 (∀ W W', (W.cell? ⟨g7, 0, none⟩ = some (.bool (oA 0)) ∧ W.cell? ⟨g7, 1, none⟩ = some (.bool (oA 1)) ∧ W.cell? ⟨g7, 2, none⟩ = some (.int .i64 (uA 0)) ∧ W.cell? ⟨g7, 3, none⟩ = some (.int .i64 (uA 1)) ∧ W.cell? ⟨g10, 0, none⟩ = some (.bool (oABC 0)) ∧ W.cell? ⟨g10, 1, none⟩ = some (.bool (oABC 1)) ∧ W.cell? ⟨g10, 2, none⟩ = some (.int .i64 (uABC 0)) ∧ W.cell? ⟨g10, 3, none⟩ = some (.int .i64 (uABC 1)) ∧ W.cell? ⟨g11, 0, none⟩ = some (.bool (oABC 0)) ∧ W.cell? ⟨g11, 1, none⟩ = some (.bool (oABC 1)) ∧ W.cell? ⟨g11, 2, none⟩ = some (.int .i64 (uABC 0)) ∧ W.cell? ⟨g11, 3, none⟩ = some (.int .i64 (uABC 1)) ∧ W.cell? ⟨g12, 0, none⟩ = some (.bool (oE 0)) ∧ W.cell? ⟨g12, 1, none⟩ = some (.bool (oE 1)) ∧ W.cell? ⟨g12, 2, none⟩ = some (.int .i64 (uE 0)) ∧ W.cell? ⟨g12, 3, none⟩ = some (.int .i64 (uE 1)) ∧ BelowH w W) → Below W.heap.size W W' → (W'.cell? ⟨g7, 0, none⟩ = some (.bool (oA 0)) ∧ W'.cell? ⟨g7, 1, none⟩ = some (.bool (oA 1)) ∧ W'.cell? ⟨g7, 2, none⟩ = some (.int .i64 (uA 0)) ∧ W'.cell? ⟨g7, 3, none⟩ = some (.int .i64 (uA 1)) ∧ W'.cell? ⟨g10, 0, none⟩ = some (.bool (oABC 0)) ∧ W'.cell? ⟨g10, 1, none⟩ = some (.bool (oABC 1)) ∧ W'.cell? ⟨g10, 2, none⟩ = some (.int .i64 (uABC 0)) ∧ W'.cell? ⟨g10, 3, none⟩ = some (.int .i64 (uABC 1)) ∧ W'.cell? ⟨g11, 0, none⟩ = some (.bool (oABC 0)) ∧ W'.cell? ⟨g11, 1, none⟩ = some (.bool (oABC 1)) ∧ W'.cell? ⟨g11, 2, none⟩ = some (.int .i64 (uABC 0)) ∧ W'.cell? ⟨g11, 3, none⟩ = some (.int .i64 (uABC 1)) ∧ W'.cell? ⟨g12, 0, none⟩ = some (.bool (oE 0)) ∧ W'.cell? ⟨g12, 1, none⟩ = some (.bool (oE 1)) ∧ W'.cell? ⟨g12, 2, none⟩ = some (.int .i64 (uE 0)) ∧ W'.cell? ⟨g12, 3, none⟩ = some (.int .i64 (uE 1)) ∧ BelowH w W')) := ⟨fun W W' ⟨sg7_0, sg7_1, sg7_2, sg7_3, sg10_0, sg10_1, sg10_2, sg10_3, sg11_0, sg11_1, sg11_2, sg11_3, sg12_0, sg12_1, sg12_2, sg12_3, HB⟩ hb => ⟨pw_cell_below hb sg7_0, pw_cell_below hb sg7_1, pw_cell_below hb sg7_2, pw_cell_below hb sg7_3, pw_cell_below hb sg10_0, pw_cell_below hb sg10_1, pw_cell_below hb sg10_2, pw_cell_below hb sg10_3, pw_cell_below hb sg11_0, pw_cell_below hb sg11_1, pw_cell_below hb sg11_2, pw_cell_below hb sg11_3, pw_cell_below hb sg12_0, pw_cell_below hb sg12_1, pw_cell_below hb sg12_2, pw_cell_below hb sg12_3, HB.step hb⟩⟩
      have LB : Aside0 (∀ W, (W.cell? ⟨g7, 0, none⟩ = some (.bool (oA 0)) ∧ W.cell? ⟨g7, 1, none⟩ = some (.bool (oA 1)) ∧ W.cell? ⟨g7, 2, none⟩ = some (.int .i64 (uA 0)) ∧ W.cell? ⟨g7, 3, none⟩ = some (.int .i64 (uA 1)) ∧ W.cell? ⟨g10, 0, none⟩ = some (.bool (oABC 0)) ∧ W.cell? ⟨g10, 1, none⟩ = some (.bool (oABC 1)) ∧ W.cell? ⟨g10, 2, none⟩ = some (.int .i64 (uABC 0)) ∧ W.cell? ⟨g10, 3, none⟩ = some (.int .i64 (uABC 1)) ∧ W.cell? ⟨g11, 0, none⟩ = some (.bool (oABC 0)) ∧ W.cell? ⟨g11, 1, none⟩ = some (.bool (oABC 1)) ∧ W.cell? ⟨g11, 2, none⟩ = some (.int .i64 (uABC 0)) ∧ W.cell? ⟨g11, 3, none⟩ = some (.int .i64 (uABC 1)) ∧ W.cell? ⟨g12, 0, none⟩ = some (.bool (oE 0)) ∧ W.cell? ⟨g12, 1, none⟩ = some (.bool (oE 1)) ∧ W.cell? ⟨g12, 2, none⟩ = some (.int .i64 (uE 0)) ∧ W.cell? ⟨g12, 3, none⟩ = some (.int .i64 (uE 1)) ∧ BelowH w W) → BelowH w W) := ⟨fun W ⟨sg7_0, sg7_1, sg7_2, sg7_3, sg10_0, sg10_1, sg10_2, sg10_3, sg11_0, sg11_1, sg11_2, sg11_3, sg12_0, sg12_1, sg12_2, sg12_3, HB⟩ => HB⟩
      have SD : Aside0 (w17.drew.cell? ⟨g7, 0, none⟩ = some (.bool (oA 0)) ∧ w17.drew.cell? ⟨g7, 1, none⟩ = some (.bool (oA 1)) ∧ w17.drew.cell? ⟨g7, 2, none⟩ = some (.int .i64 (uA 0)) ∧ w17.drew.cell? ⟨g7, 3, none⟩ = some (.int .i64 (uA 1)) ∧ w17.drew.cell? ⟨g10, 0, none⟩ = some (.bool (oABC 0)) ∧ w17.drew.cell? ⟨g10, 1, none⟩ = some (.bool (oABC 1)) ∧ w17.drew.cell? ⟨g10, 2, none⟩ = some (.int .i64 (uABC 0)) ∧ w17.drew.cell? ⟨g10, 3, none⟩ = some (.int .i64 (uABC 1)) ∧ w17.drew.cell? ⟨g11, 0, none⟩ = some (.bool (oABC 0)) ∧ w17.drew.cell? ⟨g11, 1, none⟩ = some (.bool (oABC 1)) ∧ w17.drew.cell? ⟨g11, 2, none⟩ = some (.int .i64 (uABC 0)) ∧ w17.drew.cell? ⟨g11, 3, none⟩ = some (.int .i64 (uABC 1)) ∧ w17.drew.cell? ⟨g12, 0, none⟩ = some (.bool (oE 0)) ∧ w17.drew.cell? ⟨g12, 1, none⟩ = some (.bool (oE 1)) ∧ w17.drew.cell? ⟨g12, 2, none⟩ = some (.int .i64 (uE 0)) ∧ w17.drew.cell? ⟨g12, 3, none⟩ = some (.int .i64 (uE 1)) ∧ BelowH w w17.drew) := ⟨SB4.out _ _ SS (below_drew (Below.refl _ _))⟩
      clear SS
      go_region_held3 (fun W => W.cell? ⟨g7, 0, none⟩ = some (.bool (oA 0)) ∧ W.cell? ⟨g7, 1, none⟩ = some (.bool (oA 1)) ∧ W.cell? ⟨g7, 2, none⟩ = some (.int .i64 (uA 0)) ∧ W.cell? ⟨g7, 3, none⟩ = some (.int .i64 (uA 1)) ∧ W.cell? ⟨g10, 0, none⟩ = some (.bool (oABC 0)) ∧ W.cell? ⟨g10, 1, none⟩ = some (.bool (oABC 1)) ∧ W.cell? ⟨g10, 2, none⟩ = some (.int .i64 (uABC 0)) ∧ W.cell? ⟨g10, 3, none⟩ = some (.int .i64 (uABC 1)) ∧ W.cell? ⟨g11, 0, none⟩ = some (.bool (oABC 0)) ∧ W.cell? ⟨g11, 1, none⟩ = some (.bool (oABC 1)) ∧ W.cell? ⟨g11, 2, none⟩ = some (.int .i64 (uABC 0)) ∧ W.cell? ⟨g11, 3, none⟩ = some (.int .i64 (uABC 1)) ∧ W.cell? ⟨g12, 0, none⟩ = some (.bool (oE 0)) ∧ W.cell? ⟨g12, 1, none⟩ = some (.bool (oE 1)) ∧ W.cell? ⟨g12, 2, none⟩ = some (.int .i64 (uE 0)) ∧ W.cell? ⟨g12, 3, none⟩ = some (.int .i64 (uE 1)) ∧ BelowH w W) (first | exact SD.out | exact SB4.out _ _ (by assumption) (by assumption) | fail) (first | (go_at_call 15; (first | (with_reducible refine (J4.out _).mono ?_) | (with_reducible refine (J5.out _).mono ?_)); rintro e w18 ⟨rfl, hb18⟩) | (go_at_call 10; (with_reducible refine (F4.out _).mono ?_); rintro e w18 ⟨rfl, hb18⟩) | (go_at_call 12; (with_reducible refine (FO.out _).mono ?_); rintro e w18 ⟨rfl, hb18⟩) | (go_at_call 14; (with_reducible refine (quarrylaw09_awake.calls _).mono ?_); rintro e w18 ⟨rfl, hb18⟩))
      go_wp2
      go_ret
      exact ⟨rfl, (LB.out _ (by assumption)).out⟩
end


end Go.Proofs.Ytifpahkgielocaa.PG
