-- Written by a program (myprint.py, over the kit's print) for this claim. Not trusted: Lean checks it.
import Derived.Test.YtadcgjmhhodnoaaDoorPIx0
import Derived.Test.YtadcgjmhhodnoaaDoorPIx4
namespace Go.Proofs.YtadcgjmhhodnoaaDoor.PI
open Go.RowKit Go.Proofs.YtadcgjmhhodnoaaDoorW.PrintWords Go.Proofs.YtadcgjmhhodnoaaDoorW.PrintLast Go.Proofs.YtadcgjmhhodnoaaDoorW.PrintMore
attribute [local go_sem] max2_int min2_int max_two min_two max_three min_three max_four min_four   -- for this text's walks alone
set_option linter.unusedVariables false
set_option linter.unusedSimpArgs false

/-! ### bits_TrailingZeros64: function 80 -/
section
open Go.Proofs Go.Proofs.YtadcgjmhhodnoaaDoorQ
set_option maxHeartbeats 1000000 in
theorem bits_TrailingZeros64.core (x k idx : Nat) (w : World) (hx0 : ((x : Int) == 0) = false)
    (key : IntKind.u64.wrap (Go.bits BinOp.and IntKind.u64 (x : Int) (IntKind.u64.wrap (-(x : Int))) * 285870213051353865) / 288230376151711744 = (idx : Int))
    (hi : idx < 64) (hk : k < 64) (hcell : w.cell? ⟨0, idx, none⟩ = some (.int .u8 k)) :
    Calls Tryd.prog 80 #[.int .u64 x] w fun e w' => e = .returned (.int .i64 k) ∧ w' = w := by
  go_enter Tryd.func80, Tryd.ntmps80
  go_wp2_with (simp only [key])
  go_ret
  exact ⟨rfl, rfl⟩
/-- The place of the lowest set bit; the table stands in block 0. -/
theorem bits_TrailingZeros64.calls (x : Nat) (hx : x < 18446744073709551616) (hx0 : x ≠ 0) (w : World) (hT : TabAt 0 Lib.deBruijn64tab w) :
    Calls Tryd.prog 80 #[.int .u64 x] w fun e w' => e = .returned (.int .i64 (Lib.ctz 64 x)) ∧ w' = w := by
  obtain ⟨hlow, hk⟩ := Lib.lowest_bit 64 x hx0 hx
  obtain ⟨hi, htab⟩ := Lib.deBruijn64_at _ hk
  have hcell := hT _ hi
  rw [htab] at hcell
  exact bits_TrailingZeros64.core x _ _ w (by simp; omega) (tz64_key x _ hx hx0 hlow) hi hk hcell
end


/-! ### words_Each_1: function 79 -/
section
open Go.Proofs.YtadcgjmhhodnoaaDoorQ Go.Proofs.YtadcgjmhhodnoaaDoorM Go.Shelf
attribute [local go_sem] Oper.semAt_some
theorem tz_up (q : Nat → Bool) (i k : Nat) (h : upW q i ≠ 0#64) (hk : k = Lib.ctz 64 (upW q i).toNat) (w : World) (hT : TabOk w) :
    Calls Tryd.prog 80 #[.int .u64 (iv (upW q i))] w fun e w' => e = .returned (.int .i64 (k : Int)) ∧ w = w' := by
  have h0 : (upW q i).toNat ≠ 0 := fun e => h (BitVec.eq_of_toNat_eq (by rw [e]; rfl))
  subst hk
  exact (bits_TrailingZeros64.calls (upW q i).toNat (upW q i).isLt h0 w hT.out).mono fun e w' hw => ⟨hw.1, hw.2.symm⟩
set_option maxHeartbeats 4000000 in
set_option maxRecDepth 100000 in
theorem words_Each_1.walk (F : Fence) (HF : Aside0 (F = Fence.wide)) (n : Nat) (hn : 3 ≤ n) (l g1 : Nat) (q : Nat → Bool) (J Jx : List (SetP 64 q) → World → Prop) (W0 : World)
    (hY : ∀ pre (x : SetP 64 q) W, J pre W → pre ++ [x] <+: setP 64 q 64 → YieldAt F (n - 1) Tryd.prog l #[.int .i64 (x.val : Int)] W fun e W' =>
      (e = .returned (.bool true) ∧ J (pre ++ [x]) W' ∧ Keep2 0 0 W W') ∨ (e = .returned (.bool false) ∧ Jx (pre ++ [x]) W'))
    (B1 : Blk W0 g1 #[.int .u64 (iv (word q))] 64) (hT : TabOk W0) (h0 : J [] W0) :
    CallsIn F n Tryd.prog 79 #[.func (.yield l) #[] #[], .pointer (some ⟨g1, 0, none⟩)] W0 fun e W' => (∃ v, e = .returned v) ∧
      ((∃ ys, ys = setP 64 q 64 ∧ J ys W') ∨ (∃ pre, pre <+: setP 64 q 64 ∧ Jx pre W')) := by
  have HY := Aside0.mk hY
  have HJ0 := Aside0.mk h0
  have HT := Aside0.mk hT
  clear hY h0 hT
  have f0 := wide_fn HF 80
  have n1 : 1 ≤ n := by omega
  have n2 : 1 ≤ n - 1 := by omega
  have hro := wide_round HF
  have c1 := B1.cell (i := 0) rfl
  refine callsIn_of_wp Tryd.func79 rfl (wide_fn HF _) ?_ (wide_round HF)
  simp only [Tryd.ntmps79, List.size_toArray, List.length_cons, List.length_nil, Nat.reduceAdd, Nat.reduceSub, Array.replicate_succ, Array.replicate_zero, List.push_toArray, List.append_toArray, List.nil_append, List.cons_append]
  gi_wp2
  gi_loopw [3] (fun v wr => ∃ i : Nat, v = .int .u64 (iv (upW q i)) ∧ Aside0 (i ≤ 64) ∧ Aside0 (J (setP 64 q i) wr) ∧ Aside0 (TabOk wr)) (fun v _ => (intOf v).toNat)
  case atStart => exact ⟨0, by rw [upW_zero], ⟨Nat.zero_le _⟩, HJ0, HT⟩
  case round =>
    clear B1 HJ0 HT c1
    obtain ⟨i, rfl, HI, HJi, HT⟩ := hrel
    by_cases hz : upW q i = 0#64
    · have hz0 : (iv (upW q i) != 0) = false := by rw [hz]; rfl
      have HZ := Aside0.mk hz
      clear hz
      gi_wp2
      go_end0
      have h := HJi.out
      rw [← up_end q i HI.out HZ.out] at h
      exact ⟨⟨_, rfl⟩, .inl ⟨_, rfl, h⟩⟩
    · have hz0 : (iv (upW q i) != 0) = true := by
        rw [bne_iff_ne]
        intro e
        exact hz (iv_inj.1 (e.trans (by decide)))
      obtain ⟨k, hk, h1, h2, h3, h4⟩ := up_set q i hz
      have LESS := Aside0.mk (up_less hz)
      have TZ : Aside0 (∀ w, TabOk w → Calls Tryd.prog 80 #[.int .u64 (iv (upW q i))] w fun e w' => e = .returned (.int .i64 (k : Int)) ∧ w = w') := ⟨fun w hw => tz_up q i k hz h1 w hw⟩
      have NEXT : Aside0 (bits .and .u64 (iv (upW q i)) (IntKind.u64.wrap (iv (upW q i) - 1)) = iv (upW q (k + 1))) := ⟨by
        rw [show (1 : Int) = iv 1#64 from by decide, wrap_sub, bits_and, h4]⟩
      have HK := Aside0.mk hk
      have HS : Aside0 (setP 64 q (k + 1) = setP 64 q i ++ [⟨k, HK.out⟩]) := ⟨h3⟩
      rw [h4] at LESS
      have HL : setP 64 q i ++ [⟨k, HK.out⟩] <+: setP 64 q 64 := by
        rw [← HS.out]
        exact setP_le (by have := HK.out.1; omega)
      obtain ⟨fn, tmps, assign, body, hy, hR⟩ := HY.out (setP 64 q i) ⟨k, HK.out⟩ wr HJi.out HL
      have HR := Aside0.mk hR
      dsimp only at hy
      clear hR h1 h2 h3 h4 hz hk HL
      gi_wp2_with (first
        | (gi_at_call 80; refine (callsIn_of HF (TZ.out _ HT.out)).mono ?_; rintro e w3 ⟨rfl, rfl⟩))
      refine HR.out.mono ?_
      rintro e W6 (⟨rfl, hJ6, hk6⟩ | ⟨rfl, hJx6⟩)
      · have HT6 := Aside0.mk (HT.out.keep hk6)
        have HJ6 := Aside0.mk (show J (setP 64 q (k + 1)) W6 by rw [HS.out]; exact hJ6)
        clear hJ6 hk6
        gi_wp2
        go_roundw
        case rel => exact ⟨k + 1, by rw [NEXT.out], ⟨by have := HK.out.1; omega⟩, HJ6, HT6⟩
        case measure =>
          have := LESS.out
          simp only [intOf]
          rw [NEXT.out]
          unfold iv
          omega
      · have HJ6 := Aside0.mk hJx6
        clear hJx6
        gi_wp2
        refine bodyPost_ret (results_none rfl _ _ _) rfl ?_
        refine ⟨⟨_, rfl⟩, .inr ⟨_, ?_, HJ6.out⟩⟩
        rw [← HS.out]
        exact setP_le (by have := HK.out.1; omega)
theorem set64_lt {q : Nat → Bool} {pre : List (SetP 64 q)} {x : SetP 64 q} (h : pre ++ [x] <+: setP 64 q 64) : pre.length < 64 := by
  have h1 := h.length_le
  have h2 := setP_length (n := 64) (q := q) 64
  rw [List.length_append, List.length_singleton] at h1
  omega
/-- What Each hands back tells the set places, rising. -/
theorem words_Each_1.stops (F : Fence) (HF : Aside0 (F = Fence.wide)) (n : Nat) (hn : 3 ≤ n) (g1 : Nat) (q : Nat → Bool) (w : World)
    (B1 : Blk w g1 #[.int .u64 (iv (word q))] 64) (hT : TabOk w) :
    SeqStopsK F n Tryd.prog 79 #[.pointer (some ⟨g1, 0, none⟩)] (fun x : SetP 64 q => #[.int .i64 (x.val : Int)]) (Keep2 0 0) (fun ys => ys = setP 64 q 64) (fun pre => pre <+: setP 64 q 64) 64 w := by
  intro l J Jx W hW _ _ hY h0
  exact words_Each_1.walk F HF n hn l g1 q J Jx W (fun pre x A hA hp => hY pre x A hA (set64_lt hp)) (B1.below hW) (hT.step hW) h0
/-- The same in the wider form. -/
theorem words_Each_1.stopsO (F : Fence) (HF : Aside0 (F = Fence.wide)) (n : Nat) (hn : 3 ≤ n) (g1 : Nat) (q : Nat → Bool) (w : World)
    (B1 : Blk w g1 #[.int .u64 (iv (word q))] 64) (hT : TabOk w) :
    SeqO F n Tryd.prog 79 #[.pointer (some ⟨g1, 0, none⟩)] (fun x : SetP 64 q => #[.int .i64 (x.val : Int)]) (Keep2 0 0) (fun ys => ys = setP 64 q 64) (fun pre => pre <+: setP 64 q 64) w := by
  intro l J Jx W hW _ _ _ hY h0
  refine (words_Each_1.walk F HF n hn l g1 q (J []) Jx W (fun pre x A hA hp => (hY [] pre x A (fun k hk => (List.not_mem_nil hk).elim) hA hp).mono fun e A' h => h.2.2) (B1.below hW) (hT.step hW) h0).mono ?_
  rintro e W' ⟨hv, (⟨ys, h1, h2⟩ | h)⟩
  · exact ⟨hv, .inl ⟨ys, [], h1, fun k hk => (List.not_mem_nil hk).elim, h2⟩⟩
  · exact ⟨hv, .inr h⟩
end


/-! ### words_Each: function 51 -/
open Go.Proofs.YtadcgjmhhodnoaaDoorQ Go.Proofs.YtadcgjmhhodnoaaDoorM in
set_option maxHeartbeats 4000000 in
set_option maxRecDepth 100000 in
theorem words_Each.calls (x : Int) (w : World) :
    Calls Tryd.prog 51 #[.int .u64 x] w fun e w' => ∃ g1 : Nat, e = .returned (.func (.func 79) #[] #[.pointer (some ⟨g1, 0, none⟩)]) ∧
      w.heap.size ≤ g1 ∧ Blk w' g1 #[.int .u64 x] 64 ∧ BelowH w w' := by
  have HB := BelowH.refl w
  go_enter Tryd.func51, Tryd.ntmps51
  go_wp2_with (first | ((with_reducible refine gate_dst (N := 1) rfl ?_); refine ev_alloc HB rfl (#[.int .u64 x]) 64 ?hr ?_; (case hr => first | (go_simp; done) | (go_simp; rfl)); intro g1 w1 G_g1 GE_g1 B_g1 HBn K_g1; clear HB; have HB := HBn; clear HBn))
  go_ret
  exact ⟨g1, rfl, GE_g1.out, B_g1, HB⟩


/-! ### marks_rows_starts: function 52 -/
def marks_rows_starts.f (a0_0 : Int) (a0_1 : Int) (a0_2 : Int) (a0_3 : Int) (a1 : Bool) : Option (Int) := if a1 = true then (some (Go.bits .andNot .u64 a0_3 (Go.bits .or .u64 (IntKind.u64.wrap (a0_3 * 2)) 1))) else (some (Go.bits .andNot .u64 a0_3 (IntKind.u64.wrap (a0_3 * 2))))
set_option maxHeartbeats 8000000 in
set_option maxRecDepth 100000 in
theorem marks_rows_starts.calls (a0_0 : Int) (a0_1 : Int) (a0_2 : Int) (a0_3 : Int) (a1 : Bool) (r : Int) (w : World) (h : marks_rows_starts.f a0_0 a0_1 a0_2 a0_3 a1 = some r) :
    Calls Tryd.prog 52 #[.agg #[.int .u64 a0_0, .int .u64 a0_1, .int .u64 a0_2, .int .u64 a0_3], .bool a1] w fun e w' => e = .returned (.int .u64 r) ∧ Below w.heap.size w w' := by
  have hu66 := Tryd.underlying66
  have HB := Aside0.mk (Below.refl w.heap.size w)
  have H : (if a1 = true then (some (Go.bits .andNot .u64 a0_3 (Go.bits .or .u64 (IntKind.u64.wrap (a0_3 * 2)) 1))) else (some (Go.bits .andNot .u64 a0_3 (IntKind.u64.wrap (a0_3 * 2))))) = some r := h
  clear h
  by_cases c3 : a1 = true
  · subst c3
    have H1 : (some (Go.bits .andNot .u64 a0_3 (Go.bits .or .u64 (IntKind.u64.wrap (a0_3 * 2)) 1))) = some r := by rw [if_pos rfl] at H; exact H
    clear H
    have H := H1
    clear H1
    obtain rfl := Option.some.inj H
    go_enter Tryd.func52, Tryd.ntmps52
    go_wp2_with (first | ((with_reducible refine gate_dst (N := 2) rfl ?_); refine box_event ?hg (N := 2) ?hd (cs := #[.int .u64 a0_0, .int .u64 a0_1, .int .u64 a0_2, .int .u64 a0_3]) (t := 66) ?hr ?_; (case hd => rfl); (case hg => rfl); (case hr => first | (go_simp; done) | (go_simp; rfl)); intro gb103 hg w4 hbox hb; have n0_ := Aside0.mk (below_step (by repeat (first | (with_reducible first | exact HB.out | apply below_alloc | apply pw_below_drewN | apply below_drew1) | exact HB.out)) hb); have n1_ := Aside0.mk (hbox); have n2_ := Aside0.mk ((by rw [hg]; exact (below_size (by repeat (first | (with_reducible first | exact HB.out | apply below_alloc | apply pw_below_drewN | apply below_drew1) | exact HB.out))) : w.heap.size ≤ gb103)); have n3_ := Aside0.mk ((by rw [hg]; exact (below_size (by repeat (first | (with_reducible first | exact HB.out | apply below_alloc | apply pw_below_drewN | apply below_drew1) | exact HB.out))) : w.heap.size ≤ gb103)); clear HB; have HB := n0_; have BK103 := n1_; have GW103 := n2_; have GE103 := n3_; clear n0_ n1_ n2_ n3_; clear hb hbox hg; have hcz5_0 : w4.cell? ⟨gb103, 0, none⟩ = some (.int .u64 a0_0) := (blk_cell BK103.out 0).trans rfl; have hcz5_1 : w4.cell? ⟨gb103, 1, none⟩ = some (.int .u64 a0_1) := (blk_cell BK103.out 1).trans rfl; have hcz5_2 : w4.cell? ⟨gb103, 2, none⟩ = some (.int .u64 a0_2) := (blk_cell BK103.out 2).trans rfl; have hcz5_3 : w4.cell? ⟨gb103, 3, none⟩ = some (.int .u64 a0_3) := (blk_cell BK103.out 3).trans rfl; have hfz5_0 := blk_frozen BK103.out 0; have hfz5_1 := blk_frozen BK103.out 1; have hfz5_2 := blk_frozen BK103.out 2; have hfz5_3 := blk_frozen BK103.out 3))
    go_ret
    exact ⟨by first | rfl | (simp [errW_none, errW_some] <;> rfl) | (simp [*, errW_none, errW_some] <;> rfl), by repeat (first | (with_reducible first | exact HB.out | apply below_alloc | apply pw_below_drewN | apply below_drew1 | refine below_set ?_ GE103.out) | exact HB.out)⟩
  · replace c3 := Bool.eq_false_iff.mpr c3
    subst c3
    have H1 : (some (Go.bits .andNot .u64 a0_3 (IntKind.u64.wrap (a0_3 * 2)))) = some r := by rw [if_neg (show ¬ (false = true) by decide)] at H; exact H
    clear H
    have H := H1
    clear H1
    obtain rfl := Option.some.inj H
    go_enter Tryd.func52, Tryd.ntmps52
    go_wp2_with (first | ((with_reducible refine gate_dst (N := 2) rfl ?_); refine box_event ?hg (N := 2) ?hd (cs := #[.int .u64 a0_0, .int .u64 a0_1, .int .u64 a0_2, .int .u64 a0_3]) (t := 66) ?hr ?_; (case hd => rfl); (case hg => rfl); (case hr => first | (go_simp; done) | (go_simp; rfl)); intro gb103 hg w6 hbox hb; have n0_ := Aside0.mk (below_step (by repeat (first | (with_reducible first | exact HB.out | apply below_alloc | apply pw_below_drewN | apply below_drew1) | exact HB.out)) hb); have n1_ := Aside0.mk (hbox); have n2_ := Aside0.mk ((by rw [hg]; exact (below_size (by repeat (first | (with_reducible first | exact HB.out | apply below_alloc | apply pw_below_drewN | apply below_drew1) | exact HB.out))) : w.heap.size ≤ gb103)); have n3_ := Aside0.mk ((by rw [hg]; exact (below_size (by repeat (first | (with_reducible first | exact HB.out | apply below_alloc | apply pw_below_drewN | apply below_drew1) | exact HB.out))) : w.heap.size ≤ gb103)); clear HB; have HB := n0_; have BK103 := n1_; have GW103 := n2_; have GE103 := n3_; clear n0_ n1_ n2_ n3_; clear hb hbox hg; have hcz7_0 : w6.cell? ⟨gb103, 0, none⟩ = some (.int .u64 a0_0) := (blk_cell BK103.out 0).trans rfl; have hcz7_1 : w6.cell? ⟨gb103, 1, none⟩ = some (.int .u64 a0_1) := (blk_cell BK103.out 1).trans rfl; have hcz7_2 : w6.cell? ⟨gb103, 2, none⟩ = some (.int .u64 a0_2) := (blk_cell BK103.out 2).trans rfl; have hcz7_3 : w6.cell? ⟨gb103, 3, none⟩ = some (.int .u64 a0_3) := (blk_cell BK103.out 3).trans rfl; have hfz7_0 := blk_frozen BK103.out 0; have hfz7_1 := blk_frozen BK103.out 1; have hfz7_2 := blk_frozen BK103.out 2; have hfz7_3 := blk_frozen BK103.out 3))
    go_ret
    exact ⟨by first | rfl | (simp [errW_none, errW_some] <;> rfl) | (simp [*, errW_none, errW_some] <;> rfl), by repeat (first | (with_reducible first | exact HB.out | apply below_alloc | apply pw_below_drewN | apply below_drew1 | refine below_set ?_ GE103.out) | exact HB.out)⟩

/-! ### marks_rows_ends: function 53 -/
def marks_rows_ends.f (a0_0 : Int) (a0_1 : Int) (a0_2 : Int) (a0_3 : Int) : Option (Bool) := some ((a0_3 / 9223372036854775808) == 1)
set_option maxHeartbeats 8000000 in
set_option maxRecDepth 100000 in
theorem marks_rows_ends.calls (a0_0 : Int) (a0_1 : Int) (a0_2 : Int) (a0_3 : Int) (r : Bool) (w : World) (h : marks_rows_ends.f a0_0 a0_1 a0_2 a0_3 = some r) :
    Calls Tryd.prog 53 #[.agg #[.int .u64 a0_0, .int .u64 a0_1, .int .u64 a0_2, .int .u64 a0_3]] w fun e w' => e = .returned (.bool r) ∧ Below w.heap.size w w' := by
  have hu66 := Tryd.underlying66
  have HB := Aside0.mk (Below.refl w.heap.size w)
  have H : (some ((a0_3 / 9223372036854775808) == 1)) = some r := h
  clear h
  obtain rfl := Option.some.inj H
  go_enter Tryd.func53, Tryd.ntmps53
  go_wp2_with (first | ((with_reducible refine gate_dst (N := 1) rfl ?_); refine box_event ?hg (N := 1) ?hd (cs := #[.int .u64 a0_0, .int .u64 a0_1, .int .u64 a0_2, .int .u64 a0_3]) (t := 66) ?hr ?_; (case hd => rfl); (case hg => rfl); (case hr => first | (go_simp; done) | (go_simp; rfl)); intro gb104 hg w2 hbox hb; have n0_ := Aside0.mk (below_step (by repeat (first | (with_reducible first | exact HB.out | apply below_alloc | apply pw_below_drewN | apply below_drew1) | exact HB.out)) hb); have n1_ := Aside0.mk (hbox); have n2_ := Aside0.mk ((by rw [hg]; exact (below_size (by repeat (first | (with_reducible first | exact HB.out | apply below_alloc | apply pw_below_drewN | apply below_drew1) | exact HB.out))) : w.heap.size ≤ gb104)); have n3_ := Aside0.mk ((by rw [hg]; exact (below_size (by repeat (first | (with_reducible first | exact HB.out | apply below_alloc | apply pw_below_drewN | apply below_drew1) | exact HB.out))) : w.heap.size ≤ gb104)); clear HB; have HB := n0_; have BK104 := n1_; have GW104 := n2_; have GE104 := n3_; clear n0_ n1_ n2_ n3_; clear hb hbox hg; have hcz3_0 : w2.cell? ⟨gb104, 0, none⟩ = some (.int .u64 a0_0) := (blk_cell BK104.out 0).trans rfl; have hcz3_1 : w2.cell? ⟨gb104, 1, none⟩ = some (.int .u64 a0_1) := (blk_cell BK104.out 1).trans rfl; have hcz3_2 : w2.cell? ⟨gb104, 2, none⟩ = some (.int .u64 a0_2) := (blk_cell BK104.out 2).trans rfl; have hcz3_3 : w2.cell? ⟨gb104, 3, none⟩ = some (.int .u64 a0_3) := (blk_cell BK104.out 3).trans rfl; have hfz3_0 := blk_frozen BK104.out 0; have hfz3_1 := blk_frozen BK104.out 1; have hfz3_2 := blk_frozen BK104.out 2; have hfz3_3 := blk_frozen BK104.out 3))
  go_ret
  exact ⟨by first | rfl | (simp [errW_none, errW_some] <;> rfl) | (simp [*, errW_none, errW_some] <;> rfl), by repeat (first | (with_reducible first | exact HB.out | apply below_alloc | apply pw_below_drewN | apply below_drew1 | refine below_set ?_ GE104.out) | exact HB.out)⟩

/-! ### marks_Index: function 16 -/
section
open Go.Proofs.YtadcgjmhhodnoaaDoorQ Go.Proofs.YtadcgjmhhodnoaaDoorM Go.Shelf
attribute [local go_sem] Oper.semAt_some
/-- Where words begin in a block, as starts tells it. -/
theorem starts_word (s : ByteArray) (k : Nat) (x y z : Int) : marks_rows_starts.f x y z (iv (wordAt s.size (wdq s) k)) (carq s k) = some (iv (word (stW s k))) := by
  have e1 : IntKind.u64.wrap (iv (wordAt s.size (wdq s) k) * 2) = iv (wordAt s.size (wdq s) k <<< 1) := wrap_shl _ 1
  have e2 : (1 : Int) = iv 1#64 := rfl
  have h := st_word s k
  unfold marks_rows_starts.f
  cases hc : carq s k with
  | true =>
    rw [hc, if_pos rfl] at h
    rw [if_pos rfl, e1, e2, bits_or, bits_andNot, h]
  | false =>
    rw [hc, if_neg (by decide)] at h
    rw [if_neg (by decide), e1, bits_andNot, ← h]
    simp
theorem ends_word (s : ByteArray) (k : Nat) (a b c : Int) : marks_rows_ends.f a b c (iv (wordAt s.size (wdq s) k)) = some (decide (64 * k + 63 < s.size) && wdq s (64 * k + 63)) := by
  unfold marks_rows_ends.f wordAt
  rw [top_word]
  cases (decide (64 * k + 63 < s.size) && wdq s (64 * k + 63)) <;> rfl
/-- Between two places of one block. -/
structure IdxI (w : World) (g3 g5 g6 gr m : Nat) (r : List Value) (cur : Array Value) (k : Nat) (L0 : List Int) {q : Nat → Bool} (Ds : List Nat) (pre : List (SetP 64 q)) (W : World) : Prop where mk ::
  out : ∃ v, Blk W g3 #[v] 23 ∧ W.ownsRow w.heap.size 3 1 v (L0.length + pre.length) ((L0 ++ pre.map fun x => (64 * (k : Int) + ((x.val : Nat) : Int))).map (Value.int .i64)) ∧ v.ownBlock ≠ some g5
  b5 : Blk W g5 #[.int .i64 (k : Int)] 3
  b6 : Blk W g6 r.toArray 66
  br : Blk W gr cur 66
  ht : TabOk W
  mk_ : Marks w.heap.size Ds W
  hb : BelowH w W
  sz : m ≤ W.heap.size
theorem IdxI.kept {w : World} {g3 g5 g6 gr m : Nat} {r : List Value} {cur : Array Value} {k : Nat} {L0 : List Int} {q : Nat → Bool} {Ds : List Nat} {pre : List (SetP 64 q)} {W W' : World} (h : IdxI w g3 g5 g6 gr m r cur k L0 Ds pre W) (hm : w.heap.size ≤ m) (hD : ∀ D ∈ Ds, D < m) {row : Option Nat} (hg : W.grownBy W' row) (hr : ∀ r, row = some r → m ≤ r ∧ ∃ o : Obj, W.heap[r]? = some o ∧ o.isCells = false) : IdxI w g3 g5 g6 gr m r cur k L0 Ds pre W' := by
  have hr' : ∀ r, row = some r → ∃ o : Obj, W.heap[r]? = some o ∧ o.isCells = false := fun r e => (hr r e).2
  obtain ⟨v, b, ho, hn⟩ := h.out
  exact ⟨⟨v, b.kept hg hr', row_kept ho hg hr', hn⟩, h.b5.kept hg hr', h.b6.kept hg hr', h.br.kept hg hr', h.ht.kept hg hr', h.mk_.grown hg hD (fun r e => (hr r e).1), h.hb.kept hg hm (fun r e => (hr r e).1), Nat.le_trans h.sz hg.size⟩
theorem IdxI.below {w : World} {g3 g5 g6 gr m m' : Nat} {r : List Value} {cur : Array Value} {k : Nat} {L0 : List Int} {q : Nat → Bool} {Ds : List Nat} {pre : List (SetP 64 q)} {W W' : World} (h : IdxI w g3 g5 g6 gr m r cur k L0 Ds pre W) (hb : Below W.heap.size W W') (hm : m' ≤ W'.heap.size) : IdxI w g3 g5 g6 gr m' r cur k L0 Ds pre W' := by
  obtain ⟨v, b, ho, hn⟩ := h.out
  exact ⟨⟨v, b.below hb, row_below ho hb, hn⟩, h.b5.below hb, h.b6.below hb, h.br.below hb, h.ht.step hb, h.mk_.below hb, h.hb.step hb, hm⟩
theorem rows_get (s : ByteArray) (k j : Nat) (hj : j < 4) : ∀ n, k < n → ((List.range n).flatMap (rowN s))[k * 4 + j]? = (rowN s k)[j]?
  | 0, h => by omega
  | n + 1, h => by
    have hl : ∀ m, ((List.range m).flatMap (rowN s)).length = 4 * m := fun m => by
      induction m with
      | zero => rfl
      | succ m ih =>
        rw [List.range_succ, List.flatMap_append, List.length_append, ih]
        simp [rowN]
        omega
    rw [List.range_succ, List.flatMap_append]
    by_cases e : k = n
    · subst e
      rw [List.getElem?_append_right (by rw [hl]; omega), hl, show k * 4 + j - 4 * k = j by omega]
      simp
    · rw [List.getElem?_append_left (by rw [hl]; omega)]
      exact rows_get s k j hj n (by omega)
def marks_Index.f (a0 : ByteArray) : Option (List Int) := if a0.size ≤ 1099511627776 then some (idxL a0 a0.size) else none
set_option maxHeartbeats 4000000 in
set_option maxRecDepth 100000 in
theorem marks_Index.walk (s : ByteArray) (w : World) (hT : TabOk w) (hs : s.size ≤ 1099511627776) :
    Calls Tryd.prog 16 #[.string s] w fun e w' => ∃ v : Value, e = .returned v ∧ w'.ownsRow w.heap.size 3 1 v (idxL s s.size).length ((idxL s s.size).map (Value.int .i64)) ∧ Below w.heap.size w w' := by
  obtain ⟨F, hF⟩ : ∃ F, F = Fence.wide := ⟨_, rfl⟩
  have HF := Aside0.mk hF
  refine (callsIn_wide (n := 9)).1 ?_
  rw [← hF]
  clear hF
  have hro := wide_round HF
  have HB := BelowH.refl w
  have f1 := wide_fn HF 50
  have f2 := wide_fn HF 51
  have f3 := wide_fn HF 79
  have f4 := wide_fn HF 52
  have f5 := wide_fn HF 53
  have HS := Aside0.mk hs
  have HT := Aside0.mk hT
  have PW := Aside0.mk hT.pos
  obtain ⟨nw, hnw⟩ : ∃ nw, nw = nwords s.size := ⟨_, rfl⟩
  have HNW := Aside0.mk hnw
  have hnw1 : (nw : Int) ≤ 17179869184 := by rw [hnw]; unfold nwords; omega
  clear hs hnw hT
  refine callsIn_of_wp_marks Tryd.func16 rfl (wide_fn HF _) ?_ hro
  simp only [Tryd.ntmps16, List.size_toArray, List.length_cons, List.length_nil, Nat.reduceAdd, Nat.reduceSub, Array.replicate_succ, Array.replicate_zero, List.push_toArray, List.append_toArray, List.nil_append, List.cons_append]
  gi_upto_region 3 with (first
    | ((with_reducible refine gate_dstIn (N := 3) rfl ?_); refine ev_allocIn HB rfl rfl (#[.slice none 0 0]) 23 ?hr ?_; (case hr => first | (go_simp; done) | (go_simp; rfl)); intro g3 w3 G_g3 GE_g3 B_g3 HBn K_g3 KO_w3; clear HB; have HB := HBn; clear HBn))
  have hlk := marks_look.walk s w3 (by have := HS.out; omega)
  rw [← HNW.out] at hlk
  have LK := Aside0.mk hlk
  clear hlk
  gi_wp2_with (first
    | (gi_at_call 50; refine (callsIn_of HF LK.out).mono ?_; rintro e w4 ⟨v, rfl, hrow, hb4⟩; have HR4 := Aside0.mk hrow; have HB4 := HB.step hb4; have HK4 := Aside0.mk hb4; obtain ⟨ad, cp, rfl⟩ := own_slice hrow; clear hrow hb4))
  have hb := HB4
  have D3 := B_g3.below HK4.out
  have HT4 := Aside0.mk (HT.out.stepH HB4)
  have HO : Aside0 ((ad = none ∧ nw = 0) ∨ ∃ gr cur, ad = some ⟨gr, 0, none⟩ ∧ Blk w4 gr cur 66 ∧ ∀ k j, k < nw → j < 4 → cur[k * 4 + j]? = (rowN s k)[j]?) := ⟨by
    rcases row_openN HR4.out with ⟨h1, h2⟩ | ⟨gr, cap, cur, h1, h2, h3, h4⟩
    · injection h1 with h1
      exact .inl ⟨h1, h2⟩
    · injection h1 with h1
      refine .inr ⟨gr, cur, h1, h3, fun k j hk hj => ?_⟩
      have hg := rows_get s k j hj nw hk
      cases hx : (rowN s k)[j]? with
      | none => rw [List.getElem?_eq_none_iff] at hx; simp [rowN] at hx; omega
      | some u => rw [hx] at hg; exact h4 _ _ hg⟩
  obtain ⟨gr, cur, HO⟩ : ∃ gr cur, Aside0 ((ad = none ∧ nw = 0) ∨ (ad = some ⟨gr, 0, none⟩ ∧ Blk w4 gr cur 66 ∧ ∀ k j, k < nw → j < 4 → cur[k * 4 + j]? = (rowN s k)[j]?)) := by
    rcases HO.out with h | ⟨gr, cur, h⟩
    · exact ⟨0, #[], ⟨.inl h⟩⟩
    · exact ⟨gr, cur, ⟨.inr h⟩⟩
  have HGET : Aside0 (nw ≠ 0 → ad = some ⟨gr, 0, none⟩ ∧ ∀ k j, k < nw → j < 4 → cur[k * 4 + j]? = (rowN s k)[j]?) := ⟨fun h0 => by
    rcases HO.out with ⟨_, h⟩ | ⟨h1, _, h3⟩
    · exact absurd h h0
    · exact ⟨h1, h3⟩⟩
  have HBR : Aside0 (nw ≠ 0 → Blk w4 gr cur 66) := ⟨fun h0 => by
    rcases HO.out with ⟨_, h⟩ | ⟨_, h2, _⟩
    · exact absurd h h0
    · exact h2⟩
  clear HO hb LK HT B_g3 K_g3 KO_w3 HK4 HR4 HB G_g3
  refine wpIn_loopM (fun m a W => ∃ (k : Nat) (Ds : List Nat) (z11 : Int) (c4 : Bool) (u5 u6 u7 u12 u13 u14 u15 u16 u17 u18 u19 u20 u21 u22 u23 u24 u25 u26 u27 u28 u29 u30 u31 u32 u33 u34 u35 u36 u37 : Value), m = nw - k ∧ z11 = (k : Int) ∧ k ≤ nw ∧ a = { tmps := #[.string s, undef, .slice none 0 0, .pointer (some ⟨g3, 0, none⟩), .bool c4, u5, u6, u7, .string s, .slice ad nw cp, .int .i64 (nw : Int), .int .i64 z11, u12, u13, u14, u15, u16, u17, u18, u19, u20, u21, u22, u23, u24, u25, u26, u27, u28, u29, u30, u31, u32, u33, u34, u35, u36, u37], defers := marksD Ds } ∧
    Aside0 (k < nw → c4 = carq s k) ∧ Aside0 (∃ v, Blk W g3 #[v] 23 ∧ W.ownsRow w.heap.size 3 1 v (idxL s (64 * k)).length ((idxL s (64 * k)).map (Value.int .i64))) ∧ Aside0 (nw ≠ 0 → Blk W gr cur 66) ∧ Aside0 (TabOk W) ∧ Aside0 (Marks w.heap.size Ds W) ∧ BelowH w W) nw
    ⟨0, [], 0, false, _, _, _, _, _, _, _, _, _, _, _, _, _, _, _, _, _, _, _, _, _, _, _, _, _, _, _, _, _, rfl, rfl, Nat.zero_le _, rfl, ⟨fun _ => rfl⟩, ⟨_, D3, World.ownsRow_nil _ _ _ _⟩, HBR, HT4, ⟨Marks.nil⟩, HB4⟩ ?_
  rintro m a W ⟨k, Ds, z11, c4, u5, u6, u7, u12, u13, u14, u15, u16, u17, u18, u19, u20, u21, u22, u23, u24, u25, u26, u27, u28, u29, u30, u31, u32, u33, u34, u35, u36, u37, rfl, hz11, hk, rfl, HC, HOUT, HBR, HT, HM, HB⟩ K hK
  have HKK := Aside0.mk hK
  clear hK HT4 D3 HB4
  obtain ⟨v, b3, hrow⟩ := HOUT.out
  have c3 := b3.cell (i := 0) rfl
  by_cases hlt : k < nw
  · have HLT := Aside0.mk hlt
    obtain ⟨rfl, hcur⟩ := HGET.out (by omega)
    have BR := HBR.out (by omega)
    obtain ⟨A, hA⟩ : ∃ A, A = iv (wordAt s.size (sgq s) k) := ⟨_, rfl⟩
    obtain ⟨B, hB⟩ : ∃ B, B = iv (wordAt s.size (blq s) k) := ⟨_, rfl⟩
    obtain ⟨C, hC⟩ : ∃ C, C = iv (wordAt s.size (opq s) k) := ⟨_, rfl⟩
    obtain ⟨D, hD⟩ : ∃ D, D = iv (wordAt s.size (wdq s) k) := ⟨_, rfl⟩
    have hrN : rowN s k = [.int .u64 A, .int .u64 B, .int .u64 C, .int .u64 D] := by rw [hA, hB, hC, hD]; rfl
    have hcur' := fun j hj => hcur k j hlt hj
    rw [hrN] at hcur'
    replace hcur := hcur'
    clear hcur'
    have cr0 : W.cell? ⟨gr, k * 4, none⟩ = some (.int .u64 A) := BR.cell (hcur 0 (by decide))
    have cr1 : W.cell? ⟨gr, k * 4 + 1, none⟩ = some (.int .u64 B) := BR.cell (hcur 1 (by decide))
    have cr2 : W.cell? ⟨gr, k * 4 + 2, none⟩ = some (.int .u64 C) := BR.cell (hcur 2 (by decide))
    have cr3 : W.cell? ⟨gr, k * 4 + 3, none⟩ = some (.int .u64 D) := BR.cell (hcur 3 (by decide))
    have hq1 : (k : Int) < (nw : Int) := by omega
    have hq2 : (0 : Int) ≤ (k : Int) := by omega
    have hkn : 64 * k < s.size := by have := HNW.out; unfold nwords at this; omega
    have hc4 := HC.out hlt
    obtain ⟨X, hX⟩ : ∃ X, X = iv (word (stW s k)) := ⟨_, rfl⟩
    have STA : Aside0 (∀ w, Calls Tryd.prog 52 #[.agg #[.int .u64 A, .int .u64 B, .int .u64 C, .int .u64 D], .bool c4] w fun e w' => e = .returned (.int .u64 X) ∧ Below w.heap.size w w') := ⟨fun w => marks_rows_starts.calls A B C D c4 X w (by rw [hD, hc4, hX]; exact starts_word s k A B C)⟩
    have BEG : Aside0 (bits .or .u64 (bits .or .u64 A C) X = iv (word (begB s k))) := ⟨by rw [hA, hC, hX]; exact beg_or s k hkn⟩
    have EN : Aside0 (∀ w, Calls Tryd.prog 53 #[.agg #[.int .u64 A, .int .u64 B, .int .u64 C, .int .u64 D]] w fun e w' => e = .returned (.bool (decide (64 * k + 63 < s.size) && wdq s (64 * k + 63))) ∧ Below w.heap.size w w') := ⟨fun w => marks_rows_ends.calls A B C D _ w (by rw [hD]; exact ends_word s k A B C)⟩
    obtain ⟨E, hE⟩ : ∃ E, E = (decide (64 * k + 63 < s.size) && wdq s (64 * k + 63)) := ⟨_, rfl⟩
    rw [← hE] at EN
    have HE := Aside0.mk hE
    subst hz11
    have HROW := Aside0.mk hrow
    have HV1 := Aside0.mk (row_one hrow)
    clear hA hB hC hD hrN hcur hkn hc4 hX hE hlt hk hrow HOUT HBR HC
    have HB0 := HB
    clear HB
    have HB := BelowH.refl W
    gi_upto_region 6 with (first
      | ((with_reducible refine gate_dstIn (N := 5) rfl ?_); refine ev_allocIn HB rfl rfl (#[.int .i64 0]) 3 ?hr ?_; (case hr => first | (go_simp; done) | (go_simp; rfl)); intro g5 w5 G_g5 GE_g5 B_g5 HBn K_g5 KO_w5; clear HB; have HB := HBn; clear HBn)
      | ((with_reducible refine gate_dstIn (N := 6) rfl ?_); refine ev_allocIn HB rfl rfl (#[.int .u64 0, .int .u64 0, .int .u64 0, .int .u64 0]) 66 ?hr ?_; (case hr => first | (go_simp; done) | (go_simp; rfl)); intro g6 w6 G_g6 GE_g6 B_g6 HBn K_g6 KO_w6; clear HB; have HB := HBn; clear HBn)
      | ((with_reducible refine gate_In (Op.store 3 (.tmp 5) (.tmp 13)) rfl ?_); refine ev_store1In (i := 0) HB (B_g5.below K_g6.out) GE_g5 rfl 3 _ _ rfl rfl (.int .i64 (k : Int)) rfl (by simp) (by kernel_rfl) rfl ?_; intro w7 B7 HBn K_w7 KO_w7; clear HB; have HB := HBn; clear HBn)
      | ((with_reducible refine gate_In (Op.store 66 (.tmp 6) (.tmp 15)) rfl ?_); refine ev_storeIn HB (B_g6.other K_w7 (by have := B_g5.lt; have := G_g6.out; omega)) GE_g6 rfl 66 _ _ rfl rfl rfl (by kernel_rfl) rfl (by simp [Value.oneCell']) ?_; intro w8 B8 HBn K_w8 KO_w8; clear HB; have HB := HBn; clear HBn))
    have N56 : g5 ≠ g6 := by have := B_g5.lt; have := G_g6.out; omega
    have NW5 : ∀ g, g < W.heap.size → g ≠ g5 ∧ g ≠ g6 := fun g h => by have := G_g5.out; have := G_g6.out; have := K_g5.out.size; omega
    have KB := Aside0.mk HB.out
    have B5 := B7.other K_w8 N56
    have hR8 : w8.ownsRow w.heap.size 3 1 v ((idxL s (64 * k)).length + ([] : List (SetP 64 (begB s k))).length) ((idxL s (64 * k) ++ ([] : List (SetP 64 (begB s k))).map fun x => (64 * (k : Int) + ((x.val : Nat) : Int))).map (Value.int .i64)) := by
      rw [List.map_nil, List.append_nil]
      exact row_below HROW.out KB.out
    have I8 : IdxI w g3 g5 g6 gr 0 [.int .u64 A, .int .u64 B, .int .u64 C, .int .u64 D] cur k (idxL s (64 * k)) Ds ([] : List (SetP 64 (begB s k))) w8 :=
      ⟨⟨v, b3.below KB.out, hR8, own_ne_new HROW.out G_g5.out⟩, B5, B8, BR.below KB.out, HT.out.step KB.out, HM.out.below KB.out, HB0.step KB.out, Nat.zero_le _⟩
    have hbd : Aside0 (Below w8.heap.size w8 w8.drew) := ⟨below_drew (Below.refl _ _)⟩
    have I' := I8.below hbd.out (Nat.zero_le _)
    clear I8 hR8 B5 B8 B7 BR HM HB0 HB KB NW5 hbd B_g5 B_g6 K_g5 K_g6 K_w7 K_w8 KO_w5 KO_w6 KO_w7 KO_w8 G_g5 GE_g5 G_g6 GE_g6 HROW HV1 b3 c3 cr0 cr1 cr2 cr3 HT
    refine wpIn_region_last_wide HF (S := fun W' => Blk W' g6 #[.int .u64 A, .int .u64 B, .int .u64 C, .int .u64 D] 66) (ds := []) (by kernel_rfl) I'.b6 (fun hS => ?_)
    refine' wpAnyLast_take (i := 0) (oi := Oper.mk _ _ _ _ _ _) rfl (by kernel_rfl) (by kernel_rfl) (by kernel_rfl) (by kernel_rfl) (by kernel_rfl) (fun _ _ _ h => h) (Or.inl ⟨by rfl, ?hy1⟩) hS ?rest1
    case hy1 => (intro w hSw; (try dsimp only at hSw); first | (go_simp; done) | (go_simp; with_reducible rfl))
    try simp only [Act.put, List.setIfInBounds_toArray, List.set_cons_zero, List.set_cons_succ]
    refine wpAnyLast_take (i := 1) (oi := Oper.mk _ _ _ _ _ _) rfl (by kernel_rfl) (by kernel_rfl) (by kernel_rfl) (by kernel_rfl) (by kernel_rfl) (fun _ _ _ h => h) (rg_load1 (by rfl) (fun _ hS => hS.cell (i := 0) rfl) 64 _ rfl rfl (fun _ => by simp [isAgg, run_underlying Tryd.underlying64])) hS ?_
    try simp only [Act.put, List.setIfInBounds_toArray, List.set_cons_zero, List.set_cons_succ]
    refine' wpAnyLast_take (i := 2) (oi := Oper.mk _ _ _ _ _ _) rfl (by kernel_rfl) (by kernel_rfl) (by kernel_rfl) (by kernel_rfl) (by kernel_rfl) (fun _ _ _ h => h) (Or.inl ⟨by rfl, ?hy2⟩) hS ?rest2
    case hy2 => (intro w hSw; (try dsimp only at hSw); first | (go_simp; done) | (go_simp; with_reducible rfl))
    try simp only [Act.put, List.setIfInBounds_toArray, List.set_cons_zero, List.set_cons_succ]
    refine wpAnyLast_take (i := 3) (oi := Oper.mk _ _ _ _ _ _) rfl (by kernel_rfl) (by kernel_rfl) (by kernel_rfl) (by kernel_rfl) (by kernel_rfl) (fun _ _ _ h => h) (rg_load1 (by rfl) (fun _ hS => hS.cell (i := 2) rfl) 64 _ rfl rfl (fun _ => by simp [isAgg, run_underlying Tryd.underlying64])) hS ?_
    try simp only [Act.put, List.setIfInBounds_toArray, List.set_cons_zero, List.set_cons_succ]
    refine' wpAnyLast_take (i := 4) (oi := Oper.mk _ _ _ _ _ _) rfl (by kernel_rfl) (by kernel_rfl) (by kernel_rfl) (by kernel_rfl) (by kernel_rfl) (fun _ _ _ h => h) (Or.inl ⟨by rfl, ?hy3⟩) hS ?rest3
    case hy3 => (intro w hSw; (try dsimp only at hSw); first | (go_simp; done) | (go_simp; with_reducible rfl))
    try simp only [Act.put, List.setIfInBounds_toArray, List.set_cons_zero, List.set_cons_succ]
    refine wpAnyLast_take (i := 5) (oi := Oper.mk _ _ _ _ _ _) rfl (by kernel_rfl) (by kernel_rfl) (by kernel_rfl) (by kernel_rfl) (by kernel_rfl) (fun _ _ _ h => h) (rg_load (by rfl) (fun _ hS => hS) 66 _ rfl rfl Tryd.underlying66 rfl (by kernel_rfl)) hS ?_
    try simp only [Act.put, List.setIfInBounds_toArray, List.set_cons_zero, List.set_cons_succ]
    refine' wpAnyLast_take (i := 6) (oi := Oper.mk _ _ _ _ _ _) rfl (by kernel_rfl) (by kernel_rfl) (by kernel_rfl) (by kernel_rfl) (by kernel_rfl) (fun _ _ _ h => h) (Or.inl ⟨by rfl, ?hy4⟩) hS ?rest4
    case hy4 => (intro w hSw; (try dsimp only at hSw); first | (go_simp; done) | (go_simp; with_reducible rfl))
    try simp only [Act.put, List.setIfInBounds_toArray, List.set_cons_zero, List.set_cons_succ]
    refine wpAnyLast_ready (rs := [7]) (by kernel_rfl) (by simp) ?_
    refine AllReadyL.cons (o := Oper.mk _ _ _ _ _ _) rfl (by decide) (fun K hK => ?_) ?_
    · refine rg_call (by rfl) _ _ (.int .u64 X) (by first | (go_simp; done) | (go_simp; rfl)) (STA.out _) ?_
      intro W' hb
      have I2 := I'.below (m' := 0) hb.out (Nat.zero_le _)
      clear I'
      refine hK.out _ _ I2.b6 (fun hS => ?_)
      clear hK K
      try simp only [Act.put, List.setIfInBounds_toArray, List.set_cons_zero, List.set_cons_succ]
      refine' wpAnyLast_take (i := 8) (oi := Oper.mk _ _ _ _ _ _) rfl (by kernel_rfl) (by kernel_rfl) (by kernel_rfl) (by kernel_rfl) (by kernel_rfl) (fun _ _ _ h => h) (Or.inl ⟨by rfl, ?hy5⟩) hS ?rest5
      case hy5 => (intro w hSw; (try dsimp only at hSw); first | (go_simp; done) | (go_simp; with_reducible rfl))
      try simp only [Act.put, List.setIfInBounds_toArray, List.set_cons_zero, List.set_cons_succ]
      refine wpAnyLast_ready (rs := [9]) (by kernel_rfl) (by simp) ?_
      refine AllReadyL.cons (o := Oper.mk _ _ _ _ _ _) rfl (by decide) (fun K hK => ?_) ?_
      · refine call_ 51 #[.int .u64 (bits .or .u64 (bits .or .u64 A C) X)] (by rfl) rfl (by first | (go_simp; done) | (go_simp; rfl)) ((words_Each.calls _ _).mono ?_)
        rintro e W3 ⟨g1, rfl, GE1, B1, HB3⟩
        refine ⟨_, rfl, ?_⟩
        have I3 := I2.below (m' := W3.heap.size) HB3.out (Nat.le_refl _)
        clear I2 HB3
        refine hK.out _ _ I3.b6 (fun hS => ?_)
        clear hK K
        try simp only [Act.put, List.setIfInBounds_toArray, List.set_cons_zero, List.set_cons_succ]
        refine wpAnyLast_done (by kernel_rfl) ?_ _
        refine NoPanic.normal ?_
        gi_wp2
        have B1' := B1
        rw [BEG.out] at B1'
        have P0 := I3.ht.pos
        have L1 := B1'.lt
        have HP := Aside0.mk (And.intro (fun D hD => I3.mk_.lt (D := D) hD) I3.hb.le)
        have HX3 := Aside0.mk (And.intro I3.b5.lt (And.intro I3.b6.lt (I3.out.choose_spec.1).lt))
        have T3 := I3.ht
        clear B1 GE1
        refine wpIn_rangeFunc_ownH hro (by decide) (gf := 79) (lb := #[.pointer (some ⟨g1, 0, none⟩)]) rfl f3 (enters_of Tryd.func79 (by kernel_rfl) rfl)
          (words_Each_1.stops F HF (9 - 1) (by decide) g1 (begB s k) W3 B1' T3) Keep2.trans (fun W l o o' hl ho hc hw => Keep2.putObj P0 P0 W l o o' hl ho hc hw) (Below.refl _ _) (fun _ => rfl)
          (IdxI w g3 g5 g6 gr W3.heap.size [.int .u64 A, .int .u64 B, .int .u64 C, .int .u64 D] cur k (idxL s (64 * k)) Ds) (fun _ _ _ => False)
          (fun pre A B row hs hg hr => hs.kept HP.out.2 HP.out.1 hg hr)
          (fun _ _ _ _ _ hs _ _ => hs)
          I3
          (fun y a' W => a' = { tmps := #[.string s, undef, .slice none 0 0, .pointer (some ⟨g3, 0, none⟩), .bool c4, .pointer (some ⟨g5, 0, none⟩), .pointer (some ⟨g6, 0, none⟩), .int .i64 ((y.val : Nat) : Int), .string s, .slice (some ⟨gr, 0, none⟩) nw cp, .int .i64 (nw : Int), .int .i64 (k : Int), .bool true, .int .i64 (k : Int), .pointer (some ⟨gr, k * 4, none⟩), .agg #[.int .u64 A, .int .u64 B, .int .u64 C, .int .u64 D], .pointer (some ⟨g6, 0, none⟩), .int .u64 A, .pointer (some ⟨g6, 2, none⟩), .int .u64 C, .int .u64 (bits .or .u64 A C), .agg #[.int .u64 A, .int .u64 B, .int .u64 C, .int .u64 D], .bool c4, .int .u64 X, .int .u64 (bits .or .u64 (bits .or .u64 A C) X), .func (.func 79) #[] #[.pointer (some ⟨g1, 0, none⟩)], .int .i64 ((y.val : Nat) : Int), u27, u28, u29, u30, u31, u32, u33, u34, u35, u36, u37], defers := [] })
          (fun x a' pre A B row hs hg hr => hs)
          ?assign ?body ?done ?stop
        case assign =>
          intro l' pre y W K' hI hK'
          dsimp only
          gi_wp2
          exact hK' _ _ ((KeepsOthers.refl _).from _) ⟨rfl, rfl, Nat.le_refl _⟩ hI rfl
        case body =>
          rintro l' pre y a' W' hl ⟨r, hr⟩ hI rfl hlen
          clear hr
          obtain ⟨v', b3, hrow, hne⟩ := hI.out
          have c3 := b3.cell (i := 0) rfl
          have c5 := hI.b5.cell (i := 0) rfl
          have HB := hI.hb
          have hb1 : (k : Int) ≤ 17179869184 := by have := HLT.out; omega
          have hb2 : ((y.val : Nat) : Int) < 64 := by have := y.2.1; omega
          have hw1 : wrap64 (64 * (k : Int)) = 64 * (k : Int) := by unfold wrap64; omega
          have hw2 : wrap64 (64 * (k : Int) + ((y.val : Nat) : Int)) = 64 * (k : Int) + ((y.val : Nat) : Int) := by unfold wrap64; omega
          have HLEN : Aside0 (((idxL s (64 * k)).length + pre.length + 1) * 8 ≤ 140737488355328) := ⟨by have := idxL_length s (64 * k); have := HLT.out; omega⟩
          have HW' := Aside0.mk hI
          have HROW := Aside0.mk hrow
          have HNE := Aside0.mk hne
          clear hrow hne hI hlen
          gi_wp2_with (first
            | ((with_reducible refine gate_dstIn (N := 32) rfl ?_); refine ev_lit1In HB rfl rfl (.int .i64 (64 * (k : Int) + ((y.val : Nat) : Int))) 3 ?hr ?_; (case hr => first | (go_simp; done) | (go_simp; rfl)); intro gl w11 G_gl B_gl HB11 K_gl KO11; have I11 := Aside0.mk (HW'.out.below (m' := W3.heap.size) K_gl.out (Nat.le_trans HW'.out.sz K_gl.out.size)); have b311 := b3.below K_gl.out; have R11 := Aside0.mk (row_below HROW.out K_gl.out))
            | ((with_reducible refine gate_dstIn (N := 33) rfl ?_); refine ev_appendAtIn HB11 rfl _ _ 23 3 (.int .i64 0) 1 8 rfl Tryd.underlying23 (by kernel_rfl) rfl (by decide) (by decide) v' _ _ rfl R11.out gl [.int .i64 (64 * (k : Int) + ((y.val : Nat) : Int))] rfl B_gl rfl (by simp [Value.oneCell']) HLEN.out ?_; intro v1 w12 hrow12 HB12 K12 KO12 AT12 FV1; have R12 := Aside0.mk hrow12; have V12 := Aside0.mk (row_one hrow12); have b312 := b311.appended (by decide) R11.out K12; clear hrow12; obtain ⟨g', cap', rfl⟩ := FV1.out)
            | ((with_reducible refine gate_In (Op.store 23 (.tmp 3) (.tmp 33)) rfl ?_); refine ev_store1In (i := 0) HB12 b312 GE_g3 rfl 23 _ _ rfl rfl _ rfl (by simp) (by kernel_rfl) rfl ?_; intro w13 B13 HB13 K13 KO13))
          have E5 := I11.out.b5.appended_ne HNE.out K12
          have E6 := I11.out.b6.appended (by decide) R11.out K12
          have ER := I11.out.br.appended (by decide) R11.out K12
          have N0 : v'.ownBlock ≠ some 0 := own_ne_lt R11.out PW.out
          have H12 := heap_appended I11.out.ht.pos N0 K12
          have T12 := I11.out.ht.heap H12
          have O3 : 0 < g3 := by have := GE_g3.out; have := PW.out; omega
          have H13 := K13.out.2 0 (by omega)
          have H11 := K_gl.out.block 0 HW'.out.ht.pos
          have N5 := own_ne_appended AT12 HNE.out I11.out.b5.lt
          refine ⟨((keepsOthers_below K_gl.out).trans (KO12.out.trans KO13.out)).from _, ⟨(H13.trans H12).trans H11, (H13.trans H12).trans H11, Nat.le_trans K_gl.out.size (Nat.le_trans K12.out.1 K13.out.1)⟩, ⟨_, B13, ?_, N5⟩, E5.other K13 (E5.ne b312 (by decide)), E6.other K13 (E6.ne b312 (by decide)), ER.other K13 (ER.ne b312 (by decide)), T12.other O3 K13, (I11.out.mk_.others KO12.out).others KO13.out, HB13, Nat.le_trans I11.out.sz (Nat.le_trans K12.out.1 K13.out.1)⟩
          have R13 := row_other R12.out b312 (by decide) K13
          have e1 : (idxL s (64 * k)).length + (pre ++ [y]).length = (idxL s (64 * k)).length + pre.length + 1 := by
            rw [List.length_append, List.length_singleton]
            omega
          have e2 : (idxL s (64 * k) ++ (pre ++ [y]).map fun x => (64 * (k : Int) + ((x.val : Nat) : Int))).map (Value.int .i64) = (idxL s (64 * k) ++ pre.map fun x => (64 * (k : Int) + ((x.val : Nat) : Int))).map (Value.int .i64) ++ [.int .i64 (64 * (k : Int) + ((y.val : Nat) : Int))] := by
            rw [List.map_append, List.map_append, List.map_append, List.map_append, ← List.append_assoc]
            rfl
          rw [e1, e2]
          exact R13
        case done =>
          rintro D ys W' hD rfl hI hK'
          have HDn : D ∉ Ds := fun c => by have := HP.out.1 D c; omega
          have HM' := Aside0.mk (hI.mk_.cons (Nat.le_trans HP.out.2 hD) hK' HDn)
          have hb1 : (k : Int) ≤ 17179869184 := by have := HLT.out; omega
          have hw1 : wrap64 ((k : Int) + 1) = (k : Int) + 1 := by unfold wrap64; omega
          have HI := Aside0.mk hI
          have b6 := hI.b6
          clear hI hK' hD HDn
          gi_wp2_with (first
            | ((with_reducible refine gate_dstIn (N := 34) rfl ?_); refine ev_loadSIn b6 rfl 66 _ rfl rfl Tryd.underlying66 rfl (by kernel_rfl) ?_)
            | (gi_at_call 53; refine (callsIn_of HF (EN.out _)).mono ?_; rintro e w9 ⟨rfl, hb9⟩; have HK9 := Aside0.mk hb9; clear hb9))
          have I9 := HI.out.below (m' := 0) HK9.out (Nat.zero_le _)
          obtain ⟨v', b3, hrow, _⟩ := I9.out
          have es := idxL_step s k
          have el := congrArg List.length es
          rw [List.length_append, List.length_map] at el
          rw [es, el] at hrow
          refine HKK.out (nw - (k + 1)) _ _ (by have := HLT.out; omega) ⟨k + 1, D :: Ds, _, E, _, _, _, _, _, _, _, _, _, _, _, _, _, _, _, _, _, _, _, _, _, _, _, _, _, _, _, _, _, rfl, by omega, by have := HLT.out; omega, rfl, ⟨fun hk1 => ?_⟩, ⟨v', b3, hrow⟩, ⟨fun _ => I9.br⟩, ⟨I9.ht⟩, ⟨HM'.out.below HK9.out⟩, I9.hb⟩
          rw [HE.out, car_next, if_pos]
          have := HNW.out
          unfold nwords at this
          omega
        case stop =>
          rintro D c pre W _ _ h _
          exact h.elim
      exact AllReadyL.nil
    exact AllReadyL.nil
  · have EK : k = nw := by omega
    subst hz11
    have hq1 : decide (k < nw) = false := decide_eq_false (by omega)
    have HI := Aside0.mk EK
    have HROW := Aside0.mk hrow
    clear EK hlt hk hrow
    gi_wp2
    refine leaves_marks Ds W HM.out fun A hsw => ⟨_, results_tmp rfl _ _ _, v, rfl, ?_, hsw.below (Nat.le_refl _) HB.out⟩
    have e1 : idxL s (64 * k) = idxL s s.size := by
      rw [idxL_all s (64 * k) (by rw [HI.out, HNW.out]; unfold nwords; omega), idxL_all s s.size (Nat.le_refl _)]
    rw [← e1]
    exact hsw.own HROW.out
theorem marks_Index.calls (a0 : ByteArray) (r : List Int) (w : World) (hT : TabOk w) (h : marks_Index.f a0 = some r) :
    Calls Tryd.prog 16 #[.string a0] w fun e w' => ∃ v : Value, e = .returned v ∧ Kd.R (Kd.int .i64) 3 w' w.heap.size (fun _ => True) v r ∧ Below w.heap.size w w' := by
  unfold marks_Index.f at h
  by_cases hs : a0.size ≤ 1099511627776
  case neg => rw [if_neg hs] at h; cases h
  rw [if_pos hs] at h
  simp only [Option.some.injEq] at h
  subst h
  refine (marks_Index.walk a0 w hT hs).mono ?_
  rintro e w' ⟨v, rfl, hrow, hb⟩
  exact ⟨v, rfl, Kd.R_of_own hrow (fun _ _ => trivial), hb⟩
end


/-! ### quarryref04_need: function 87 -/
def quarryref04_need.f (a0 : Int) : Option (Int) := if (Int.tmod a0 64) = 0 then (some (wrap64 (Int.tdiv a0 64))) else (some (wrap64 ((wrap64 (Int.tdiv a0 64)) + 1)))
set_option maxHeartbeats 8000000 in
set_option maxRecDepth 100000 in
theorem quarryref04_need.calls (a0 : Int) (r : Int) (w : World) (h : quarryref04_need.f a0 = some r) :
    Calls Tryd.prog 87 #[.int .i64 a0] w fun e w' => e = .returned (.int .i64 r) ∧ Drawn0 w w' := by
  have H : (if (Int.tmod a0 64) = 0 then (some (wrap64 (Int.tdiv a0 64))) else (some (wrap64 ((wrap64 (Int.tdiv a0 64)) + 1)))) = some r := h
  clear h
  by_cases c2 : (Int.tmod a0 64) = 0
  · rw [if_pos c2] at H
    have c2b0 : ((Int.tmod a0 64) == 0) = true := beq_iff_eq.mpr c2
    have c2b1 : ((Int.tmod a0 64) != 0) = false := bne_eq_false_iff_eq.mpr c2
    clear c2
    obtain rfl := Option.some.inj H
    go_enter Tryd.func87, Tryd.ntmps87
    go_wp2
    go_ret
    exact ⟨by first | rfl | (simp; done) | (simp [*]; done), by repeat (first | exact Drawn0.refl _ | apply Drawn0.step)⟩
  · rw [if_neg c2] at H
    have c2b0 : ((Int.tmod a0 64) == 0) = false := beq_eq_false_iff_ne.mpr c2
    have c2b1 : ((Int.tmod a0 64) != 0) = true := bne_iff_ne.mpr c2
    obtain rfl := Option.some.inj H
    go_enter Tryd.func87, Tryd.ntmps87
    go_wp2
    go_ret
    exact ⟨by first | rfl | (simp; done) | (simp [*]; done), by repeat (first | exact Drawn0.refl _ | apply Drawn0.step)⟩

/-! ### quarryref04_Of: function 60 -/
mutual
def quarryref04_Of.l0 : Nat → List Bool → Int → Int → List Int → Option (Int × List Int)
  | 0, _, _, _, _ => none
  | k + 1, x0, x4, x107000, x107001 => (quarryref04_need.f (x0.length : Int)).bind fun t107 => (if x4 < t107 then (quarryref04_Of.l1 k x0 x4 0 63 x107000 x107001) else (some (x107000, x107001)))
def quarryref04_Of.l1 : Nat → List Bool → Int → Int → Int → Int → List Int → Option (Int × List Int)
  | 0, _, _, _, _, _, _ => none
  | k + 1, x0, x4, x5, x6, x107000, x107001 => if x6 ≥ 0 then (if (wrap64 ((wrap64 (64 * x4)) + x6)) < (x0.length : Int) then (if 0 ≤ (wrap64 ((wrap64 (64 * x4)) + x6)) then (if rdOf false x0 (wrap64 ((wrap64 (64 * x4)) + x6)) = true then (quarryref04_Of.l1 k x0 x4 (IntKind.u64.wrap ((IntKind.u64.wrap (2 * x5)) + 1)) (wrap64 (x6 - 1)) x107000 x107001) else (quarryref04_Of.l1 k x0 x4 (IntKind.u64.wrap (2 * x5)) (wrap64 (x6 - 1)) x107000 x107001)) else (none)) else (quarryref04_Of.l1 k x0 x4 (IntKind.u64.wrap (2 * x5)) (wrap64 (x6 - 1)) x107000 x107001)) else (if x107001.length < 17592186044416 then (quarryref04_Of.l0 k x0 (wrap64 (x4 + 1)) x107000 (x107001 ++ [x5])) else (none))
end
def quarryref04_Of.f (k : Nat) (l0 : List Bool) : Option (Int × List Int) := quarryref04_Of.l0 k l0 0 (l0.length : Int) ([] : List Int)
theorem quarryref04_Of.mono_l : ∀ k, (∀ y0 y1 y2 y3, LeO (quarryref04_Of.l0 k y0 y1 y2 y3) (quarryref04_Of.l0 (k + 1) y0 y1 y2 y3)) ∧ (∀ y0 y1 y2 y3 y4 y5, LeO (quarryref04_Of.l1 k y0 y1 y2 y3 y4 y5) (quarryref04_Of.l1 (k + 1) y0 y1 y2 y3 y4 y5))
  | 0 => ⟨fun _ _ _ _ r h => by simp [quarryref04_Of.l0] at h, fun _ _ _ _ _ _ r h => by simp [quarryref04_Of.l1] at h⟩
  | k + 1 => by
    obtain ⟨ih0, ih1⟩ := quarryref04_Of.mono_l k
    refine ⟨?_, ?_⟩
    · intro y0 y1 y2 y3
      unfold quarryref04_Of.l0
      repeat' first
      | (with_reducible exact ih0 _ _ _ _)
      | (with_reducible exact ih1 _ _ _ _ _ _)
      | (with_reducible exact LeO.refl _)
      | (with_reducible exact LeO.none _)
      | (with_reducible refine LeO.ite ?_ ?_)
      | (with_reducible refine LeO.bind ?_ (fun _ => ?_))
      | exact ih0 _ _ _ _
      | exact ih1 _ _ _ _ _ _
      | exact LeO.none _
      | refine LeO.ite ?_ ?_
      | refine LeO.bind ?_ (fun _ => ?_)
    · intro y0 y1 y2 y3 y4 y5
      unfold quarryref04_Of.l1
      repeat' first
      | (with_reducible exact ih0 _ _ _ _)
      | (with_reducible exact ih1 _ _ _ _ _ _)
      | (with_reducible exact LeO.refl _)
      | (with_reducible exact LeO.none _)
      | (with_reducible refine LeO.ite ?_ ?_)
      | (with_reducible refine LeO.bind ?_ (fun _ => ?_))
      | exact ih0 _ _ _ _
      | exact ih1 _ _ _ _ _ _
      | exact LeO.none _
      | refine LeO.ite ?_ ?_
      | refine LeO.bind ?_ (fun _ => ?_)
theorem quarryref04_Of.mono : ∀ a0 k, LeO (quarryref04_Of.f k a0) (quarryref04_Of.f (k + 1) a0) := by
  intro a0 k
  obtain ⟨ih0, ih1⟩ := quarryref04_Of.mono_l k
  unfold quarryref04_Of.f
  repeat' first
      | (with_reducible exact ih0 _ _ _ _)
      | (with_reducible exact ih1 _ _ _ _ _ _)
      | (with_reducible exact LeO.refl _)
      | (with_reducible exact LeO.none _)
      | (with_reducible refine LeO.ite ?_ ?_)
      | (with_reducible refine LeO.bind ?_ (fun _ => ?_))
      | exact ih0 _ _ _ _
      | exact ih1 _ _ _ _ _ _
      | exact LeO.none _
      | refine LeO.ite ?_ ?_
      | refine LeO.bind ?_ (fun _ => ?_)
set_option maxHeartbeats 8000000 in
set_option maxRecDepth 100000 in
theorem quarryref04_Of.calls (k : Nat) (A0 : Option Addr) (c0 : Nat) (l0 : List Bool) (r1 : Int) (r2 : List Int) (w : World) (hr0 : Kd.C Kd.bool w A0 l0.length l0) (hc0 : l0.length ≤ c0) (h : quarryref04_Of.f k l0 = some (r1, r2)) :
    Calls Tryd.prog 60 #[.slice A0 l0.length c0] w fun e w' => ∃ v1_ : Value, e = .returned (.agg #[.int .i64 r1, v1_]) ∧ Kd.R (Kd.int .u64) 64 w' w.heap.size (fun _ => True) v1_ r2 ∧ Below w.heap.size w w' := by
  have hu38 := Tryd.underlying38
  have HR0 := Aside0.mk hr0
  have HC0 := Aside0.mk hc0
  clear hr0 hc0
  have HB := Aside0.mk (Below.refl w.heap.size w)
  have H : (quarryref04_Of.l0 k l0 0 (l0.length : Int) ([] : List Int)) = some (r1, r2) := h
  clear h
  have H' := Aside0.mk H
  clear H
  go_enter Tryd.func60, Tryd.ntmps60
  go_wp2_with (first | ((with_reducible refine gate_dst (N := 2) rfl ?_); refine box_event ?hg (N := 2) ?hd (cs := #[.int .i64 0, .slice none 0 0]) (t := 38) ?hr ?_; (case hd => rfl); (case hg => rfl); (case hr => first | (go_simp; done) | (go_simp; rfl)); intro gb105 hg w2 hbox hb; have n0_ := Aside0.mk (below_step (by repeat (first | (with_reducible first | exact HB.out | apply below_alloc | apply pw_below_drewN | apply below_drew1) | exact HB.out)) hb); have n1_ := Aside0.mk (hbox); have n2_ := Aside0.mk ((by rw [hg]; exact (below_size (by repeat (first | (with_reducible first | exact HB.out | apply below_alloc | apply pw_below_drewN | apply below_drew1) | exact HB.out))) : w.heap.size ≤ gb105)); have n3_ := Aside0.mk ((by rw [hg]; exact (below_size (by repeat (first | (with_reducible first | exact HB.out | apply below_alloc | apply pw_below_drewN | apply below_drew1) | exact HB.out))) : w.heap.size ≤ gb105)); clear HB; have HB := n0_; have BK105 := n1_; have GW105 := n2_; have GE105 := n3_; clear n0_ n1_ n2_ n3_; clear hb hbox hg) | ((with_reducible refine gate_dst (N := 3) rfl ?_); refine box_event ?hg (N := 3) ?hd (cs := #[.int .i64 0, .slice none 0 0]) (t := 38) ?hr ?_; (case hd => rfl); (case hg => rfl); (case hr => first | (go_simp; done) | (go_simp; rfl)); intro gb106 hg w3 hbox hb; have n0_ := Aside0.mk (blk_below (g := gb105) (o := .cells #[.int .i64 0, .slice none 0 0] 38 (0, 0)) (by (with_reducible repeat (first | refine blk_drewN ?_ _ | refine blk_drew ?_ | refine blk_alloc ?_ _)); exact BK105.out) hb); have n1_ := Aside0.mk (below_step (by repeat (first | (with_reducible first | exact HB.out | apply below_alloc | apply pw_below_drewN | apply below_drew1 | refine below_set ?_ GE105.out) | exact HB.out)) hb); have n2_ := Aside0.mk (hbox); have n3_ := Aside0.mk ((by rw [hg]; exact (below_size (by repeat (first | (with_reducible first | exact HB.out | apply below_alloc | apply pw_below_drewN | apply below_drew1 | refine below_set ?_ GE105.out) | exact HB.out))) : w.heap.size ≤ gb106)); have n4_ := Aside0.mk ((by rw [hg]; exact (below_size (by repeat (first | (with_reducible first | exact HB.out | apply below_alloc | apply pw_below_drewN | apply below_drew1 | refine below_set ?_ GE105.out) | exact HB.out))) : w.heap.size ≤ gb106)); have n5_ := Aside0.mk ((by rw [hg]; exact Nat.ne_of_lt (blk_lt (g := gb105) (o := .cells #[.int .i64 0, .slice none 0 0] 38 (0, 0)) (by (with_reducible repeat (first | refine blk_drewN ?_ _ | refine blk_drew ?_ | refine blk_alloc ?_ _)); exact BK105.out)) : gb105 ≠ gb106)); have n6_ := Aside0.mk ((by rw [hg]; exact Nat.ne_of_gt (blk_lt (g := gb105) (o := .cells #[.int .i64 0, .slice none 0 0] 38 (0, 0)) (by (with_reducible repeat (first | refine blk_drewN ?_ _ | refine blk_drew ?_ | refine blk_alloc ?_ _)); exact BK105.out)) : gb106 ≠ gb105)); clear BK105; clear HB; have BK105 := n0_; have HB := n1_; have BK106 := n2_; have GW106 := n3_; have GE106 := n4_; have NB105_106 := n5_; have NB106_105 := n6_; clear n0_ n1_ n2_ n3_ n4_ n5_ n6_; clear hb hbox hg; have hnb4 := NB106_105.out; have hnc4 := NB105_106.out; have hcz5_0 : w3.cell? ⟨gb106, 0, none⟩ = some (.int .i64 0) := (blk_cell BK106.out 0).trans rfl; have hcz5_1 : w3.cell? ⟨gb106, 1, none⟩ = some (.slice none 0 0) := (blk_cell BK106.out 1).trans rfl; have hfz5_0 := blk_frozen BK106.out 0; have hfz5_1 := blk_frozen BK106.out 1))
  go_loopg [4] k (fun kq v4 w' => ∃ (x4_1 : Int) (x107001_1 : List Int) (u107001 : Value), v4 = .int .i64 x4_1 ∧ Aside0 (quarryref04_Of.l0 kq l0 x4_1 (l0.length : Int) x107001_1 = some (r1, r2)) ∧ Aside0 (kq ≤ k) ∧ Aside0 (Kd.R (Kd.int .u64) 64 w' w.heap.size (fun _ => True) u107001 x107001_1) ∧ Aside0 (w'.heap[gb105]? = some (.cells #[.int .i64 0, (.slice none 0 0)] 38 (0, 0))) ∧ Aside0 (w'.heap[gb106]? = some (.cells #[.int .i64 (l0.length : Int), u107001] 38 (0, 0))) ∧ Aside0 (Below w.heap.size w w'))
  case atStart => exact ⟨(0), (([] : List Int)), (.slice none 0 0), (by first | rfl | (simp; done) | (simp [*]; done)), H', ⟨Nat.le_refl _⟩, ⟨by first | exact Kd.R_nil _ _ _ _ _ | exact Kd.N_nil _ _ _ _ _ | exact Kd.V_nil _ _ _ _ _ | exact Kd.Q_nil _ _ _ _ _ | exact Kd.S_nil _ _ _ _ _⟩, ⟨by (with_reducible repeat (first | refine blk_drewN ?_ _ | refine blk_drew ?_ | refine blk_alloc ?_ _)); refine blk_far ?_ NB105_106.out _; (with_reducible repeat (first | refine blk_drewN ?_ _ | refine blk_drew ?_ | refine blk_alloc ?_ _)); refine blk_far ?_ NB105_106.out _; (with_reducible repeat (first | refine blk_drewN ?_ _ | refine blk_drew ?_ | refine blk_alloc ?_ _)); exact BK105.out⟩, ⟨by (with_reducible repeat (first | refine blk_drewN ?_ _ | refine blk_drew ?_ | refine blk_alloc ?_ _)); refine blk_put (cs := #[.int .i64 (l0.length : Int), .slice none 0 0]) ?_ 1 _ rfl; (with_reducible repeat (first | refine blk_drewN ?_ _ | refine blk_drew ?_ | refine blk_alloc ?_ _)); refine blk_put (cs := #[.int .i64 0, .slice none 0 0]) ?_ 0 _ rfl; (with_reducible repeat (first | refine blk_drewN ?_ _ | refine blk_drew ?_ | refine blk_alloc ?_ _)); exact BK106.out⟩, ⟨by repeat (first | (with_reducible first | exact HB.out | apply below_alloc | apply pw_below_drewN | apply below_drew1 | refine below_set ?_ GE105.out | refine below_set ?_ GE106.out) | exact HB.out)⟩⟩
  case round =>
    clear H'
    try clear p2
    try clear c4
    try clear hcz5_0
    try clear hcz5_1
    try clear hfz5_0
    try clear hfz5_1
    obtain ⟨x4_1, x107001_1, u107001, rfl, HA, HK1, HO_107001, BK105, BK106, HB⟩ := hrel
    cases gk with
    | zero => exact absurd HA.out (by simp [quarryref04_Of.l0])
    | succ k1 =>
      have H := HA.out
      clear HA
      simp only [quarryref04_Of.l0] at H
      replace H := Option.bind_eq_some_iff.mp H
      obtain ⟨t107, A60, H⟩ := H
      replace H : (if x4_1 < t107 then (quarryref04_Of.l1 k1 l0 x4_1 0 63 (l0.length : Int) x107001_1) else (some ((l0.length : Int), x107001_1))) = some (r1, r2) := H
      have A6 := Aside0.mk A60
      clear A60
      by_cases c7 : x4_1 < t107
      · rw [if_pos c7] at H
        have c7b0 : decide (x4_1 < t107) = true := decide_eq_true c7
        clear c7
        have H' := Aside0.mk H
        clear H
        go_wp2_with (first | ((with_reducible refine gate_callee (f := 87) rfl ?_); refine goesL_ (some 13) rfl rfl Tryd.func87 (by kernel_rfl) rfl #[.int .i64 (l0.length : Int)] rfl (by (try simp only [List.map_toArray, List.map_cons, List.map_nil]); first | done | rfl | (simp only [List.length_drop, List.length_take]; rfl)) ?_; (with_reducible refine (quarryref04_need.calls (l0.length : Int) t107 _ A6.out).mono ?_); rintro e w' ⟨rfl, ⟨nd, rfl⟩⟩; refine ⟨_, rfl, ?_⟩))
        go_loopg [5, 6] k1 (fun kq v5 v6 w' => ∃ (x5_2 : Int) (x6_2 : Int), v5 = .int .u64 x5_2 ∧ v6 = .int .i64 x6_2 ∧ Aside0 (quarryref04_Of.l1 kq l0 x4_1 x5_2 x6_2 (l0.length : Int) x107001_1 = some (r1, r2)) ∧ Aside0 (kq ≤ k1) ∧ Aside0 (Kd.R (Kd.int .u64) 64 w' w.heap.size (fun _ => True) u107001 x107001_1) ∧ Aside0 (w'.heap[gb105]? = some (.cells #[.int .i64 0, (.slice none 0 0)] 38 (0, 0))) ∧ Aside0 (w'.heap[gb106]? = some (.cells #[.int .i64 (l0.length : Int), u107001] 38 (0, 0))) ∧ Aside0 (Below w.heap.size w w'))
        case atStart => exact ⟨(0), (63), (by first | rfl | (simp; done) | (simp [*]; done)), (by first | rfl | (simp; done) | (simp [*]; done)), H', ⟨Nat.le_refl _⟩, ⟨by (with_reducible repeat (first | apply Kd.R_alloc | apply Kd.R_drewN | apply Kd.R_drew)); exact HO_107001.out⟩, ⟨by (with_reducible repeat (first | refine blk_drewN ?_ _ | refine blk_drew ?_ | refine blk_alloc ?_ _)); exact BK105.out⟩, ⟨by (with_reducible repeat (first | refine blk_drewN ?_ _ | refine blk_drew ?_ | refine blk_alloc ?_ _)); exact BK106.out⟩, ⟨by repeat (first | (with_reducible first | exact HB.out | apply below_alloc | apply pw_below_drewN | apply below_drew1 | refine below_set ?_ GE105.out | refine below_set ?_ GE106.out) | exact HB.out)⟩⟩
        case round =>
          clear H'
          try clear p2
          try clear c4
          try clear c6
          try clear c7
          try clear c7b0
          try clear hcz5_0
          try clear hcz5_1
          try clear hfz5_0
          try clear hfz5_1
          try clear p2
          obtain ⟨x5_2, x6_2, rfl, rfl, HA, HK2, HO_107001, BK105, BK106, HB⟩ := hrel
          cases gk with
          | zero => exact absurd HA.out (by simp [quarryref04_Of.l1])
          | succ k2 =>
            have H := HA.out
            clear HA
            simp only [quarryref04_Of.l1] at H
            by_cases c8 : x6_2 ≥ 0
            · rw [if_pos c8] at H
              have c8b0 : decide (0 ≤ x6_2) = true := decide_eq_true c8
              clear c8
              by_cases c9 : (wrap64 ((wrap64 (64 * x4_1)) + x6_2)) < (l0.length : Int)
              · rw [if_pos c9] at H
                have c9b0 : decide ((wrap64 ((wrap64 (64 * x4_1)) + x6_2)) < (l0.length : Int)) = true := decide_eq_true c9
                clear c9
                obtain ⟨ji10, hji10⟩ : ∃ j_ : Int, (wrap64 ((wrap64 (64 * x4_1)) + x6_2)) = j_ := ⟨_, rfl⟩
                replace H : (if 0 ≤ (ji10) then (if rdOf false l0 (ji10) = true then (quarryref04_Of.l1 k2 l0 x4_1 (IntKind.u64.wrap ((IntKind.u64.wrap (2 * x5_2)) + 1)) (wrap64 (x6_2 - 1)) (l0.length : Int) x107001_1) else (quarryref04_Of.l1 k2 l0 x4_1 (IntKind.u64.wrap (2 * x5_2)) (wrap64 (x6_2 - 1)) (l0.length : Int) x107001_1)) else (none)) = some (r1, r2) := by first | (rw [hji10] at H; exact H) | (simp only [hji10] at H ⊢; exact H)
                (try rw [hji10] at c9b0)
                have hji10w : (IntKind.i64.wrap ((wrap64 (64 * x4_1)) + x6_2)) = ji10 := (i64_w _).trans hji10
                by_cases c11 : 0 ≤ (ji10)
                · rw [if_pos c11] at H
                  have c11b0 : decide (0 ≤ (ji10)) = true := decide_eq_true c11
                  clear c11
                  obtain ⟨bq12, hbq12⟩ : ∃ b_ : Bool, b_ = (rdOf false l0 (ji10)) := ⟨_, rfl⟩
                  replace H : (if bq12 = true then (quarryref04_Of.l1 k2 l0 x4_1 (IntKind.u64.wrap ((IntKind.u64.wrap (2 * x5_2)) + 1)) (wrap64 (x6_2 - 1)) (l0.length : Int) x107001_1) else (quarryref04_Of.l1 k2 l0 x4_1 (IntKind.u64.wrap (2 * x5_2)) (wrap64 (x6_2 - 1)) (l0.length : Int) x107001_1)) = some (r1, r2) := by rw [← hbq12] at H; exact H
                  have Nbq12 := Aside0.mk hbq12
                  clear hbq12
                  by_cases c13 : bq12 = true
                  · subst c13
                    have H1 : (quarryref04_Of.l1 k2 l0 x4_1 (IntKind.u64.wrap ((IntKind.u64.wrap (2 * x5_2)) + 1)) (wrap64 (x6_2 - 1)) (l0.length : Int) x107001_1) = some (r1, r2) := by rw [if_pos rfl] at H; exact H
                    clear H
                    have H := H1
                    clear H1
                    have H' := Aside0.mk H
                    clear H
                    have p108 : 0 ≤ ((ji10) : Int) := of_decide_eq_true (by first | (with_reducible assumption) | assumption)
                    have q108 : (ji10) < (l0.length : Int) := of_decide_eq_true (by first | (with_reducible assumption) | assumption)
                    obtain ⟨ad108, e108, hx108_0⟩ := Kd.at_bool HR0.out (ji10) p108 q108
                    (try rw [← Nbq12.out] at hx108_0)
                    cases e108
                    replace hx108_0 := (HB.out.cell (World.block_lt_of_cell? w _ hx108_0)).trans hx108_0
                    replace p108 := eq_true p108
                    replace q108 := eq_true q108
                    go_wp2
                    go_roundg k2
                    case measure => have := HK1.out; have := HK2.out; omega
                    case rel => exact ⟨(IntKind.u64.wrap ((IntKind.u64.wrap (2 * x5_2)) + 1)), (wrap64 (x6_2 - 1)), (by first | rfl | (simp; done) | (simp [*]; done)), (by first | rfl | (simp; done) | (simp [*]; done)), H', ⟨by have := HK1.out; have := HK2.out; omega⟩, ⟨by (with_reducible repeat (first | apply Kd.R_alloc | apply Kd.R_drewN | apply Kd.R_drew)); exact HO_107001.out⟩, ⟨by (with_reducible repeat (first | refine blk_drewN ?_ _ | refine blk_drew ?_ | refine blk_alloc ?_ _)); exact BK105.out⟩, ⟨by (with_reducible repeat (first | refine blk_drewN ?_ _ | refine blk_drew ?_ | refine blk_alloc ?_ _)); exact BK106.out⟩, ⟨by repeat (first | (with_reducible first | exact HB.out | apply below_alloc | apply pw_below_drewN | apply below_drew1 | refine below_set ?_ GE105.out | refine below_set ?_ GE106.out) | exact HB.out)⟩⟩
                  · replace c13 := Bool.eq_false_iff.mpr c13
                    subst c13
                    have H1 : (quarryref04_Of.l1 k2 l0 x4_1 (IntKind.u64.wrap (2 * x5_2)) (wrap64 (x6_2 - 1)) (l0.length : Int) x107001_1) = some (r1, r2) := by rw [if_neg (show ¬ (false = true) by decide)] at H; exact H
                    clear H
                    have H := H1
                    clear H1
                    have H' := Aside0.mk H
                    clear H
                    have p108 : 0 ≤ ((ji10) : Int) := of_decide_eq_true (by first | (with_reducible assumption) | assumption)
                    have q108 : (ji10) < (l0.length : Int) := of_decide_eq_true (by first | (with_reducible assumption) | assumption)
                    obtain ⟨ad108, e108, hx108_0⟩ := Kd.at_bool HR0.out (ji10) p108 q108
                    (try rw [← Nbq12.out] at hx108_0)
                    cases e108
                    replace hx108_0 := (HB.out.cell (World.block_lt_of_cell? w _ hx108_0)).trans hx108_0
                    replace p108 := eq_true p108
                    replace q108 := eq_true q108
                    go_wp2
                    go_roundg k2
                    case measure => have := HK1.out; have := HK2.out; omega
                    case rel => exact ⟨(IntKind.u64.wrap (2 * x5_2)), (wrap64 (x6_2 - 1)), (by first | rfl | (simp; done) | (simp [*]; done)), (by first | rfl | (simp; done) | (simp [*]; done)), H', ⟨by have := HK1.out; have := HK2.out; omega⟩, ⟨by (with_reducible repeat (first | apply Kd.R_alloc | apply Kd.R_drewN | apply Kd.R_drew)); exact HO_107001.out⟩, ⟨by (with_reducible repeat (first | refine blk_drewN ?_ _ | refine blk_drew ?_ | refine blk_alloc ?_ _)); exact BK105.out⟩, ⟨by (with_reducible repeat (first | refine blk_drewN ?_ _ | refine blk_drew ?_ | refine blk_alloc ?_ _)); exact BK106.out⟩, ⟨by repeat (first | (with_reducible first | exact HB.out | apply below_alloc | apply pw_below_drewN | apply below_drew1 | refine below_set ?_ GE105.out | refine below_set ?_ GE106.out) | exact HB.out)⟩⟩
                · rw [if_neg c11] at H
                  exact absurd H (by simp)
              · rw [if_neg c9] at H
                have c9b0 : decide ((wrap64 ((wrap64 (64 * x4_1)) + x6_2)) < (l0.length : Int)) = false := decide_eq_false c9
                clear c9
                have H' := Aside0.mk H
                clear H
                go_wp2
                go_roundg k2
                case measure => have := HK1.out; have := HK2.out; omega
                case rel => exact ⟨(IntKind.u64.wrap (2 * x5_2)), (wrap64 (x6_2 - 1)), (by first | rfl | (simp; done) | (simp [*]; done)), (by first | rfl | (simp; done) | (simp [*]; done)), H', ⟨by have := HK1.out; have := HK2.out; omega⟩, ⟨by (with_reducible repeat (first | apply Kd.R_alloc | apply Kd.R_drewN | apply Kd.R_drew)); exact HO_107001.out⟩, ⟨by (with_reducible repeat (first | refine blk_drewN ?_ _ | refine blk_drew ?_ | refine blk_alloc ?_ _)); exact BK105.out⟩, ⟨by (with_reducible repeat (first | refine blk_drewN ?_ _ | refine blk_drew ?_ | refine blk_alloc ?_ _)); exact BK106.out⟩, ⟨by repeat (first | (with_reducible first | exact HB.out | apply below_alloc | apply pw_below_drewN | apply below_drew1 | refine below_set ?_ GE105.out | refine below_set ?_ GE106.out) | exact HB.out)⟩⟩
            · rw [if_neg c8] at H
              have c8b0 : decide (0 ≤ x6_2) = false := decide_eq_false c8
              clear c8
              by_cases c14 : x107001_1.length < 17592186044416
              · rw [if_pos c14] at H
                have LMc14 := Aside0.mk c14
                clear c14
                obtain ⟨y109, hy109⟩ : ∃ y_ : List Int, y_ = (x107001_1 ++ [x5_2]) := ⟨_, rfl⟩
                replace H : (quarryref04_Of.l0 k2 l0 (wrap64 (x4_1 + 1)) (l0.length : Int) y109) = some (r1, r2) := by first | (rw [hy109]; with_reducible exact H) | (have H2_ := (Option.bind_some _ _).symm.trans H; rw [hy109]; with_reducible exact H2_) | (have H2_ := (Option.bind_some _ _).symm.trans H; with_reducible exact H2_) | with_reducible exact H | (rw [hy109]; exact H) | exact H
                have Ny109 := Aside0.mk hy109
                clear hy109
                have H' := Aside0.mk H
                clear H
                have hnb15 := NB106_105.out
                have hnc15 := NB105_106.out
                have hcz16_0 : wr.cell? ⟨gb106, 0, none⟩ = some (.int .i64 (l0.length : Int)) := (blk_cell BK106.out 0).trans rfl
                have hcz16_1 : wr.cell? ⟨gb106, 1, none⟩ = some (u107001) := (blk_cell BK106.out 1).trans rfl
                have hfz16_0 := blk_frozen BK106.out 0
                have hfz16_1 := blk_frozen BK106.out 1
                go_wp2_with (first | ((with_reducible refine gate_builtin (b := .append) (xs := #[.tmp 42, .tmp 44]) rfl ?_); at_builtin; refine Kd.R_append (Kd.int .u64) (w0 := w) w.heap.size rfl (.tmp 42) (.tmp 44) 36 64 (.int .u64 0) 8 rfl Tryd.underlying36 info64 rfl (by decide) (by omega) u107001 x107001_1 x5_2 [.int .u64 x5_2] (fun _ => True) (fun _ => False) rfl rfl ?aP (fun _ hk => hk.elim) ?aF ?aO ?aB ?aS ?aL ?_; (case aP => exact rfl); (case aB => exact (by repeat (first | (with_reducible first | exact HB.out | apply below_alloc | apply pw_below_drewN | apply below_drew1 | refine below_set ?_ GE105.out | refine below_set ?_ GE106.out) | exact HB.out))); (case aF => exact (fun _ _ => trivial)); (case aO => exact (by (with_reducible repeat (first | apply Kd.R_alloc | apply Kd.R_drewN | apply Kd.R_drew)); exact HO_107001.out)); (case aS => exact (below_size (by repeat (first | (with_reducible first | exact HB.out | apply below_alloc | apply pw_below_drewN | apply below_drew1 | refine below_set ?_ GE105.out | refine below_set ?_ GE106.out) | exact HB.out)))); (case aL => have := LMc14.out; omega); intro v110 w17 ho hb hg hat; rw [← Ny109.out] at ho; have n0_ := Aside0.mk (blk_grown (g := gb105) (o := .cells #[.int .i64 0, .slice none 0 0] 38 (0, 0)) (by (with_reducible repeat (first | refine blk_drewN ?_ _ | refine blk_drew ?_ | refine blk_alloc ?_ _)); exact BK105.out) hg (Kd.R_ne HO_107001.out BK105.out (by decide))); have n1_ := Aside0.mk (blk_grown (g := gb106) (o := .cells #[.int .i64 (l0.length : Int), u107001] 38 (0, 0)) (by (with_reducible repeat (first | refine blk_drewN ?_ _ | refine blk_drew ?_ | refine blk_alloc ?_ _)); exact BK106.out) hg (Kd.R_ne HO_107001.out BK106.out (by decide))); have n2_ := Aside0.mk (hb); have n3_ := Aside0.mk (ho); clear BK105; clear BK106; clear HB; clear HO_107001; have BK105 := n0_; have BK106 := n1_; have HB := n2_; have HO111 := n3_; clear n0_ n1_ n2_ n3_; clear ho hb hg hat; obtain ⟨Ao18, co18, eo18⟩ := Kd.R_slice HO111.out; subst eo18; have hcz19_0 : w17.cell? ⟨gb106, 0, none⟩ = some (.int .i64 (l0.length : Int)) := (blk_cell BK106.out 0).trans rfl; have hcz19_1 : w17.cell? ⟨gb106, 1, none⟩ = some (u107001) := (blk_cell BK106.out 1).trans rfl; have hfz19_0 := blk_frozen BK106.out 0; have hfz19_1 := blk_frozen BK106.out 1))
                go_roundg k2
                case measure => have := HK1.out; have := HK2.out; omega
                case rel => exact ⟨(wrap64 (x4_1 + 1)), (y109), (.slice Ao18 y109.length co18), (by first | rfl | (simp; done) | (simp [*]; done)), H', ⟨by have := HK1.out; have := HK2.out; omega⟩, ⟨by (with_reducible repeat (first | apply Kd.R_alloc | apply Kd.R_drewN | apply Kd.R_drew)); exact Kd.R_mono (Kd.R_far (p := ⟨gb106, 1, none⟩) (Kd.R_types HO111.out BK106.out (by decide)) (fun _ hk => hk.2) (.slice Ao18 y109.length co18)) (fun _ hk => trivial)⟩, ⟨by (with_reducible repeat (first | refine blk_drewN ?_ _ | refine blk_drew ?_ | refine blk_alloc ?_ _)); refine blk_far ?_ NB105_106.out _; (with_reducible repeat (first | refine blk_drewN ?_ _ | refine blk_drew ?_ | refine blk_alloc ?_ _)); exact BK105.out⟩, ⟨by (with_reducible repeat (first | refine blk_drewN ?_ _ | refine blk_drew ?_ | refine blk_alloc ?_ _)); refine blk_put (cs := #[.int .i64 (l0.length : Int), u107001]) ?_ 1 _ rfl; (with_reducible repeat (first | refine blk_drewN ?_ _ | refine blk_drew ?_ | refine blk_alloc ?_ _)); exact BK106.out⟩, ⟨by repeat (first | (with_reducible first | exact HB.out | apply below_alloc | apply pw_below_drewN | apply below_drew1 | refine below_set ?_ GE105.out | refine below_set ?_ GE106.out) | exact HB.out)⟩⟩
              · rw [if_neg c14] at H
                exact absurd H (by simp)
      · rw [if_neg c7] at H
        have c7b0 : decide (x4_1 < t107) = false := decide_eq_false c7
        clear c7
        simp only [Option.some.injEq, Prod.mk.injEq] at H
        obtain ⟨rfl, rfl⟩ := H
        go_wp2_with (first | ((with_reducible refine gate_callee (f := 87) rfl ?_); refine goesL_ (some 13) rfl rfl Tryd.func87 (by kernel_rfl) rfl #[.int .i64 (l0.length : Int)] rfl (by (try simp only [List.map_toArray, List.map_cons, List.map_nil]); first | done | rfl | (simp only [List.length_drop, List.length_take]; rfl)) ?_; (with_reducible refine (quarryref04_need.calls (l0.length : Int) t107 _ A6.out).mono ?_); rintro e w' ⟨rfl, ⟨nd, rfl⟩⟩; refine ⟨_, rfl, ?_⟩; (try (rw [drewN_self wr]; generalize hq_ : World.drewN wr _ = wr; have n0_ : Aside0 (Kd.R (Kd.int .u64) 64 wr w.heap.size (fun _ => True) u107001 x107001_1) := ⟨by rw [← hq_]; exact (by (with_reducible repeat (first | apply Kd.R_alloc | apply Kd.R_drewN | apply Kd.R_drew)); exact HO_107001.out)⟩; have n1_ : Aside0 (wr.heap[gb105]? = some (.cells #[.int .i64 0, .slice none 0 0] 38 (0, 0))) := ⟨by rw [← hq_]; exact (by (with_reducible repeat (first | refine blk_drewN ?_ _ | refine blk_drew ?_ | refine blk_alloc ?_ _)); exact BK105.out)⟩; have n2_ : Aside0 (wr.heap[gb106]? = some (.cells #[.int .i64 (l0.length : Int), u107001] 38 (0, 0))) := ⟨by rw [← hq_]; exact (by (with_reducible repeat (first | refine blk_drewN ?_ _ | refine blk_drew ?_ | refine blk_alloc ?_ _)); exact BK106.out)⟩; have n3_ : Aside0 (Below w.heap.size w wr) := ⟨by rw [← hq_]; exact (by repeat (first | (with_reducible first | exact HB.out | apply below_alloc | apply pw_below_drewN | apply below_drew1 | refine below_set ?_ GE105.out | refine below_set ?_ GE106.out) | exact HB.out))⟩; clear HO_107001 BK105 BK106 HB hq_; have HO_107001 := n0_; have BK105 := n1_; have BK106 := n2_; have HB := n3_; clear n0_ n1_ n2_ n3_)); have hnb20 := NB106_105.out; have hnc20 := NB105_106.out; have hcz21_0 : wr.cell? ⟨gb106, 0, none⟩ = some (.int .i64 (l0.length : Int)) := (blk_cell BK106.out 0).trans rfl; have hcz21_1 : wr.cell? ⟨gb106, 1, none⟩ = some (u107001) := (blk_cell BK106.out 1).trans rfl; have hfz21_0 := blk_frozen BK106.out 0; have hfz21_1 := blk_frozen BK106.out 1; have hcz22_0 : wr.cell? ⟨gb105, 0, none⟩ = some (.int .i64 0) := (blk_cell BK105.out 0).trans rfl; have hcz22_1 : wr.cell? ⟨gb105, 1, none⟩ = some (.slice none 0 0) := (blk_cell BK105.out 1).trans rfl; have hfz22_0 := blk_frozen BK105.out 0; have hfz22_1 := blk_frozen BK105.out 1; obtain ⟨Ao23, co23, eo23⟩ := Kd.R_slice HO_107001.out; subst eo23))
        refine bodyPost_ret (results_cell_row rfl _ _ gb105 38 #[.int .i64 (l0.length : Int), .slice Ao23 x107001_1.length co23] (0, 0) _ rfl (by (with_reducible repeat (first | refine blk_drewN ?_ _ | refine blk_drew ?_ | refine blk_alloc ?_ _)); refine blk_put (cs := #[.int .i64 (l0.length : Int), .slice none 0 0]) ?_ 1 _ rfl; (with_reducible repeat (first | refine blk_drewN ?_ _ | refine blk_drew ?_ | refine blk_alloc ?_ _)); refine blk_put (cs := #[.int .i64 0, .slice none 0 0]) ?_ 0 _ rfl; (with_reducible repeat (first | refine blk_drewN ?_ _ | refine blk_drew ?_ | refine blk_alloc ?_ _)); exact BK105.out) Tryd.underlying38 rfl (by kernel_rfl)) rfl ?_
        exact ⟨_, by first | rfl | (simp [errW_none, errW_some] <;> rfl) | (simp [*, errW_none, errW_some] <;> rfl), by (with_reducible repeat (first | apply Kd.R_alloc | apply Kd.R_drewN | apply Kd.R_drew)); exact Kd.R_mono (Kd.R_far (p := ⟨gb105, 1, none⟩) (Kd.R_far (p := ⟨gb105, 0, none⟩) (Kd.R_types HO_107001.out BK105.out (by decide)) (fun _ hk => hk.2) (.int .i64 (l0.length : Int))) (fun _ hk => hk.2) (.slice Ao23 x107001_1.length co23)) (fun _ hk => trivial), by repeat (first | (with_reducible first | exact HB.out | apply below_alloc | apply pw_below_drewN | apply below_drew1 | refine below_set ?_ GE105.out | refine below_set ?_ GE106.out) | exact HB.out)⟩

end Go.Proofs.YtadcgjmhhodnoaaDoor.PI
