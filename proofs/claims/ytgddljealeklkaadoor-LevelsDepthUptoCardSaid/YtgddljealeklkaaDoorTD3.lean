/- Parts of a claim (TD), packed by a program (pack.py) out of the texts that it names. -/
import Derived.Test.YtgddljealeklkaaDoorTD2
-- PLx4
section
namespace Go.Proofs.YtgddljealeklkaaDoor.PL
open Go.RowKit Go.Proofs.YtgddljealeklkaaDoorW.PrintWords Go.Proofs.YtgddljealeklkaaDoorW.PrintLast Go.Proofs.YtgddljealeklkaaDoorW.PrintMore
attribute [local go_sem] max2_int min2_int max_two min_two max_three min_three max_four min_four   -- for this text's walks alone
set_option linter.unusedVariables false
set_option linter.unusedSimpArgs false

def marks_rows_ends.f (a0_0 : Int) (a0_1 : Int) (a0_2 : Int) (a0_3 : Int) : Option (Bool) := some ((a0_3 / 9223372036854775808) == 1)
set_option maxHeartbeats 8000000 in
set_option maxRecDepth 100000 in
theorem marks_rows_ends.calls (a0_0 : Int) (a0_1 : Int) (a0_2 : Int) (a0_3 : Int) (r : Bool) (w : World) (h : marks_rows_ends.f a0_0 a0_1 a0_2 a0_3 = some r) :
    Calls Tryd.prog 59 #[.agg #[.int .u64 a0_0, .int .u64 a0_1, .int .u64 a0_2, .int .u64 a0_3]] w fun e w' => e = .returned (.bool r) ∧ Below w.heap.size w w' := by
  have hu77 := Tryd.underlying77
  have HB := Aside0.mk (Below.refl w.heap.size w)
  have H : (some ((a0_3 / 9223372036854775808) == 1)) = some r := h
  clear h
  obtain rfl := Option.some.inj H
  go_enter Tryd.func59, Tryd.ntmps59
  go_wp2_with (first | ((with_reducible refine gate_dst (N := 1) rfl ?_); refine box_event ?hg (N := 1) ?hd (cs := #[.int .u64 a0_0, .int .u64 a0_1, .int .u64 a0_2, .int .u64 a0_3]) (t := 77) ?hr ?_; (case hd => rfl); (case hg => rfl); (case hr => first | (go_simp; done) | (go_simp; rfl)); intro gb107 hg w2 hbox hb; have n0_ := Aside0.mk (below_step (by repeat (first | (with_reducible first | exact HB.out | apply below_alloc | apply pw_below_drewN | apply below_drew1) | exact HB.out)) hb); have n1_ := Aside0.mk (hbox); have n2_ := Aside0.mk ((by rw [hg]; exact (below_size (by repeat (first | (with_reducible first | exact HB.out | apply below_alloc | apply pw_below_drewN | apply below_drew1) | exact HB.out))) : w.heap.size ≤ gb107)); have n3_ := Aside0.mk ((by rw [hg]; exact (below_size (by repeat (first | (with_reducible first | exact HB.out | apply below_alloc | apply pw_below_drewN | apply below_drew1) | exact HB.out))) : w.heap.size ≤ gb107)); clear HB; have HB := n0_; have BK107 := n1_; have GW107 := n2_; have GE107 := n3_; clear n0_ n1_ n2_ n3_; clear hb hbox hg; have hcz3_0 : w2.cell? ⟨gb107, 0, none⟩ = some (.int .u64 a0_0) := (blk_cell BK107.out 0).trans rfl; have hcz3_1 : w2.cell? ⟨gb107, 1, none⟩ = some (.int .u64 a0_1) := (blk_cell BK107.out 1).trans rfl; have hcz3_2 : w2.cell? ⟨gb107, 2, none⟩ = some (.int .u64 a0_2) := (blk_cell BK107.out 2).trans rfl; have hcz3_3 : w2.cell? ⟨gb107, 3, none⟩ = some (.int .u64 a0_3) := (blk_cell BK107.out 3).trans rfl; have hfz3_0 := blk_frozen BK107.out 0; have hfz3_1 := blk_frozen BK107.out 1; have hfz3_2 := blk_frozen BK107.out 2; have hfz3_3 := blk_frozen BK107.out 3))
  go_ret
  exact ⟨by first | rfl | (simp [errW_none, errW_some] <;> rfl) | (simp [*, errW_none, errW_some] <;> rfl), by repeat (first | (with_reducible first | exact HB.out | apply below_alloc | apply pw_below_drewN | apply below_drew1 | refine below_set ?_ GE107.out) | exact HB.out)⟩

def marks_rows_starts.f (a0_0 : Int) (a0_1 : Int) (a0_2 : Int) (a0_3 : Int) (a1 : Bool) : Option (Int) := if a1 = true then (some (Go.bits .andNot .u64 a0_3 (Go.bits .or .u64 (IntKind.u64.wrap (a0_3 * 2)) 1))) else (some (Go.bits .andNot .u64 a0_3 (IntKind.u64.wrap (a0_3 * 2))))
set_option maxHeartbeats 8000000 in
set_option maxRecDepth 100000 in
theorem marks_rows_starts.calls (a0_0 : Int) (a0_1 : Int) (a0_2 : Int) (a0_3 : Int) (a1 : Bool) (r : Int) (w : World) (h : marks_rows_starts.f a0_0 a0_1 a0_2 a0_3 a1 = some r) :
    Calls Tryd.prog 60 #[.agg #[.int .u64 a0_0, .int .u64 a0_1, .int .u64 a0_2, .int .u64 a0_3], .bool a1] w fun e w' => e = .returned (.int .u64 r) ∧ Below w.heap.size w w' := by
  have hu77 := Tryd.underlying77
  have HB := Aside0.mk (Below.refl w.heap.size w)
  have H : (if a1 = true then (some (Go.bits .andNot .u64 a0_3 (Go.bits .or .u64 (IntKind.u64.wrap (a0_3 * 2)) 1))) else (some (Go.bits .andNot .u64 a0_3 (IntKind.u64.wrap (a0_3 * 2))))) = some r := h
  clear h
  by_cases c3 : a1 = true
  · subst c3
    have H1 : (some (Go.bits .andNot .u64 a0_3 (Go.bits .or .u64 (IntKind.u64.wrap (a0_3 * 2)) 1))) = some r := by rw [if_pos rfl] at H; exact H
    clear H
    have H := H1
    clear H1
    obtain rfl := Option.some.inj H
    go_enter Tryd.func60, Tryd.ntmps60
    go_wp2_with (first | ((with_reducible refine gate_dst (N := 2) rfl ?_); refine box_event ?hg (N := 2) ?hd (cs := #[.int .u64 a0_0, .int .u64 a0_1, .int .u64 a0_2, .int .u64 a0_3]) (t := 77) ?hr ?_; (case hd => rfl); (case hg => rfl); (case hr => first | (go_simp; done) | (go_simp; rfl)); intro gb108 hg w4 hbox hb; have n0_ := Aside0.mk (below_step (by repeat (first | (with_reducible first | exact HB.out | apply below_alloc | apply pw_below_drewN | apply below_drew1) | exact HB.out)) hb); have n1_ := Aside0.mk (hbox); have n2_ := Aside0.mk ((by rw [hg]; exact (below_size (by repeat (first | (with_reducible first | exact HB.out | apply below_alloc | apply pw_below_drewN | apply below_drew1) | exact HB.out))) : w.heap.size ≤ gb108)); have n3_ := Aside0.mk ((by rw [hg]; exact (below_size (by repeat (first | (with_reducible first | exact HB.out | apply below_alloc | apply pw_below_drewN | apply below_drew1) | exact HB.out))) : w.heap.size ≤ gb108)); clear HB; have HB := n0_; have BK108 := n1_; have GW108 := n2_; have GE108 := n3_; clear n0_ n1_ n2_ n3_; clear hb hbox hg; have hcz5_0 : w4.cell? ⟨gb108, 0, none⟩ = some (.int .u64 a0_0) := (blk_cell BK108.out 0).trans rfl; have hcz5_1 : w4.cell? ⟨gb108, 1, none⟩ = some (.int .u64 a0_1) := (blk_cell BK108.out 1).trans rfl; have hcz5_2 : w4.cell? ⟨gb108, 2, none⟩ = some (.int .u64 a0_2) := (blk_cell BK108.out 2).trans rfl; have hcz5_3 : w4.cell? ⟨gb108, 3, none⟩ = some (.int .u64 a0_3) := (blk_cell BK108.out 3).trans rfl; have hfz5_0 := blk_frozen BK108.out 0; have hfz5_1 := blk_frozen BK108.out 1; have hfz5_2 := blk_frozen BK108.out 2; have hfz5_3 := blk_frozen BK108.out 3))
    go_ret
    exact ⟨by first | rfl | (simp [errW_none, errW_some] <;> rfl) | (simp [*, errW_none, errW_some] <;> rfl), by repeat (first | (with_reducible first | exact HB.out | apply below_alloc | apply pw_below_drewN | apply below_drew1 | refine below_set ?_ GE108.out) | exact HB.out)⟩
  · replace c3 := Bool.eq_false_iff.mpr c3
    subst c3
    have H1 : (some (Go.bits .andNot .u64 a0_3 (IntKind.u64.wrap (a0_3 * 2)))) = some r := by rw [if_neg (show ¬ (false = true) by decide)] at H; exact H
    clear H
    have H := H1
    clear H1
    obtain rfl := Option.some.inj H
    go_enter Tryd.func60, Tryd.ntmps60
    go_wp2_with (first | ((with_reducible refine gate_dst (N := 2) rfl ?_); refine box_event ?hg (N := 2) ?hd (cs := #[.int .u64 a0_0, .int .u64 a0_1, .int .u64 a0_2, .int .u64 a0_3]) (t := 77) ?hr ?_; (case hd => rfl); (case hg => rfl); (case hr => first | (go_simp; done) | (go_simp; rfl)); intro gb108 hg w6 hbox hb; have n0_ := Aside0.mk (below_step (by repeat (first | (with_reducible first | exact HB.out | apply below_alloc | apply pw_below_drewN | apply below_drew1) | exact HB.out)) hb); have n1_ := Aside0.mk (hbox); have n2_ := Aside0.mk ((by rw [hg]; exact (below_size (by repeat (first | (with_reducible first | exact HB.out | apply below_alloc | apply pw_below_drewN | apply below_drew1) | exact HB.out))) : w.heap.size ≤ gb108)); have n3_ := Aside0.mk ((by rw [hg]; exact (below_size (by repeat (first | (with_reducible first | exact HB.out | apply below_alloc | apply pw_below_drewN | apply below_drew1) | exact HB.out))) : w.heap.size ≤ gb108)); clear HB; have HB := n0_; have BK108 := n1_; have GW108 := n2_; have GE108 := n3_; clear n0_ n1_ n2_ n3_; clear hb hbox hg; have hcz7_0 : w6.cell? ⟨gb108, 0, none⟩ = some (.int .u64 a0_0) := (blk_cell BK108.out 0).trans rfl; have hcz7_1 : w6.cell? ⟨gb108, 1, none⟩ = some (.int .u64 a0_1) := (blk_cell BK108.out 1).trans rfl; have hcz7_2 : w6.cell? ⟨gb108, 2, none⟩ = some (.int .u64 a0_2) := (blk_cell BK108.out 2).trans rfl; have hcz7_3 : w6.cell? ⟨gb108, 3, none⟩ = some (.int .u64 a0_3) := (blk_cell BK108.out 3).trans rfl; have hfz7_0 := blk_frozen BK108.out 0; have hfz7_1 := blk_frozen BK108.out 1; have hfz7_2 := blk_frozen BK108.out 2; have hfz7_3 := blk_frozen BK108.out 3))
    go_ret
    exact ⟨by first | rfl | (simp [errW_none, errW_some] <;> rfl) | (simp [*, errW_none, errW_some] <;> rfl), by repeat (first | (with_reducible first | exact HB.out | apply below_alloc | apply pw_below_drewN | apply below_drew1 | refine below_set ?_ GE108.out) | exact HB.out)⟩

section
open Go.Proofs Go.Proofs.YtgddljealeklkaaDoorQ
set_option maxHeartbeats 1000000 in
theorem bits_TrailingZeros64.core (x k idx : Nat) (w : World) (hx0 : ((x : Int) == 0) = false)
    (key : IntKind.u64.wrap (Go.bits BinOp.and IntKind.u64 (x : Int) (IntKind.u64.wrap (-(x : Int))) * 285870213051353865) / 288230376151711744 = (idx : Int))
    (hi : idx < 64) (hk : k < 64) (hcell : w.cell? ⟨0, idx, none⟩ = some (.int .u8 k)) :
    Calls Tryd.prog 87 #[.int .u64 x] w fun e w' => e = .returned (.int .i64 k) ∧ w' = w := by
  go_enter Tryd.func87, Tryd.ntmps87
  go_wp2_with (simp only [key])
  go_ret
  exact ⟨rfl, rfl⟩
/-- The place of the lowest set bit; the table stands in block 0. -/
theorem bits_TrailingZeros64.calls (x : Nat) (hx : x < 18446744073709551616) (hx0 : x ≠ 0) (w : World) (hT : TabAt 0 Lib.deBruijn64tab w) :
    Calls Tryd.prog 87 #[.int .u64 x] w fun e w' => e = .returned (.int .i64 (Lib.ctz 64 x)) ∧ w' = w := by
  obtain ⟨hlow, hk⟩ := Lib.lowest_bit 64 x hx0 hx
  obtain ⟨hi, htab⟩ := Lib.deBruijn64_at _ hk
  have hcell := hT _ hi
  rw [htab] at hcell
  exact bits_TrailingZeros64.core x _ _ w (by simp; omega) (tz64_key x _ hx hx0 hlow) hi hk hcell
/-- Of no set bit. -/
theorem bits_TrailingZeros64.zero (w : World) : Calls Tryd.prog 87 #[.int .u64 0] w fun e w' => e = .returned (.int .i64 64) ∧ w' = w := by
  go_enter Tryd.func87, Tryd.ntmps87
  go_wp2
  go_ret
  exact ⟨rfl, rfl⟩
end


section
open Go.Proofs.YtgddljealeklkaaDoorQ Go.Proofs.YtgddljealeklkaaDoorM Go.Shelf
attribute [local go_sem] Oper.semAt_some
theorem tz_up (q : Nat → Bool) (i k : Nat) (h : upW q i ≠ 0#64) (hk : k = Lib.ctz 64 (upW q i).toNat) (w : World) (hT : TabOk w) :
    Calls Tryd.prog 87 #[.int .u64 (iv (upW q i))] w fun e w' => e = .returned (.int .i64 (k : Int)) ∧ w = w' := by
  have h0 : (upW q i).toNat ≠ 0 := fun e => h (BitVec.eq_of_toNat_eq (by rw [e]; rfl))
  subst hk
  exact (bits_TrailingZeros64.calls (upW q i).toNat (upW q i).isLt h0 w hT.out).mono fun e w' hw => ⟨hw.1, hw.2.symm⟩
set_option maxHeartbeats 4000000 in
set_option maxRecDepth 100000 in
theorem words_Each_1.walk (F : Fence) (HF : Aside0 (F = Fence.wide)) (n : Nat) (hn : 3 ≤ n) (l g1 : Nat) (q : Nat → Bool) (J Jx : List (SetP 64 q) → World → Prop) (W0 : World)
    (hY : ∀ pre (x : SetP 64 q) W, J pre W → pre ++ [x] <+: setP 64 q 64 → YieldAt F (n - 1) Tryd.prog l #[.int .i64 (x.val : Int)] W fun e W' =>
      (e = .returned (.bool true) ∧ J (pre ++ [x]) W' ∧ Keep2 0 0 W W') ∨ (e = .returned (.bool false) ∧ Jx (pre ++ [x]) W'))
    (B1 : Blk W0 g1 #[.int .u64 (iv (word q))] 75) (hT : TabOk W0) (h0 : J [] W0) :
    CallsIn F n Tryd.prog 99 #[.func (.yield l) #[] #[], .pointer (some ⟨g1, 0, none⟩)] W0 fun e W' => (∃ v, e = .returned v) ∧
      ((∃ ys, ys = setP 64 q 64 ∧ J ys W') ∨ (∃ pre, pre <+: setP 64 q 64 ∧ Jx pre W')) := by
  have HY := Aside0.mk hY
  have HJ0 := Aside0.mk h0
  have HT := Aside0.mk hT
  clear hY h0 hT
  have f0 := wide_fn HF 87
  have n1 : 1 ≤ n := by omega
  have n2 : 1 ≤ n - 1 := by omega
  have hro := wide_round HF
  have c1 := B1.cell (i := 0) rfl
  refine callsIn_of_wp Tryd.func99 rfl (wide_fn HF _) ?_ (wide_round HF)
  simp only [Tryd.ntmps99, List.size_toArray, List.length_cons, List.length_nil, Nat.reduceAdd, Nat.reduceSub, Array.replicate_succ, Array.replicate_zero, List.push_toArray, List.append_toArray, List.nil_append, List.cons_append]
  gi_wp2
  gi_loopw [3] (fun v wr => ∃ i : Nat, v = .int .u64 (iv (upW q i)) ∧ Aside0 (i ≤ 64) ∧ Aside0 (J (setP 64 q i) wr) ∧ Aside0 (TabOk wr)) (fun v _ => (intOf v).toNat)
  case atStart => exact ⟨0, by rw [upW_zero], ⟨Nat.zero_le _⟩, HJ0, HT⟩
  case round =>
    clear B1 HJ0 HT c1
    obtain ⟨i, rfl, HI, HJi, HT⟩ := hrel
    by_cases hz : upW q i = 0#64
    · have hz0 : (iv (upW q i) != 0) = false := by rw [hz]; rfl
      have HZ := Aside0.mk hz
      clear hz
      gi_wp2
      go_end0
      have h := HJi.out
      rw [← up_end q i HI.out HZ.out] at h
      exact ⟨⟨_, rfl⟩, .inl ⟨_, rfl, h⟩⟩
    · have hz0 : (iv (upW q i) != 0) = true := by
        rw [bne_iff_ne]
        intro e
        exact hz (iv_inj.1 (e.trans (by decide)))
      obtain ⟨k, hk, h1, h2, h3, h4⟩ := up_set q i hz
      have LESS := Aside0.mk (up_less hz)
      have TZ : Aside0 (∀ w, TabOk w → Calls Tryd.prog 87 #[.int .u64 (iv (upW q i))] w fun e w' => e = .returned (.int .i64 (k : Int)) ∧ w = w') := ⟨fun w hw => tz_up q i k hz h1 w hw⟩
      have NEXT : Aside0 (bits .and .u64 (iv (upW q i)) (IntKind.u64.wrap (iv (upW q i) - 1)) = iv (upW q (k + 1))) := ⟨by
        rw [show (1 : Int) = iv 1#64 from by decide, wrap_sub, bits_and, h4]⟩
      have HK := Aside0.mk hk
      have HS : Aside0 (setP 64 q (k + 1) = setP 64 q i ++ [⟨k, HK.out⟩]) := ⟨h3⟩
      rw [h4] at LESS
      have HL : setP 64 q i ++ [⟨k, HK.out⟩] <+: setP 64 q 64 := by
        rw [← HS.out]
        exact setP_le (by have := HK.out.1; omega)
      obtain ⟨fn, tmps, assign, body, hy, hR⟩ := HY.out (setP 64 q i) ⟨k, HK.out⟩ wr HJi.out HL
      have HR := Aside0.mk hR
      dsimp only at hy
      clear hR h1 h2 h3 h4 hz hk HL
      gi_wp2_with (first
        | (gi_at_call 87; refine (callsIn_of HF (TZ.out _ HT.out)).mono ?_; rintro e w3 ⟨rfl, rfl⟩))
      refine HR.out.mono ?_
      rintro e W6 (⟨rfl, hJ6, hk6⟩ | ⟨rfl, hJx6⟩)
      · have HT6 := Aside0.mk (HT.out.keep hk6)
        have HJ6 := Aside0.mk (show J (setP 64 q (k + 1)) W6 by rw [HS.out]; exact hJ6)
        clear hJ6 hk6
        gi_wp2
        go_roundw
        case rel => exact ⟨k + 1, by rw [NEXT.out], ⟨by have := HK.out.1; omega⟩, HJ6, HT6⟩
        case measure =>
          have := LESS.out
          simp only [intOf]
          rw [NEXT.out]
          unfold iv
          omega
      · have HJ6 := Aside0.mk hJx6
        clear hJx6
        gi_wp2
        refine bodyPost_ret (results_none rfl _ _ _) rfl ?_
        refine ⟨⟨_, rfl⟩, .inr ⟨_, ?_, HJ6.out⟩⟩
        rw [← HS.out]
        exact setP_le (by have := HK.out.1; omega)
theorem set64_lt {q : Nat → Bool} {pre : List (SetP 64 q)} {x : SetP 64 q} (h : pre ++ [x] <+: setP 64 q 64) : pre.length < 64 := by
  have h1 := h.length_le
  have h2 := setP_length (n := 64) (q := q) 64
  rw [List.length_append, List.length_singleton] at h1
  omega
/-- What Each hands back tells the set places, rising. -/
theorem words_Each_1.stops (F : Fence) (HF : Aside0 (F = Fence.wide)) (n : Nat) (hn : 3 ≤ n) (g1 : Nat) (q : Nat → Bool) (w : World)
    (B1 : Blk w g1 #[.int .u64 (iv (word q))] 75) (hT : TabOk w) :
    SeqStopsK F n Tryd.prog 99 #[.pointer (some ⟨g1, 0, none⟩)] (fun x : SetP 64 q => #[.int .i64 (x.val : Int)]) (Keep2 0 0) (fun ys => ys = setP 64 q 64) (fun pre => pre <+: setP 64 q 64) 64 w := by
  intro l J Jx W hW _ _ hY h0
  exact words_Each_1.walk F HF n hn l g1 q J Jx W (fun pre x A hA hp => hY pre x A hA (set64_lt hp)) (B1.below hW) (hT.step hW) h0
/-- The same in the wider form. -/
theorem words_Each_1.stopsO (F : Fence) (HF : Aside0 (F = Fence.wide)) (n : Nat) (hn : 3 ≤ n) (g1 : Nat) (q : Nat → Bool) (w : World)
    (B1 : Blk w g1 #[.int .u64 (iv (word q))] 75) (hT : TabOk w) :
    SeqO F n Tryd.prog 99 #[.pointer (some ⟨g1, 0, none⟩)] (fun x : SetP 64 q => #[.int .i64 (x.val : Int)]) (Keep2 0 0) (fun ys => ys = setP 64 q 64) (fun pre => pre <+: setP 64 q 64) w := by
  intro l J Jx W hW _ _ _ _ hY h0
  refine (words_Each_1.walk F HF n hn l g1 q (J []) Jx W (fun pre x A hA hp => (hY [] pre x A (fun k hk => (List.not_mem_nil hk).elim) hA hp).mono fun e A' h => h.2.2) (B1.below hW) (hT.step hW) h0).mono ?_
  rintro e W' ⟨hv, (⟨ys, h1, h2⟩ | h)⟩
  · exact ⟨hv, .inl ⟨ys, [], h1, fun k hk => (List.not_mem_nil hk).elim, h2⟩⟩
  · exact ⟨hv, .inr h⟩
end


open Go.Proofs.YtgddljealeklkaaDoorQ Go.Proofs.YtgddljealeklkaaDoorM in
set_option maxHeartbeats 4000000 in
set_option maxRecDepth 100000 in
theorem words_Each.calls (x : Int) (w : World) :
    Calls Tryd.prog 62 #[.int .u64 x] w fun e w' => ∃ g1 : Nat, e = .returned (.func (.func 99) #[] #[.pointer (some ⟨g1, 0, none⟩)]) ∧
      w.heap.size ≤ g1 ∧ Blk w' g1 #[.int .u64 x] 75 ∧ BelowH w w' := by
  have HB := BelowH.refl w
  go_enter Tryd.func62, Tryd.ntmps62
  go_wp2_with (first | ((with_reducible refine gate_dst (N := 1) rfl ?_); refine ev_alloc HB rfl (#[.int .u64 x]) 75 ?hr ?_; (case hr => first | (go_simp; done) | (go_simp; rfl)); intro g1 w1 G_g1 GE_g1 B_g1 HBn K_g1; clear HB; have HB := HBn; clear HBn))
  go_ret
  exact ⟨g1, rfl, GE_g1.out, B_g1, HB⟩


section
open Go.Proofs.YtgddljealeklkaaDoorQ Go.Proofs.YtgddljealeklkaaDoorM Go.Shelf
attribute [local go_sem] Oper.semAt_some
/-- Where words begin in a block, as starts tells it. -/
theorem starts_word (s : ByteArray) (k : Nat) (x y z : Int) : marks_rows_starts.f x y z (iv (wordAt s.size (wdq s) k)) (carq s k) = some (iv (word (stW s k))) := by
  have e1 : IntKind.u64.wrap (iv (wordAt s.size (wdq s) k) * 2) = iv (wordAt s.size (wdq s) k <<< 1) := wrap_shl _ 1
  have e2 : (1 : Int) = iv 1#64 := rfl
  have h := st_word s k
  unfold marks_rows_starts.f
  cases hc : carq s k with
  | true =>
    rw [hc, if_pos rfl] at h
    rw [if_pos rfl, e1, e2, bits_or, bits_andNot, h]
  | false =>
    rw [hc, if_neg (by decide)] at h
    rw [if_neg (by decide), e1, bits_andNot, ← h]
    simp
theorem ends_word (s : ByteArray) (k : Nat) (a b c : Int) : marks_rows_ends.f a b c (iv (wordAt s.size (wdq s) k)) = some (decide (64 * k + 63 < s.size) && wdq s (64 * k + 63)) := by
  unfold marks_rows_ends.f wordAt
  rw [top_word]
  cases (decide (64 * k + 63 < s.size) && wdq s (64 * k + 63)) <;> rfl
/-- Between two places of one block. -/
structure IdxI (w : World) (g3 g5 g6 gr m : Nat) (r : List Value) (cur : Array Value) (k : Nat) (L0 : List Int) {q : Nat → Bool} (Ds : List Nat) (pre : List (SetP 64 q)) (W : World) : Prop where mk ::
  out : ∃ v, Blk W g3 #[v] 36 ∧ W.ownsRow w.heap.size 3 1 v (L0.length + pre.length) ((L0 ++ pre.map fun x => (64 * (k : Int) + ((x.val : Nat) : Int))).map (Value.int .i64)) ∧ v.ownBlock ≠ some g5
  b5 : Blk W g5 #[.int .i64 (k : Int)] 3
  b6 : Blk W g6 r.toArray 77
  br : Blk W gr cur 77
  ht : TabOk W
  mk_ : Marks w.heap.size Ds W
  hb : BelowH w W
  sz : m ≤ W.heap.size
theorem IdxI.kept {w : World} {g3 g5 g6 gr m : Nat} {r : List Value} {cur : Array Value} {k : Nat} {L0 : List Int} {q : Nat → Bool} {Ds : List Nat} {pre : List (SetP 64 q)} {W W' : World} (h : IdxI w g3 g5 g6 gr m r cur k L0 Ds pre W) (hm : w.heap.size ≤ m) (hD : ∀ D ∈ Ds, D < m) {row : Option Nat} (hg : W.grownBy W' row) (hr : ∀ r, row = some r → m ≤ r ∧ ∃ o : Obj, W.heap[r]? = some o ∧ o.isCells = false) : IdxI w g3 g5 g6 gr m r cur k L0 Ds pre W' := by
  have hr' : ∀ r, row = some r → ∃ o : Obj, W.heap[r]? = some o ∧ o.isCells = false := fun r e => (hr r e).2
  obtain ⟨v, b, ho, hn⟩ := h.out
  exact ⟨⟨v, b.kept hg hr', row_kept ho hg hr', hn⟩, h.b5.kept hg hr', h.b6.kept hg hr', h.br.kept hg hr', h.ht.kept hg hr', h.mk_.grown hg hD (fun r e => (hr r e).1), h.hb.kept hg hm (fun r e => (hr r e).1), Nat.le_trans h.sz hg.size⟩
theorem IdxI.below {w : World} {g3 g5 g6 gr m m' : Nat} {r : List Value} {cur : Array Value} {k : Nat} {L0 : List Int} {q : Nat → Bool} {Ds : List Nat} {pre : List (SetP 64 q)} {W W' : World} (h : IdxI w g3 g5 g6 gr m r cur k L0 Ds pre W) (hb : Below W.heap.size W W') (hm : m' ≤ W'.heap.size) : IdxI w g3 g5 g6 gr m' r cur k L0 Ds pre W' := by
  obtain ⟨v, b, ho, hn⟩ := h.out
  exact ⟨⟨v, b.below hb, row_below ho hb, hn⟩, h.b5.below hb, h.b6.below hb, h.br.below hb, h.ht.step hb, h.mk_.below hb, h.hb.step hb, hm⟩
theorem rows_get (s : ByteArray) (k j : Nat) (hj : j < 4) : ∀ n, k < n → ((List.range n).flatMap (rowN s))[k * 4 + j]? = (rowN s k)[j]?
  | 0, h => by omega
  | n + 1, h => by
    have hl : ∀ m, ((List.range m).flatMap (rowN s)).length = 4 * m := fun m => by
      induction m with
      | zero => rfl
      | succ m ih =>
        rw [List.range_succ, List.flatMap_append, List.length_append, ih]
        simp [rowN]
        omega
    rw [List.range_succ, List.flatMap_append]
    by_cases e : k = n
    · subst e
      rw [List.getElem?_append_right (by rw [hl]; omega), hl, show k * 4 + j - 4 * k = j by omega]
      simp
    · rw [List.getElem?_append_left (by rw [hl]; omega)]
      exact rows_get s k j hj n (by omega)
def marks_Index.f (a0 : ByteArray) : Option (List Int) := if a0.size ≤ 1099511627776 then some (idxL a0 a0.size) else none
set_option maxHeartbeats 4000000 in
set_option maxRecDepth 100000 in
theorem marks_Index.walk (s : ByteArray) (w : World) (hT : TabOk w) (hs : s.size ≤ 1099511627776) :
    Calls Tryd.prog 26 #[.string s] w fun e w' => ∃ v : Value, e = .returned v ∧ w'.ownsRow w.heap.size 3 1 v (idxL s s.size).length ((idxL s s.size).map (Value.int .i64)) ∧ Below w.heap.size w w' := by
  obtain ⟨F, hF⟩ : ∃ F, F = Fence.wide := ⟨_, rfl⟩
  have HF := Aside0.mk hF
  refine (callsIn_wide (n := 9)).1 ?_
  rw [← hF]
  clear hF
  have hro := wide_round HF
  have HB := BelowH.refl w
  have f1 := wide_fn HF 50
  have f2 := wide_fn HF 62
  have f3 := wide_fn HF 99
  have f4 := wide_fn HF 60
  have f5 := wide_fn HF 59
  have HS := Aside0.mk hs
  have HT := Aside0.mk hT
  have PW := Aside0.mk hT.pos
  obtain ⟨nw, hnw⟩ : ∃ nw, nw = nwords s.size := ⟨_, rfl⟩
  have HNW := Aside0.mk hnw
  have hnw1 : (nw : Int) ≤ 17179869184 := by rw [hnw]; unfold nwords; omega
  clear hs hnw hT
  refine callsIn_of_wp_marks Tryd.func26 rfl (wide_fn HF _) ?_ hro
  simp only [Tryd.ntmps26, List.size_toArray, List.length_cons, List.length_nil, Nat.reduceAdd, Nat.reduceSub, Array.replicate_succ, Array.replicate_zero, List.push_toArray, List.append_toArray, List.nil_append, List.cons_append]
  gi_upto_region 3 with (first
    | ((with_reducible refine gate_dstIn (N := 3) rfl ?_); refine ev_allocIn HB rfl rfl (#[.slice none 0 0]) 36 ?hr ?_; (case hr => first | (go_simp; done) | (go_simp; rfl)); intro g3 w3 G_g3 GE_g3 B_g3 HBn K_g3 KO_w3; clear HB; have HB := HBn; clear HBn))
  have hlk := marks_look.walk s w3 (by have := HS.out; omega)
  rw [← HNW.out] at hlk
  have LK := Aside0.mk hlk
  clear hlk
  gi_wp2_with (first
    | (gi_at_call 50; refine (callsIn_of HF LK.out).mono ?_; rintro e w4 ⟨v, rfl, hrow, hb4⟩; have HR4 := Aside0.mk hrow; have HB4 := HB.step hb4; have HK4 := Aside0.mk hb4; obtain ⟨ad, cp, rfl⟩ := own_slice hrow; clear hrow hb4))
  have hb := HB4
  have D3 := B_g3.below HK4.out
  have HT4 := Aside0.mk (HT.out.stepH HB4)
  have HO : Aside0 ((ad = none ∧ nw = 0) ∨ ∃ gr cur, ad = some ⟨gr, 0, none⟩ ∧ Blk w4 gr cur 77 ∧ ∀ k j, k < nw → j < 4 → cur[k * 4 + j]? = (rowN s k)[j]?) := ⟨by
    rcases row_openN HR4.out with ⟨h1, h2⟩ | ⟨gr, cap, cur, h1, h2, h3, h4⟩
    · injection h1 with h1
      exact .inl ⟨h1, h2⟩
    · injection h1 with h1
      refine .inr ⟨gr, cur, h1, h3, fun k j hk hj => ?_⟩
      have hg := rows_get s k j hj nw hk
      cases hx : (rowN s k)[j]? with
      | none => rw [List.getElem?_eq_none_iff] at hx; simp [rowN] at hx; omega
      | some u => rw [hx] at hg; exact h4 _ _ hg⟩
  obtain ⟨gr, cur, HO⟩ : ∃ gr cur, Aside0 ((ad = none ∧ nw = 0) ∨ (ad = some ⟨gr, 0, none⟩ ∧ Blk w4 gr cur 77 ∧ ∀ k j, k < nw → j < 4 → cur[k * 4 + j]? = (rowN s k)[j]?)) := by
    rcases HO.out with h | ⟨gr, cur, h⟩
    · exact ⟨0, #[], ⟨.inl h⟩⟩
    · exact ⟨gr, cur, ⟨.inr h⟩⟩
  have HGET : Aside0 (nw ≠ 0 → ad = some ⟨gr, 0, none⟩ ∧ ∀ k j, k < nw → j < 4 → cur[k * 4 + j]? = (rowN s k)[j]?) := ⟨fun h0 => by
    rcases HO.out with ⟨_, h⟩ | ⟨h1, _, h3⟩
    · exact absurd h h0
    · exact ⟨h1, h3⟩⟩
  have HBR : Aside0 (nw ≠ 0 → Blk w4 gr cur 77) := ⟨fun h0 => by
    rcases HO.out with ⟨_, h⟩ | ⟨_, h2, _⟩
    · exact absurd h h0
    · exact h2⟩
  clear HO hb LK HT B_g3 K_g3 KO_w3 HK4 HR4 HB G_g3
  refine wpIn_loopM (fun m a W => ∃ (k : Nat) (Ds : List Nat) (z11 : Int) (c4 : Bool) (u5 u6 u7 u12 u13 u14 u15 u16 u17 u18 u19 u20 u21 u22 u23 u24 u25 u26 u27 u28 u29 u30 u31 u32 u33 u34 u35 u36 u37 : Value), m = nw - k ∧ z11 = (k : Int) ∧ k ≤ nw ∧ a = { tmps := #[.string s, undef, .slice none 0 0, .pointer (some ⟨g3, 0, none⟩), .bool c4, u5, u6, u7, .string s, .slice ad nw cp, .int .i64 (nw : Int), .int .i64 z11, u12, u13, u14, u15, u16, u17, u18, u19, u20, u21, u22, u23, u24, u25, u26, u27, u28, u29, u30, u31, u32, u33, u34, u35, u36, u37], defers := marksD Ds } ∧
    Aside0 (k < nw → c4 = carq s k) ∧ Aside0 (∃ v, Blk W g3 #[v] 36 ∧ W.ownsRow w.heap.size 3 1 v (idxL s (64 * k)).length ((idxL s (64 * k)).map (Value.int .i64))) ∧ Aside0 (nw ≠ 0 → Blk W gr cur 77) ∧ Aside0 (TabOk W) ∧ Aside0 (Marks w.heap.size Ds W) ∧ BelowH w W) nw
    ⟨0, [], 0, false, _, _, _, _, _, _, _, _, _, _, _, _, _, _, _, _, _, _, _, _, _, _, _, _, _, _, _, _, _, rfl, rfl, Nat.zero_le _, rfl, ⟨fun _ => rfl⟩, ⟨_, D3, World.ownsRow_nil _ _ _ _⟩, HBR, HT4, ⟨Marks.nil⟩, HB4⟩ ?_
  rintro m a W ⟨k, Ds, z11, c4, u5, u6, u7, u12, u13, u14, u15, u16, u17, u18, u19, u20, u21, u22, u23, u24, u25, u26, u27, u28, u29, u30, u31, u32, u33, u34, u35, u36, u37, rfl, hz11, hk, rfl, HC, HOUT, HBR, HT, HM, HB⟩ K hK
  have HKK := Aside0.mk hK
  clear hK HT4 D3 HB4
  obtain ⟨v, b3, hrow⟩ := HOUT.out
  have c3 := b3.cell (i := 0) rfl
  by_cases hlt : k < nw
  · have HLT := Aside0.mk hlt
    obtain ⟨rfl, hcur⟩ := HGET.out (by omega)
    have BR := HBR.out (by omega)
    obtain ⟨A, hA⟩ : ∃ A, A = iv (wordAt s.size (sgq s) k) := ⟨_, rfl⟩
    obtain ⟨B, hB⟩ : ∃ B, B = iv (wordAt s.size (blq s) k) := ⟨_, rfl⟩
    obtain ⟨C, hC⟩ : ∃ C, C = iv (wordAt s.size (opq s) k) := ⟨_, rfl⟩
    obtain ⟨D, hD⟩ : ∃ D, D = iv (wordAt s.size (wdq s) k) := ⟨_, rfl⟩
    have hrN : rowN s k = [.int .u64 A, .int .u64 B, .int .u64 C, .int .u64 D] := by rw [hA, hB, hC, hD]; rfl
    have hcur' := fun j hj => hcur k j hlt hj
    rw [hrN] at hcur'
    replace hcur := hcur'
    clear hcur'
    have cr0 : W.cell? ⟨gr, k * 4, none⟩ = some (.int .u64 A) := BR.cell (hcur 0 (by decide))
    have cr1 : W.cell? ⟨gr, k * 4 + 1, none⟩ = some (.int .u64 B) := BR.cell (hcur 1 (by decide))
    have cr2 : W.cell? ⟨gr, k * 4 + 2, none⟩ = some (.int .u64 C) := BR.cell (hcur 2 (by decide))
    have cr3 : W.cell? ⟨gr, k * 4 + 3, none⟩ = some (.int .u64 D) := BR.cell (hcur 3 (by decide))
    have hq1 : (k : Int) < (nw : Int) := by omega
    have hq2 : (0 : Int) ≤ (k : Int) := by omega
    have hkn : 64 * k < s.size := by have := HNW.out; unfold nwords at this; omega
    have hc4 := HC.out hlt
    obtain ⟨X, hX⟩ : ∃ X, X = iv (word (stW s k)) := ⟨_, rfl⟩
    have STA : Aside0 (∀ w, Calls Tryd.prog 60 #[.agg #[.int .u64 A, .int .u64 B, .int .u64 C, .int .u64 D], .bool c4] w fun e w' => e = .returned (.int .u64 X) ∧ Below w.heap.size w w') := ⟨fun w => marks_rows_starts.calls A B C D c4 X w (by rw [hD, hc4, hX]; exact starts_word s k A B C)⟩
    have BEG : Aside0 (bits .or .u64 (bits .or .u64 A C) X = iv (word (begB s k))) := ⟨by rw [hA, hC, hX]; exact beg_or s k hkn⟩
    have EN : Aside0 (∀ w, Calls Tryd.prog 59 #[.agg #[.int .u64 A, .int .u64 B, .int .u64 C, .int .u64 D]] w fun e w' => e = .returned (.bool (decide (64 * k + 63 < s.size) && wdq s (64 * k + 63))) ∧ Below w.heap.size w w') := ⟨fun w => marks_rows_ends.calls A B C D _ w (by rw [hD]; exact ends_word s k A B C)⟩
    obtain ⟨E, hE⟩ : ∃ E, E = (decide (64 * k + 63 < s.size) && wdq s (64 * k + 63)) := ⟨_, rfl⟩
    rw [← hE] at EN
    have HE := Aside0.mk hE
    subst hz11
    have HROW := Aside0.mk hrow
    have HV1 := Aside0.mk (row_one hrow)
    clear hA hB hC hD hrN hcur hkn hc4 hX hE hlt hk hrow HOUT HBR HC
    have HB0 := HB
    clear HB
    have HB := BelowH.refl W
    gi_upto_region 6 with (first
      | ((with_reducible refine gate_dstIn (N := 5) rfl ?_); refine ev_allocIn HB rfl rfl (#[.int .i64 0]) 3 ?hr ?_; (case hr => first | (go_simp; done) | (go_simp; rfl)); intro g5 w5 G_g5 GE_g5 B_g5 HBn K_g5 KO_w5; clear HB; have HB := HBn; clear HBn)
      | ((with_reducible refine gate_dstIn (N := 6) rfl ?_); refine ev_allocIn HB rfl rfl (#[.int .u64 0, .int .u64 0, .int .u64 0, .int .u64 0]) 77 ?hr ?_; (case hr => first | (go_simp; done) | (go_simp; rfl)); intro g6 w6 G_g6 GE_g6 B_g6 HBn K_g6 KO_w6; clear HB; have HB := HBn; clear HBn)
      | ((with_reducible refine gate_In (Op.store 3 (.tmp 5) (.tmp 13)) rfl ?_); refine ev_store1In (i := 0) HB (B_g5.below K_g6.out) GE_g5 rfl 3 _ _ rfl rfl (.int .i64 (k : Int)) rfl (by simp) (by kernel_rfl) rfl ?_; intro w7 B7 HBn K_w7 KO_w7; clear HB; have HB := HBn; clear HBn)
      | ((with_reducible refine gate_In (Op.store 77 (.tmp 6) (.tmp 15)) rfl ?_); refine ev_storeIn HB (B_g6.other K_w7 (by have := B_g5.lt; have := G_g6.out; omega)) GE_g6 rfl 77 _ _ rfl rfl rfl (by kernel_rfl) rfl (by simp [Value.oneCell']) ?_; intro w8 B8 HBn K_w8 KO_w8; clear HB; have HB := HBn; clear HBn))
    have N56 : g5 ≠ g6 := by have := B_g5.lt; have := G_g6.out; omega
    have NW5 : ∀ g, g < W.heap.size → g ≠ g5 ∧ g ≠ g6 := fun g h => by have := G_g5.out; have := G_g6.out; have := K_g5.out.size; omega
    have KB := Aside0.mk HB.out
    have B5 := B7.other K_w8 N56
    have hR8 : w8.ownsRow w.heap.size 3 1 v ((idxL s (64 * k)).length + ([] : List (SetP 64 (begB s k))).length) ((idxL s (64 * k) ++ ([] : List (SetP 64 (begB s k))).map fun x => (64 * (k : Int) + ((x.val : Nat) : Int))).map (Value.int .i64)) := by
      rw [List.map_nil, List.append_nil]
      exact row_below HROW.out KB.out
    have I8 : IdxI w g3 g5 g6 gr 0 [.int .u64 A, .int .u64 B, .int .u64 C, .int .u64 D] cur k (idxL s (64 * k)) Ds ([] : List (SetP 64 (begB s k))) w8 :=
      ⟨⟨v, b3.below KB.out, hR8, own_ne_new HROW.out G_g5.out⟩, B5, B8, BR.below KB.out, HT.out.step KB.out, HM.out.below KB.out, HB0.step KB.out, Nat.zero_le _⟩
    have hbd : Aside0 (Below w8.heap.size w8 w8.drew) := ⟨below_drew (Below.refl _ _)⟩
    have I' := I8.below hbd.out (Nat.zero_le _)
    clear I8 hR8 B5 B8 B7 BR HM HB0 HB KB NW5 hbd B_g5 B_g6 K_g5 K_g6 K_w7 K_w8 KO_w5 KO_w6 KO_w7 KO_w8 G_g5 GE_g5 G_g6 GE_g6 HROW HV1 b3 c3 cr0 cr1 cr2 cr3 HT
    refine wpIn_region_last_wide HF (S := fun W' => Blk W' g6 #[.int .u64 A, .int .u64 B, .int .u64 C, .int .u64 D] 77) (ds := []) (by kernel_rfl) I'.b6 (fun hS => ?_)
    refine' wpAnyLast_take (i := 0) (oi := Oper.mk _ _ _ _ _ _) rfl (by kernel_rfl) (by kernel_rfl) (by kernel_rfl) (by kernel_rfl) (by kernel_rfl) (fun _ _ _ h => h) (Or.inl ⟨by rfl, ?hy1⟩) hS ?rest1
    case hy1 => (intro w hSw; (try dsimp only at hSw); first | (go_simp; done) | (go_simp; with_reducible rfl))
    try simp only [Act.put, List.setIfInBounds_toArray, List.set_cons_zero, List.set_cons_succ]
    refine wpAnyLast_take (i := 1) (oi := Oper.mk _ _ _ _ _ _) rfl (by kernel_rfl) (by kernel_rfl) (by kernel_rfl) (by kernel_rfl) (by kernel_rfl) (fun _ _ _ h => h) (rg_load1 (by rfl) (fun _ hS => hS.cell (i := 0) rfl) 75 _ rfl rfl (fun _ => by simp [isAgg, run_underlying Tryd.underlying75])) hS ?_
    try simp only [Act.put, List.setIfInBounds_toArray, List.set_cons_zero, List.set_cons_succ]
    refine' wpAnyLast_take (i := 2) (oi := Oper.mk _ _ _ _ _ _) rfl (by kernel_rfl) (by kernel_rfl) (by kernel_rfl) (by kernel_rfl) (by kernel_rfl) (fun _ _ _ h => h) (Or.inl ⟨by rfl, ?hy2⟩) hS ?rest2
    case hy2 => (intro w hSw; (try dsimp only at hSw); first | (go_simp; done) | (go_simp; with_reducible rfl))
    try simp only [Act.put, List.setIfInBounds_toArray, List.set_cons_zero, List.set_cons_succ]
    refine wpAnyLast_take (i := 3) (oi := Oper.mk _ _ _ _ _ _) rfl (by kernel_rfl) (by kernel_rfl) (by kernel_rfl) (by kernel_rfl) (by kernel_rfl) (fun _ _ _ h => h) (rg_load1 (by rfl) (fun _ hS => hS.cell (i := 2) rfl) 75 _ rfl rfl (fun _ => by simp [isAgg, run_underlying Tryd.underlying75])) hS ?_
    try simp only [Act.put, List.setIfInBounds_toArray, List.set_cons_zero, List.set_cons_succ]
    refine' wpAnyLast_take (i := 4) (oi := Oper.mk _ _ _ _ _ _) rfl (by kernel_rfl) (by kernel_rfl) (by kernel_rfl) (by kernel_rfl) (by kernel_rfl) (fun _ _ _ h => h) (Or.inl ⟨by rfl, ?hy3⟩) hS ?rest3
    case hy3 => (intro w hSw; (try dsimp only at hSw); first | (go_simp; done) | (go_simp; with_reducible rfl))
    try simp only [Act.put, List.setIfInBounds_toArray, List.set_cons_zero, List.set_cons_succ]
    refine wpAnyLast_take (i := 5) (oi := Oper.mk _ _ _ _ _ _) rfl (by kernel_rfl) (by kernel_rfl) (by kernel_rfl) (by kernel_rfl) (by kernel_rfl) (fun _ _ _ h => h) (rg_load (by rfl) (fun _ hS => hS) 77 _ rfl rfl Tryd.underlying77 rfl (by kernel_rfl)) hS ?_
    try simp only [Act.put, List.setIfInBounds_toArray, List.set_cons_zero, List.set_cons_succ]
    refine' wpAnyLast_take (i := 6) (oi := Oper.mk _ _ _ _ _ _) rfl (by kernel_rfl) (by kernel_rfl) (by kernel_rfl) (by kernel_rfl) (by kernel_rfl) (fun _ _ _ h => h) (Or.inl ⟨by rfl, ?hy4⟩) hS ?rest4
    case hy4 => (intro w hSw; (try dsimp only at hSw); first | (go_simp; done) | (go_simp; with_reducible rfl))
    try simp only [Act.put, List.setIfInBounds_toArray, List.set_cons_zero, List.set_cons_succ]
    refine wpAnyLast_ready (rs := [7]) (by kernel_rfl) (by simp) ?_
    refine AllReadyL.cons (o := Oper.mk _ _ _ _ _ _) rfl (by decide) (fun K hK => ?_) ?_
    · refine rg_call (by rfl) _ _ (.int .u64 X) (by first | (go_simp; done) | (go_simp; rfl)) (STA.out _) ?_
      intro W' hb
      have I2 := I'.below (m' := 0) hb.out (Nat.zero_le _)
      clear I'
      refine hK.out _ _ I2.b6 (fun hS => ?_)
      clear hK K
      try simp only [Act.put, List.setIfInBounds_toArray, List.set_cons_zero, List.set_cons_succ]
      refine' wpAnyLast_take (i := 8) (oi := Oper.mk _ _ _ _ _ _) rfl (by kernel_rfl) (by kernel_rfl) (by kernel_rfl) (by kernel_rfl) (by kernel_rfl) (fun _ _ _ h => h) (Or.inl ⟨by rfl, ?hy5⟩) hS ?rest5
      case hy5 => (intro w hSw; (try dsimp only at hSw); first | (go_simp; done) | (go_simp; with_reducible rfl))
      try simp only [Act.put, List.setIfInBounds_toArray, List.set_cons_zero, List.set_cons_succ]
      refine wpAnyLast_ready (rs := [9]) (by kernel_rfl) (by simp) ?_
      refine AllReadyL.cons (o := Oper.mk _ _ _ _ _ _) rfl (by decide) (fun K hK => ?_) ?_
      · refine call_ 62 #[.int .u64 (bits .or .u64 (bits .or .u64 A C) X)] (by rfl) rfl (by first | (go_simp; done) | (go_simp; rfl)) ((words_Each.calls _ _).mono ?_)
        rintro e W3 ⟨g1, rfl, GE1, B1, HB3⟩
        refine ⟨_, rfl, ?_⟩
        have I3 := I2.below (m' := W3.heap.size) HB3.out (Nat.le_refl _)
        clear I2 HB3
        refine hK.out _ _ I3.b6 (fun hS => ?_)
        clear hK K
        try simp only [Act.put, List.setIfInBounds_toArray, List.set_cons_zero, List.set_cons_succ]
        refine wpAnyLast_done (by kernel_rfl) ?_ _
        refine NoPanic.normal ?_
        gi_wp2
        have B1' := B1
        rw [BEG.out] at B1'
        have P0 := I3.ht.pos
        have L1 := B1'.lt
        have HP := Aside0.mk (And.intro (fun D hD => I3.mk_.lt (D := D) hD) I3.hb.le)
        have HX3 := Aside0.mk (And.intro I3.b5.lt (And.intro I3.b6.lt (I3.out.choose_spec.1).lt))
        have T3 := I3.ht
        clear B1 GE1
        refine wpIn_rangeFunc_ownH hro (by decide) (gf := 99) (lb := #[.pointer (some ⟨g1, 0, none⟩)]) rfl f3 (enters_of Tryd.func99 (by kernel_rfl) rfl)
          (words_Each_1.stops F HF (9 - 1) (by decide) g1 (begB s k) W3 B1' T3) Keep2.trans (fun W l o o' hl ho hc hw => Keep2.putObj P0 P0 W l o o' hl ho hc hw) (Below.refl _ _) (fun _ => rfl)
          (IdxI w g3 g5 g6 gr W3.heap.size [.int .u64 A, .int .u64 B, .int .u64 C, .int .u64 D] cur k (idxL s (64 * k)) Ds) (fun _ _ _ => False)
          (fun pre A B row hs hg hr => hs.kept HP.out.2 HP.out.1 hg hr)
          (fun _ _ _ _ _ hs _ _ => hs)
          I3
          (fun y a' W => a' = { tmps := #[.string s, undef, .slice none 0 0, .pointer (some ⟨g3, 0, none⟩), .bool c4, .pointer (some ⟨g5, 0, none⟩), .pointer (some ⟨g6, 0, none⟩), .int .i64 ((y.val : Nat) : Int), .string s, .slice (some ⟨gr, 0, none⟩) nw cp, .int .i64 (nw : Int), .int .i64 (k : Int), .bool true, .int .i64 (k : Int), .pointer (some ⟨gr, k * 4, none⟩), .agg #[.int .u64 A, .int .u64 B, .int .u64 C, .int .u64 D], .pointer (some ⟨g6, 0, none⟩), .int .u64 A, .pointer (some ⟨g6, 2, none⟩), .int .u64 C, .int .u64 (bits .or .u64 A C), .agg #[.int .u64 A, .int .u64 B, .int .u64 C, .int .u64 D], .bool c4, .int .u64 X, .int .u64 (bits .or .u64 (bits .or .u64 A C) X), .func (.func 99) #[] #[.pointer (some ⟨g1, 0, none⟩)], .int .i64 ((y.val : Nat) : Int), u27, u28, u29, u30, u31, u32, u33, u34, u35, u36, u37], defers := [] })
          (fun x a' pre A B row hs hg hr => hs)
          ?assign ?body ?done ?stop
        case assign =>
          intro l' pre y W K' hI hK'
          dsimp only
          gi_wp2
          exact hK' _ _ ((KeepsOthers.refl _).from _) ⟨rfl, rfl, Nat.le_refl _⟩ hI rfl
        case body =>
          rintro l' pre y a' W' hl ⟨r, hr⟩ hI rfl hlen
          clear hr
          obtain ⟨v', b3, hrow, hne⟩ := hI.out
          have c3 := b3.cell (i := 0) rfl
          have c5 := hI.b5.cell (i := 0) rfl
          have HB := hI.hb
          have hb1 : (k : Int) ≤ 17179869184 := by have := HLT.out; omega
          have hb2 : ((y.val : Nat) : Int) < 64 := by have := y.2.1; omega
          have hw1 : wrap64 (64 * (k : Int)) = 64 * (k : Int) := by unfold wrap64; omega
          have hw2 : wrap64 (64 * (k : Int) + ((y.val : Nat) : Int)) = 64 * (k : Int) + ((y.val : Nat) : Int) := by unfold wrap64; omega
          have HLEN : Aside0 (((idxL s (64 * k)).length + pre.length + 1) * 8 ≤ 140737488355328) := ⟨by have := idxL_length s (64 * k); have := HLT.out; omega⟩
          have HW' := Aside0.mk hI
          have HROW := Aside0.mk hrow
          have HNE := Aside0.mk hne
          clear hrow hne hI hlen
          gi_wp2_with (first
            | ((with_reducible refine gate_dstIn (N := 32) rfl ?_); refine ev_lit1In HB rfl rfl (.int .i64 (64 * (k : Int) + ((y.val : Nat) : Int))) 3 ?hr ?_; (case hr => first | (go_simp; done) | (go_simp; rfl)); intro gl w11 G_gl B_gl HB11 K_gl KO11; have I11 := Aside0.mk (HW'.out.below (m' := W3.heap.size) K_gl.out (Nat.le_trans HW'.out.sz K_gl.out.size)); have b311 := b3.below K_gl.out; have R11 := Aside0.mk (row_below HROW.out K_gl.out))
            | ((with_reducible refine gate_dstIn (N := 33) rfl ?_); refine ev_appendAtIn HB11 rfl _ _ 36 3 (.int .i64 0) 1 8 rfl Tryd.underlying36 (by kernel_rfl) rfl (by decide) (by decide) v' _ _ rfl R11.out gl [.int .i64 (64 * (k : Int) + ((y.val : Nat) : Int))] rfl B_gl rfl (by simp [Value.oneCell']) HLEN.out ?_; intro v1 w12 hrow12 HB12 K12 KO12 AT12 FV1; have R12 := Aside0.mk hrow12; have V12 := Aside0.mk (row_one hrow12); have b312 := b311.appended (by decide) R11.out K12; clear hrow12; obtain ⟨g', cap', rfl⟩ := FV1.out)
            | ((with_reducible refine gate_In (Op.store 36 (.tmp 3) (.tmp 33)) rfl ?_); refine ev_store1In (i := 0) HB12 b312 GE_g3 rfl 36 _ _ rfl rfl _ rfl (by simp) (by kernel_rfl) rfl ?_; intro w13 B13 HB13 K13 KO13))
          have E5 := I11.out.b5.appended_ne HNE.out K12
          have E6 := I11.out.b6.appended (by decide) R11.out K12
          have ER := I11.out.br.appended (by decide) R11.out K12
          have N0 : v'.ownBlock ≠ some 0 := own_ne_lt R11.out PW.out
          have H12 := heap_appended I11.out.ht.pos N0 K12
          have T12 := I11.out.ht.heap H12
          have O3 : 0 < g3 := by have := GE_g3.out; have := PW.out; omega
          have H13 := K13.out.2 0 (by omega)
          have H11 := K_gl.out.block 0 HW'.out.ht.pos
          have N5 := own_ne_appended AT12 HNE.out I11.out.b5.lt
          refine ⟨((keepsOthers_below K_gl.out).trans (KO12.out.trans KO13.out)).from _, ⟨(H13.trans H12).trans H11, (H13.trans H12).trans H11, Nat.le_trans K_gl.out.size (Nat.le_trans K12.out.1 K13.out.1)⟩, ⟨_, B13, ?_, N5⟩, E5.other K13 (E5.ne b312 (by decide)), E6.other K13 (E6.ne b312 (by decide)), ER.other K13 (ER.ne b312 (by decide)), T12.other O3 K13, (I11.out.mk_.others KO12.out).others KO13.out, HB13, Nat.le_trans I11.out.sz (Nat.le_trans K12.out.1 K13.out.1)⟩
          have R13 := row_other R12.out b312 (by decide) K13
          have e1 : (idxL s (64 * k)).length + (pre ++ [y]).length = (idxL s (64 * k)).length + pre.length + 1 := by
            rw [List.length_append, List.length_singleton]
            omega
          have e2 : (idxL s (64 * k) ++ (pre ++ [y]).map fun x => (64 * (k : Int) + ((x.val : Nat) : Int))).map (Value.int .i64) = (idxL s (64 * k) ++ pre.map fun x => (64 * (k : Int) + ((x.val : Nat) : Int))).map (Value.int .i64) ++ [.int .i64 (64 * (k : Int) + ((y.val : Nat) : Int))] := by
            rw [List.map_append, List.map_append, List.map_append, List.map_append, ← List.append_assoc]
            rfl
          rw [e1, e2]
          exact R13
        case done =>
          rintro D ys W' hD rfl hI hK'
          have HDn : D ∉ Ds := fun c => by have := HP.out.1 D c; omega
          have HM' := Aside0.mk (hI.mk_.cons (Nat.le_trans HP.out.2 hD) hK' HDn)
          have hb1 : (k : Int) ≤ 17179869184 := by have := HLT.out; omega
          have hw1 : wrap64 ((k : Int) + 1) = (k : Int) + 1 := by unfold wrap64; omega
          have HI := Aside0.mk hI
          have b6 := hI.b6
          clear hI hK' hD HDn
          gi_wp2_with (first
            | ((with_reducible refine gate_dstIn (N := 34) rfl ?_); refine ev_loadSIn b6 rfl 77 _ rfl rfl Tryd.underlying77 rfl (by kernel_rfl) ?_)
            | (gi_at_call 59; refine (callsIn_of HF (EN.out _)).mono ?_; rintro e w9 ⟨rfl, hb9⟩; have HK9 := Aside0.mk hb9; clear hb9))
          have I9 := HI.out.below (m' := 0) HK9.out (Nat.zero_le _)
          obtain ⟨v', b3, hrow, _⟩ := I9.out
          have es := idxL_step s k
          have el := congrArg List.length es
          rw [List.length_append, List.length_map] at el
          rw [es, el] at hrow
          refine HKK.out (nw - (k + 1)) _ _ (by have := HLT.out; omega) ⟨k + 1, D :: Ds, _, E, _, _, _, _, _, _, _, _, _, _, _, _, _, _, _, _, _, _, _, _, _, _, _, _, _, _, _, _, _, rfl, by omega, by have := HLT.out; omega, rfl, ⟨fun hk1 => ?_⟩, ⟨v', b3, hrow⟩, ⟨fun _ => I9.br⟩, ⟨I9.ht⟩, ⟨HM'.out.below HK9.out⟩, I9.hb⟩
          rw [HE.out, car_next, if_pos]
          have := HNW.out
          unfold nwords at this
          omega
        case stop =>
          rintro D c pre W _ _ h _
          exact h.elim
      exact AllReadyL.nil
    exact AllReadyL.nil
  · have EK : k = nw := by omega
    subst hz11
    have hq1 : decide (k < nw) = false := decide_eq_false (by omega)
    have HI := Aside0.mk EK
    have HROW := Aside0.mk hrow
    clear EK hlt hk hrow
    gi_wp2
    refine leaves_marks Ds W HM.out fun A hsw => ⟨_, results_tmp rfl _ _ _, v, rfl, ?_, hsw.below (Nat.le_refl _) HB.out⟩
    have e1 : idxL s (64 * k) = idxL s s.size := by
      rw [idxL_all s (64 * k) (by rw [HI.out, HNW.out]; unfold nwords; omega), idxL_all s s.size (Nat.le_refl _)]
    rw [← e1]
    exact hsw.own HROW.out
theorem marks_Index.calls (a0 : ByteArray) (r : List Int) (w : World) (hT : TabOk w) (h : marks_Index.f a0 = some r) :
    Calls Tryd.prog 26 #[.string a0] w fun e w' => ∃ v : Value, e = .returned v ∧ Kd.R (Kd.int .i64) 3 w' w.heap.size (fun _ => True) v r ∧ Below w.heap.size w w' := by
  unfold marks_Index.f at h
  by_cases hs : a0.size ≤ 1099511627776
  case neg => rw [if_neg hs] at h; cases h
  rw [if_pos hs] at h
  simp only [Option.some.injEq] at h
  subst h
  refine (marks_Index.walk a0 w hT hs).mono ?_
  rintro e w' ⟨v, rfl, hrow, hb⟩
  exact ⟨v, rfl, Kd.R_of_own hrow (fun _ _ => trivial), hb⟩
end


section
open Go.Proofs.YtgddljealeklkaaDoorQ Go.Proofs.YtgddljealeklkaaDoorM Go.Shelf
attribute [local go_sem] Oper.semAt_some
theorem beq_ne {a b : Int} (h : a ≠ b) : (a == b) = false := by rw [beq_eq_false_iff_ne]; exact h
theorem l_wrap {i : Nat} (h : i ≤ 1125899906842624) : IntKind.i64.wrap (i : Int) = (i : Int) := by rw [i64_w]; unfold wrap64; omega
theorem l_pred {z : Int} (h0 : 0 ≤ z) (h1 : z ≤ 1125899906842624) : wrap64 (z - 1) = z - 1 := by unfold wrap64; omega
/-- Behind the walk: all places have been told, or one at which the function said no. -/
def WalkEnd (s : ByteArray) (X : List Nat) (J : Nat → World → Prop) (Jx : Nat → Nat → World → Prop) (w : World) (e : Ending) (w' : World) : Prop :=
  ∃ d : Nat, e = .returned (.int .i64 (d : Int)) ∧ Turned X w w' ∧ ((d = dep s s.size ∧ J (placesL s).length w') ∨ ∃ i p, (placesL s)[i]? = some p ∧ d = dep s p ∧ Jx i p w')
/-- What the function owes at each place. -/
def Tells (P : Program) (s : ByteArray) (kf : Nat) (cap : Array Value) (X : List Nat) (B : Nat) (J : Nat → World → Prop) (Jx : Nat → Nat → World → Prop) : Prop :=
  ∀ (i p : Nat) (W : World), (placesL s)[i]? = some p → B ≤ W.heap.size → J i W → Calls P kf (#[.int .i64 (p : Int), .int .i64 ((dep s p : Nat) : Int)] ++ cap) W fun e W' =>
    ∃ b : Bool, e = .returned (.bool b) ∧ Turned X W W' ∧ (b = true → J (i + 1) W') ∧ (b = false → Jx i p W')
theorem Turned.trans' {X : List Nat} {A B C : World} (h : Turned X A B) (k : Turned X B C) : Turned X A C :=
  ⟨k.os.trans h.os, k.tape.trans h.tape, k.output.trans h.output, Nat.le_trans h.size k.size, fun i hi hn => (k.block i (Nat.lt_of_lt_of_le hi h.size) hn).trans (h.block i hi hn)⟩
set_option maxHeartbeats 8000000 in
set_option maxRecDepth 100000 in
theorem levels_walk.walk (s : ByteArray) (hs : s.size ≤ 1048576) (w : World) (hT : TabOk w) (kf : Nat) (cap : Array Value) (X : List Nat) (J : Nat → World → Prop) (Jx : Nat → Nat → World → Prop)
    (eg : ∀ args w, (callFunc kf args).run Tryd.prog w = .ok (.enter kf args) w) (hX : ∀ k ∈ X, k < w.heap.size) (hJb : ∀ W W', J 0 W → Below W.heap.size W W' → J 0 W') (hJ : Tells Tryd.prog s kf cap X w.heap.size J Jx) (h0 : J 0 w) :
    Calls Tryd.prog 64 #[.string s, .func (.func kf) #[] cap] w (WalkEnd s X J Jx w) := by
  obtain ⟨F, hF⟩ : ∃ F, F = Fence.wide := ⟨_, rfl⟩
  have HF := Aside0.mk hF
  refine (callsIn_wide (n := 9)).1 ?_
  rw [← hF]
  clear hF
  have hro := wide_round HF
  have HB := BelowH.refl w
  have f1 := wide_fn HF 26
  have f2 := wide_fn HF kf
  have HT := Aside0.mk hT
  have HS := Aside0.mk hs
  have HX := Aside0.mk hX
  have HJB := Aside0.mk hJb
  have HJ := Aside0.mk hJ
  have H0 := Aside0.mk h0
  have HLL : Aside0 ((placesL s).length ≤ 1048576) := ⟨by have := places_le s; omega⟩
  have IX : Aside0 (∀ W, TabOk W → Calls Tryd.prog 26 #[.string s] W fun e w' => ∃ v, e = .returned v ∧ w'.ownsRow W.heap.size 3 1 v (placesL s).length ((placesL s).map fun p => Value.int .i64 ((p : Nat) : Int)) ∧ Below W.heap.size W w') := ⟨fun W h => by
    have := marks_Index.walk s W h (by omega)
    rw [places_idx, List.length_map, List.map_map] at this
    exact this⟩
  clear hT hs hX hJb hJ h0
  refine callsIn_of_wp Tryd.func64 rfl (wide_fn HF _) ?_ (wide_round HF)
  simp only [Tryd.ntmps64, List.size_toArray, List.length_cons, List.length_nil, Nat.reduceAdd, Nat.reduceSub, Array.replicate_succ, Array.replicate_zero, List.push_toArray, List.append_toArray, List.nil_append, List.cons_append]
  gi_wp2_with (first
    | (gi_at_call 26; refine (callsIn_of HF (IX.out _ HT.out)).mono ?_; rintro e w4 ⟨v, rfl, hrow, hb⟩; have HR4 := Aside0.mk hrow; have HB4 := HB.step hb; have HK4 := Aside0.mk hb; obtain ⟨ad, cp, rfl⟩ := own_slice hrow; clear hrow hb))
  obtain ⟨gl, cur, HO⟩ : ∃ gl cur, Aside0 (((placesL s).length = 0) ∨ (ad = some ⟨gl, 0, none⟩ ∧ w.heap.size ≤ gl ∧ Blk w4 gl cur 3 ∧ ∀ (i : Nat) (p : Nat), (placesL s)[i]? = some p → cur[i]? = some (.int .i64 ((p : Nat) : Int)))) := by
    rcases row_openN HR4.out with ⟨h1, h2⟩ | ⟨gl, cap', cur, h1, h2, h3, h4⟩
    · exact ⟨0, #[], ⟨.inl h2⟩⟩
    · injection h1 with h1
      exact ⟨gl, cur, ⟨.inr ⟨h1, h2, h3, fun i p hi => h4 i _ (by rw [List.getElem?_map, hi]; rfl)⟩⟩⟩
  have HGET : Aside0 ((placesL s).length ≠ 0 → ad = some ⟨gl, 0, none⟩ ∧ gl ∉ X ∧ ∀ (i : Nat) (p : Nat), (placesL s)[i]? = some p → cur[i]? = some (.int .i64 ((p : Nat) : Int))) := ⟨fun h0 => by
    rcases HO.out with h | ⟨h1, h2, _, h3⟩
    · exact absurd h h0
    · exact ⟨h1, fun c => by have := HX.out gl c; omega, h3⟩⟩
  have I4 : Aside0 (J 0 w4 ∧ Turned X w w4 ∧ ((placesL s).length ≠ 0 → Blk w4 gl cur 3)) := ⟨HJB.out _ _ H0.out HK4.out, Turned.of_below HK4.out, fun h0 => by
    rcases HO.out with h | ⟨_, _, h2, _⟩
    · exact absurd h h0
    · exact h2⟩
  clear HO HR4 HK4 IX HT HB HB4 H0 HJB HX
  refine wpIn_loopM (fun m a W => ∃ (i : Nat) (dz z : Int) (y2 y3 y4 y6 y7 y8 y12 y13 y14 y15 y16 y17 y18 y19 y20 y21 y22 y23 y24 y25 y26 y27 y28 y29 y30 y31 y32 y33 y34 y35 : Value), m = (placesL s).length - i ∧ z = (i : Int) ∧ i ≤ (placesL s).length ∧ a = { tmps := #[.string s, .func (.func kf) #[] cap, y2, y3, y4, .int .i64 dz, y6, y7, y8, .slice ad (placesL s).length cp, .int .i64 ((placesL s).length : Int), .int .i64 z, y12, y13, y14, y15, y16, y17, y18, y19, y20, y21, y22, y23, y24, y25, y26, y27, y28, y29, y30, y31, y32, y33, y34, y35], defers := [] } ∧
    Aside0 (dz = ((dep s (nextP s i) : Nat) : Int)) ∧ Aside0 (J i W ∧ Turned X w W ∧ ((placesL s).length ≠ 0 → Blk W gl cur 3))) (placesL s).length
    ⟨0, 0, 0, _, _, _, _, _, _, _, _, _, _, _, _, _, _, _, _, _, _, _, _, _, _, _, _, _, _, _, _, _, _, rfl, rfl, Nat.zero_le _, rfl, ⟨by rw [dep_zero]; rfl⟩, I4⟩ ?_
  clear I4
  rintro m a W ⟨i, dz, z, y2, y3, y4, y6, y7, y8, y12, y13, y14, y15, y16, y17, y18, y19, y20, y21, y22, y23, y24, y25, y26, y27, y28, y29, y30, y31, y32, y33, y34, y35, rfl, hz, hi, rfl, HD, HI⟩ K hK
  have HKK := Aside0.mk hK
  clear hK
  by_cases hlt : i < (placesL s).length
  · obtain ⟨rfl, hgx, hcur⟩ := HGET.out (by omega)
    obtain ⟨p, hp⟩ : ∃ p, (placesL s)[i]? = some p := ⟨_, List.getElem?_eq_getElem hlt⟩
    obtain ⟨hpn, hbeg, hpe, hpm, hpz, _⟩ := place_at hp
    have HDN : Aside0 (dep s (nextP s (i + 1)) = _) := ⟨dep_next hp⟩
    have hdl := dep_le s p
    have hdzp := HD.out
    rw [← hpe] at hdzp
    have HCALL : Aside0 (Calls Tryd.prog kf (#[.int .i64 (p : Int), .int .i64 ((dep s p : Nat) : Int)] ++ cap) W fun e W' =>
      ∃ b : Bool, e = .returned (.bool b) ∧ Turned X W W' ∧ (b = true → J (i + 1) W') ∧ (b = false → Jx i p W')) := ⟨HJ.out i p W hp HI.out.2.1.size HI.out.1⟩
    have cl : W.cell? ⟨gl, i, none⟩ = some (.int .i64 ((p : Nat) : Int)) := (HI.out.2.2 (by omega)).cell (hcur i p hp)
    obtain ⟨c, hc⟩ : ∃ c, c = bt s (p : Int) := ⟨_, rfl⟩
    have hbyte : ∀ h : p < s.size, ((s[p]'h).toNat : Int) = c := fun h => by
      rw [hc]
      unfold bt
      rw [Int.toNat_natCast, dif_pos h]
    have hs8 := HS.out
    have hl8 := HLL.out
    rw [← hc] at HDN
    have hpB : p ≤ 1125899906842624 := by omega
    have hiB : i ≤ 1125899906842624 := by omega
    have hpB2 : ((p : Nat) : Int) ≤ 17179869184 := by omega
    have hiB2 : (i : Int) ≤ 17179869184 := by omega
    have hdB : 0 ≤ dz ∧ dz ≤ 17179869184 := by omega
    have hdB2 : dz ≤ 1125899906842624 := by omega
    have hq1 : (i : Int) < ((placesL s).length : Int) := by omega
    have hq2 : (0 : Int) ≤ (i : Int) := by omega
    have hp0 : (0 : Int) ≤ ((p : Nat) : Int) := by omega
    have hp1 : ((p : Nat) : Int) < (s.size : Int) := by omega
    have hq3 : wrap64 ((i : Int) + 1) = (i : Int) + 1 := wrap_succ hiB2 hq2
    have hq5 : IntKind.i64.wrap (i : Int) = (i : Int) := l_wrap hiB
    have hq7 : IntKind.i64.wrap ((p : Nat) : Int) = ((p : Nat) : Int) := l_wrap hpB
    have hq8 : wrap64 (dz + 1) = dz + 1 := wrap_succ hdB.2 hdB.1
    have hq9 : wrap64 (dz - 1) = dz - 1 := l_pred hdB.1 hdB2
    have HLT := Aside0.mk hlt
    have HPN := Aside0.mk (And.intro hp (And.intro hpn hbeg))
    have HDZ := Aside0.mk hdzp
    have HDL := Aside0.mk hdl
    have HC := Aside0.mk hc
    have HGX := Aside0.mk hgx
    have hdzp2 : Aside0 (((dep s p : Nat) : Int) = dz) := ⟨hdzp.symm⟩
    rw [hdzp2.out] at HCALL
    subst hz
    clear hp hpn hbeg hcur hc hs8 hl8 hlt hi hpB hiB hpB2 hiB2 hdB hdB2 hpe hpm hpz hdl hdzp hgx hdzp2
    have HW : Aside0 (Turned X w W ∧ ((placesL s).length ≠ 0 → Blk W gl cur 3)) := ⟨HI.out.2⟩
    clear HI HJ
    by_cases c1 : c = 123
    · subst c1
      have HN : Aside0 (((dep s (nextP s (i + 1)) : Nat) : Int) = dz + 1) := ⟨by rw [HDN.out, if_pos (by decide), HDZ.out]; omega⟩
      clear HDN
      gi_wp2_with (first | (refine (callsIn_of HF HCALL.out).mono ?_; rintro e W4 ⟨b, rfl, hturn, hb1, hb2⟩; have HB1 := Aside0.mk hb1; have HB2 := Aside0.mk hb2; have HTU := Aside0.mk hturn; clear hb1 hb2 hturn; cases b))
      all_goals first
        | (refine bodyPost_ret (results_tmp rfl _ _ _) rfl ?_
           refine ⟨dep s p, ?_, Turned.trans' HW.out.1 HTU.out, .inr ⟨i, p, HPN.out.1, rfl, HB2.out (by simp)⟩⟩
           rw [← HDZ.out]
           rfl)
        | exact HKK.out ((placesL s).length - (i + 1)) _ _ (by have := HLT.out; omega) ⟨i + 1, _, _, _, _, _, _, _, _, _, _, _, _, _, _, _, _, _, _, _, _, _, _, _, _, _, _, _, _, _, _, _, _, rfl, by omega, by have := HLT.out; omega, rfl, ⟨by first | exact HN.out.symm | (rw [hq8]; exact HN.out.symm) | (have h_ := HN.out; omega)⟩, ⟨HB1.out (by simp), Turned.trans' HW.out.1 HTU.out, fun h => (HW.out.2 h).turned HTU.out HGX.out⟩⟩
    have t1 : (c == 123) = false := beq_ne c1
    clear c1
    by_cases c2 : c = 91
    · subst c2
      have HN : Aside0 (((dep s (nextP s (i + 1)) : Nat) : Int) = dz + 1) := ⟨by rw [HDN.out, if_pos (by decide), HDZ.out]; omega⟩
      clear HDN
      gi_wp2_with (first | (refine (callsIn_of HF HCALL.out).mono ?_; rintro e W4 ⟨b, rfl, hturn, hb1, hb2⟩; have HB1 := Aside0.mk hb1; have HB2 := Aside0.mk hb2; have HTU := Aside0.mk hturn; clear hb1 hb2 hturn; cases b))
      all_goals first
        | (refine bodyPost_ret (results_tmp rfl _ _ _) rfl ?_
           refine ⟨dep s p, ?_, Turned.trans' HW.out.1 HTU.out, .inr ⟨i, p, HPN.out.1, rfl, HB2.out (by simp)⟩⟩
           rw [← HDZ.out]
           rfl)
        | exact HKK.out ((placesL s).length - (i + 1)) _ _ (by have := HLT.out; omega) ⟨i + 1, _, _, _, _, _, _, _, _, _, _, _, _, _, _, _, _, _, _, _, _, _, _, _, _, _, _, _, _, _, _, _, _, rfl, by omega, by have := HLT.out; omega, rfl, ⟨by first | exact HN.out.symm | (rw [hq8]; exact HN.out.symm) | (have h_ := HN.out; omega)⟩, ⟨HB1.out (by simp), Turned.trans' HW.out.1 HTU.out, fun h => (HW.out.2 h).turned HTU.out HGX.out⟩⟩
    have t2 : (c == 91) = false := beq_ne c2
    clear c2
    by_cases c3 : c = 125
    · subst c3
      have HN : Aside0 (((dep s (nextP s (i + 1)) : Nat) : Int) = max (dz - 1) 0) := ⟨by rw [HDN.out, if_neg (by decide), if_pos (by decide), HDZ.out]; omega⟩
      clear HDN
      gi_wp2_with (first | (refine (callsIn_of HF HCALL.out).mono ?_; rintro e W4 ⟨b, rfl, hturn, hb1, hb2⟩; have HB1 := Aside0.mk hb1; have HB2 := Aside0.mk hb2; have HTU := Aside0.mk hturn; clear hb1 hb2 hturn; cases b))
      all_goals first
        | (refine bodyPost_ret (results_tmp rfl _ _ _) rfl ?_
           refine ⟨dep s p, ?_, Turned.trans' HW.out.1 HTU.out, .inr ⟨i, p, HPN.out.1, rfl, HB2.out (by simp)⟩⟩
           rw [← HDZ.out]
           rfl)
        | exact HKK.out ((placesL s).length - (i + 1)) _ _ (by have := HLT.out; omega) ⟨i + 1, _, _, _, _, _, _, _, _, _, _, _, _, _, _, _, _, _, _, _, _, _, _, _, _, _, _, _, _, _, _, _, _, rfl, by omega, by have := HLT.out; omega, rfl, ⟨by first | exact HN.out.symm | (rw [hq8]; exact HN.out.symm) | (have h_ := HN.out; omega)⟩, ⟨HB1.out (by simp), Turned.trans' HW.out.1 HTU.out, fun h => (HW.out.2 h).turned HTU.out HGX.out⟩⟩
    have t3 : (c == 125) = false := beq_ne c3
    clear c3
    by_cases c4 : c = 93
    · subst c4
      have HN : Aside0 (((dep s (nextP s (i + 1)) : Nat) : Int) = max (dz - 1) 0) := ⟨by rw [HDN.out, if_neg (by decide), if_pos (by decide), HDZ.out]; omega⟩
      clear HDN
      gi_wp2_with (first | (refine (callsIn_of HF HCALL.out).mono ?_; rintro e W4 ⟨b, rfl, hturn, hb1, hb2⟩; have HB1 := Aside0.mk hb1; have HB2 := Aside0.mk hb2; have HTU := Aside0.mk hturn; clear hb1 hb2 hturn; cases b))
      all_goals first
        | (refine bodyPost_ret (results_tmp rfl _ _ _) rfl ?_
           refine ⟨dep s p, ?_, Turned.trans' HW.out.1 HTU.out, .inr ⟨i, p, HPN.out.1, rfl, HB2.out (by simp)⟩⟩
           rw [← HDZ.out]
           rfl)
        | exact HKK.out ((placesL s).length - (i + 1)) _ _ (by have := HLT.out; omega) ⟨i + 1, _, _, _, _, _, _, _, _, _, _, _, _, _, _, _, _, _, _, _, _, _, _, _, _, _, _, _, _, _, _, _, _, rfl, by omega, by have := HLT.out; omega, rfl, ⟨by first | exact HN.out.symm | (rw [hq8]; exact HN.out.symm) | (have h_ := HN.out; omega)⟩, ⟨HB1.out (by simp), Turned.trans' HW.out.1 HTU.out, fun h => (HW.out.2 h).turned HTU.out HGX.out⟩⟩
    have t4 : (c == 93) = false := beq_ne c4
    clear c4
    have HN : Aside0 (((dep s (nextP s (i + 1)) : Nat) : Int) = dz) := ⟨by
      have e1 : opensB c = false := by unfold opensB; rw [t1, t2]; rfl
      have e2 : closesB c = false := by unfold closesB; rw [t3, t4]; rfl
      rw [HDN.out, e1, e2, if_neg (by decide), if_neg (by decide), HDZ.out]⟩
    clear HDN
    gi_wp2_with (first | (refine (callsIn_of HF HCALL.out).mono ?_; rintro e W4 ⟨b, rfl, hturn, hb1, hb2⟩; have HB1 := Aside0.mk hb1; have HB2 := Aside0.mk hb2; have HTU := Aside0.mk hturn; clear hb1 hb2 hturn; cases b))
    all_goals first
      | (refine bodyPost_ret (results_tmp rfl _ _ _) rfl ?_
         refine ⟨dep s p, ?_, Turned.trans' HW.out.1 HTU.out, .inr ⟨i, p, HPN.out.1, rfl, HB2.out (by simp)⟩⟩
         rw [← HDZ.out]
         rfl)
      | exact HKK.out ((placesL s).length - (i + 1)) _ _ (by have := HLT.out; omega) ⟨i + 1, _, _, _, _, _, _, _, _, _, _, _, _, _, _, _, _, _, _, _, _, _, _, _, _, _, _, _, _, _, _, _, _, rfl, by omega, by have := HLT.out; omega, rfl, ⟨by first | exact HN.out.symm | (rw [hq8]; exact HN.out.symm) | (have h_ := HN.out; omega)⟩, ⟨HB1.out (by simp), Turned.trans' HW.out.1 HTU.out, fun h => (HW.out.2 h).turned HTU.out HGX.out⟩⟩
  · have EI : i = (placesL s).length := by omega
    have hq1 : decide ((i : Int) < ((placesL s).length : Int)) = false := decide_eq_false (by omega)
    have hq2 : decide (i < (placesL s).length) = false := decide_eq_false (by omega)
    have HE := Aside0.mk EI
    subst hz
    clear hlt hi EI
    gi_wp2
    refine bodyPost_ret (results_tmp rfl _ _ _) rfl ?_
    refine ⟨dep s s.size, ?_, HI.out.2.1, .inl ⟨rfl, ?_⟩⟩
    · rw [← next_end (s := s) (i := i) (by have := HE.out; omega), ← HD.out]
      rfl
    · have := HI.out.1
      rw [HE.out] at this
      exact this
end


section
open Go.Proofs.YtgddljealeklkaaDoorQ Go.Proofs.YtgddljealeklkaaDoorM
/-- One word of one row: where it lies, and what is the case when another one has been stored there. -/
theorem S_inner {W : World} {base : Nat} {ok : Nat → Prop} {v : Value} {rows : List S34} (h : Kd.S k34 34 W base ok v rows) {i j : Nat} {r : S34} (hi : rows[i]? = some r) {x : Int} (hj : r.f1[j]? = some x) :
    ∃ g cap cur gi capi curi, v = .slice (some ⟨g, 0, none⟩) rows.length cap ∧ Blk W g cur 34 ∧ cur[i * 2 + 1]? = some (.slice (some ⟨gi, 0, none⟩) r.f1.length capi) ∧ Blk W gi curi 75 ∧ curi[j]? = some (.int .u64 x) ∧ base ≤ gi ∧ ok gi ∧ g ≠ gi ∧
      ∀ (y : Int) (W' : World), Blk W' gi (curi.setIfInBounds j (.int .u64 y)) 75 → W.grownBy W' (some gi) → Kd.S k34 34 W' base ok v (rows.set i ⟨r.f0, r.f1.set j y⟩) := by
  obtain ⟨f, h0, inner, ho, hr⟩ := h
  have ho : W.ownsRow base 34 2 v rows.length inner := by
    have := ho
    rw [List.length_zipIdx] at this
    exact this
  have hz : ∀ k (p : S34), rows[k]? = some p → rows.zipIdx[k]? = some (p, k) := fun k p hp => by rw [List.getElem?_zipIdx, hp, Nat.zero_add]; rfl
  have hlz : rows.zipIdx.length = rows.length := List.length_zipIdx ..
  have hil : i < rows.length := (List.getElem?_eq_some_iff.1 hi).1
  obtain ⟨c0, cc, hcs, hc0, vi, hcc, hR⟩ := hr.2 i (r, i) (hz i r hi)
  have hc0 : c0 = [.int .i64 r.f0] := hc0
  have hR : (Kd.int .u64).R 75 W base _ vi r.f1 := hR
  obtain ⟨_, hv⟩ := row_open (Kd.own_of_R hR)
  have hjl : j < r.f1.length := (List.getElem?_eq_some_iff.1 hj).1
  rcases row_openN ho with ⟨_, h2⟩ | ⟨g, cap, cur, rfl, hbg, BG, hget⟩
  · omega
  rcases hv with ⟨_, h2⟩ | ⟨gi, capi, curi, rfl, hbi, BI, q1, q2, q3, HA⟩
  · omega
  have hoki := hR.1 gi rfl
  have hne : g ≠ gi := fun e => hoki.1.2 (by rw [e]; rfl)
  have hlen : inner.length = rows.length * 2 := by rw [hr.1, hlz]; rfl
  refine ⟨g, cap, cur, gi, capi, curi, rfl, BG, hget _ _ ?_, BI, HA.get (by simp [encs, hj]), hbi, hoki.1.1, hne, fun y W' B' hg => ?_⟩
  · have e1 : ((inner.drop (i * 2)).take 2)[1]? = some (.slice (some ⟨gi, 0, none⟩) r.f1.length capi) := by
      have : (inner.drop (i * 2)).take 2 = c0 ++ cc := hcs
      rw [this, hc0, hcc]
      rfl
    rw [List.getElem?_take, if_pos (by decide), List.getElem?_drop] at e1
    exact e1
  · have hsame : ∀ k, k < W.heap.size → k ≠ gi → W'.heap[k]? = W.heap[k]? := fun k hk hn => hg.block k hk (fun e => hn (Option.some.inj e))
    refine ⟨f, h0, inner, ?_, ?_, ?_⟩
    · rw [show (rows.set i ⟨r.f0, r.f1.set j y⟩).zipIdx.length = rows.length by simp]
      exact own_move ho fun k hk => hsame k (World.ownsRow.lt ho k hk).2 (fun e => by
        have : g = k := Option.some.inj hk
        exact hne (this.trans e))
    · rw [show (rows.set i ⟨r.f0, r.f1.set j y⟩).zipIdx.length = rows.zipIdx.length by simp]
      exact hr.1
    · intro k p hp
      rw [List.getElem?_zipIdx, Nat.zero_add] at hp
      obtain ⟨p', hp', rfl⟩ := Option.map_eq_some_iff.1 hp
      by_cases e : i = k
      · subst e
        rw [List.getElem?_set_self hil] at hp'
        injection hp' with hp'
        subst hp'
        refine ⟨c0, cc, hcs, hc0, .slice (some ⟨gi, 0, none⟩) r.f1.length capi, hcc, ?_⟩
        have hrow : W'.ownsRow base 75 1 (.slice (some ⟨gi, 0, none⟩) r.f1.length capi) r.f1.length (encs (Value.int .u64) (r.f1.set j y)) := by
          refine row_shut hbi B' q1 q2 (by rw [Array.size_setIfInBounds]; exact q3) (by simp [encs]) ?_
          have := HA.set j (.int .u64 y)
          unfold encs at this ⊢
          rw [List.map_set]
          exact this
        have e3 : (r.f1.set j y).length = r.f1.length := List.length_set ..
        have hrow2 : W'.ownsRow base 75 1 (.slice (some ⟨gi, 0, none⟩) r.f1.length capi) (r.f1.set j y).length (encs (Value.int .u64) (r.f1.set j y)) := by rw [e3]; exact hrow
        exact Kd.R_of_own hrow2 (fun k hk => hR.1 k hk)
      · rw [List.getElem?_set_ne e] at hp'
        have hM : k34.M W base (fun b => (ok b ∧ some b ≠ (Value.slice (some ⟨g, 0, none⟩) rows.length cap).ownBlock) ∧ f b = k) p' _ := hr.2 k (p', k) (hz k p' hp')
        exact k34.M_mono (fun _ hk => hk.1) (k34.M_move (fun b hb' => hsame b hb'.2.2.1 (fun e2 => e (by
          have h5 := hb'.1.2
          rw [e2, hoki.2] at h5
          exact h5))) (k34.M_bound hM))
/-- The rows of all levels, of what lies below a place. -/
def rowsB (s : ByteArray) (b : Int) (most lim : Nat) : List S34 := (List.range most).map fun k => ⟨(s.size : Int), colW s b lim k⟩
theorem rowsB_at (s : ByteArray) (b : Int) (most lim k : Nat) (h : k < most) : (rowsB s b most lim)[k]? = some ⟨(s.size : Int), colW s b lim k⟩ := by
  unfold rowsB
  rw [List.getElem?_map, List.getElem?_range h]
  rfl
theorem rowsB_put {s : ByteArray} {i p : Nat} (h : (placesL s)[i]? = some p) (b : Int) (hb : b = 58 ∨ b = 44) (hc : bt s (p : Int) = b) (most : Nat) (h1 : 1 ≤ dep s p) (h2 : dep s p ≤ most) :
    (rowsB s b most (nextP s i)).set (dep s p - 1) ⟨(s.size : Int), (colW s b (nextP s i) (dep s p - 1)).set (p / 64) (Go.bits .or .u64 ((colW s b (nextP s i) (dep s p - 1)).getD (p / 64) 0) (shl .u64 1 ((p % 64 : Nat) : Int)))⟩ = rowsB s b most (nextP s (i + 1)) := by
  have hbg := (place_at h).2.1
  apply List.ext_getElem?
  intro k
  by_cases e : dep s p - 1 = k
  · subst e
    rw [List.getElem?_set_self (by unfold rowsB; rw [List.length_map, List.length_range]; omega), rowsB_at _ _ _ _ _ (by omega)]
    rw [colW_put h b (dep s p - 1) (by rw [colq_beg hbg b hb, decide_eq_true hc, decide_eq_true (by omega)]; rfl)]
  · rw [List.getElem?_set_ne e]
    by_cases hk : k < most
    · rw [rowsB_at _ _ _ _ _ hk, rowsB_at _ _ _ _ _ hk, colW_keep h b k (by rw [colq_beg hbg b hb, decide_eq_false (show ¬ dep s p = k + 1 by omega), Bool.and_false])]
    · unfold rowsB
      rw [List.getElem?_eq_none (by simp; omega), List.getElem?_eq_none (by simp; omega)]
theorem rowsB_keep {s : ByteArray} {i p : Nat} (h : (placesL s)[i]? = some p) (b : Int) (hb : b = 58 ∨ b = 44) (most : Nat) (hc : bt s (p : Int) ≠ b ∨ dep s p < 1 ∨ most < dep s p) : rowsB s b most (nextP s (i + 1)) = rowsB s b most (nextP s i) := by
  have hbg := (place_at h).2.1
  unfold rowsB
  refine List.map_congr_left fun k hk => ?_
  have hk := List.mem_range.1 hk
  rw [colW_keep h b k (by
    rw [colq_beg hbg b hb]
    rcases hc with hc | hc | hc
    · rw [decide_eq_false hc, Bool.false_and]
    · rw [decide_eq_false (show ¬ dep s p = k + 1 by omega), Bool.and_false]
    · rw [decide_eq_false (show ¬ dep s p = k + 1 by omega), Bool.and_false])]
/-- Between two places. -/
structure BuI (s : ByteArray) (most gm gs gl : Nat) (va vb : Value) (base : Nat) (X : List Nat) (okA okB : Nat → Prop) (lim : Nat) (W : World) : Prop where mk ::
  bm : Blk W gm #[.int .i64 (most : Int)] 3
  bs : Blk W gs #[.string s] 9
  bl : Blk W gl #[va, vb] 48
  ra : Kd.S k34 34 W base okA va (rowsB s 58 most lim)
  rb : Kd.S k34 34 W base okB vb (rowsB s 44 most lim)
  dis : ∀ k, okA k → okB k → False
  oa : ∀ k, okA k → k ∈ X
  ob : ∀ k, okB k → k ∈ X
theorem BuI.below {s : ByteArray} {most gm gs gl : Nat} {va vb : Value} {base : Nat} {X : List Nat} {okA okB : Nat → Prop} {lim : Nat} {W W' : World} (h : BuI s most gm gs gl va vb base X okA okB lim W) (hb : Below W.heap.size W W') : BuI s most gm gs gl va vb base X okA okB lim W' :=
  ⟨h.bm.below hb, h.bs.below hb, h.bl.below hb, Kd.S_below h.ra hb, Kd.S_below h.rb hb, h.dis, h.oa, h.ob⟩
theorem turned_grown {X : List Nat} {W W' : World} {gi : Nat} (hX : gi ∈ X) (hg : W.grownBy W' (some gi)) : Turned X W W' :=
  ⟨hg.os, hg.tape, hg.output, hg.size, fun k hk hn => hg.block k hk (fun e => hn (by rw [Option.some.inj e]; exact hX))⟩
theorem blk_grown {W W' : World} {g gi : Nat} {cs : Array Value} {t : Nat} (h : Blk W g cs t) (hne : g ≠ gi) (hg : W.grownBy W' (some gi)) : Blk W' g cs t := ⟨(hg.block g h.lt (fun e => hne (Option.some.inj e))).trans h.out⟩
theorem shl_two (z : Int) (h : z.toNat ≤ 64) : shl .u64 1 z = IntKind.u64.wrap (2 ^ z.toNat) := by
  have e : min z.toNat IntKind.u64.bits = z.toNat := Nat.min_eq_left h
  unfold shl
  rw [e, Int.one_mul]
theorem bu_dep {d k m : Nat} (h : d = k + 1) (h2 : k < m) : 1 ≤ d ∧ d ≤ m ∧ d - 1 = k := by omega
theorem bu_div (p n : Nat) (h : p < n) (hn : n ≤ 1048576) : ∃ (pq nw : Nat) (pr : Int), Aside0 (pq = p / 64 ∧ pr = ((p % 64 : Nat) : Int) ∧ nw = nwords n ∧ pq < nw) ∧ Int.tdiv (p : Int) 64 = (pq : Int) ∧ (p : Int) / 64 = (pq : Int) ∧ Int.tmod (p : Int) 64 = pr ∧ (p : Int) % 64 = pr ∧
    wrap64 (pq : Int) = (pq : Int) ∧ IntKind.i64.wrap (pq : Int) = (pq : Int) ∧ wrap64 pr = pr ∧ IntKind.i64.wrap pr = pr ∧ 0 ≤ pr ∧ (0 : Int) ≤ (pq : Int) ∧ (pq : Int) < (nw : Int) ∧ pq < nw := by
  have w1 : ∀ z : Nat, z ≤ 1048576 → wrap64 (z : Int) = (z : Int) := fun z hz => by unfold wrap64; omega
  have hq : p / 64 ≤ 1048576 := by omega
  have hr : p % 64 ≤ 1048576 := by omega
  have hlt : p / 64 < nwords n := by unfold nwords; omega
  exact ⟨p / 64, nwords n, ((p % 64 : Nat) : Int), ⟨rfl, rfl, rfl, hlt⟩, rfl, rfl, rfl, rfl, w1 _ hq, by rw [i64_w]; exact w1 _ hq, w1 _ hr, by rw [i64_w]; exact w1 _ hr, Int.natCast_nonneg _, Int.natCast_nonneg _, Int.ofNat_lt.2 hlt, hlt⟩
def BuTold (s : ByteArray) (most gm gs gl : Nat) (va vb : Value) (base : Nat) (okA okB : Nat → Prop) (X : List Nat) (i : Nat) (w : World) (e : Ending) (w' : World) : Prop :=
  e = .returned (.bool true) ∧ Turned X w w' ∧ BuI s most gm gs gl va vb base X okA okB (nextP s (i + 1)) w'
set_option maxHeartbeats 8000000 in
set_option maxRecDepth 100000 in
theorem levels_Build_1.calls (s : ByteArray) (hs : s.size ≤ 1048576) (most : Nat) (hm : 1 ≤ most ∧ most ≤ 64) (gm gs gl : Nat) (va vb : Value) (base : Nat) (okA okB : Nat → Prop) (X : List Nat) (i p : Nat) (hp : (placesL s)[i]? = some p) (w : World) (I : BuI s most gm gs gl va vb base X okA okB (nextP s i) w) :
    Calls Tryd.prog 65 #[.int .i64 (p : Int), .int .i64 ((dep s p : Nat) : Int), .pointer (some ⟨gm, 0, none⟩), .pointer (some ⟨gs, 0, none⟩), .pointer (some ⟨gl, 0, none⟩)] w (BuTold s most gm gs gl va vb base okA okB X i w) := by
  have HI := Aside0.mk I
  have HP := Aside0.mk hp
  have HM := Aside0.mk hm
  have HSZ := Aside0.mk hs
  obtain ⟨hpn, hbg, hpe, hrest⟩ := place_at hp
  clear hrest
  have hdl := dep_le s p
  have cm : w.cell? ⟨gm, 0, none⟩ = some (.int .i64 (most : Int)) := I.bm.cell (i := 0) rfl
  have cs : w.cell? ⟨gs, 0, none⟩ = some (.string s) := I.bs.cell (i := 0) rfl
  obtain ⟨d, hd⟩ : ∃ d : Int, d = ((dep s p : Nat) : Int) := ⟨_, rfl⟩
  rw [← hd]
  have HD := Aside0.mk hd
  have hp0 : (0 : Int) ≤ (p : Int) := by omega
  have hp1 : (p : Int) < (s.size : Int) := by omega
  have keepAll : (d < 1 ∨ (most : Int) < d) → BuI s most gm gs gl va vb base X okA okB (nextP s (i + 1)) w := fun h => by
    have e1 := rowsB_keep hp 58 (.inl rfl) most (.inr (by omega))
    have e2 := rowsB_keep hp 44 (.inr rfl) most (.inr (by omega))
    exact ⟨I.bm, I.bs, I.bl, by rw [e1]; exact I.ra, by rw [e2]; exact I.rb, I.dis, I.oa, I.ob⟩
  by_cases h1 : d < 1
  · have q1 : decide (d < 1) = true := decide_eq_true h1
    have HK := Aside0.mk (keepAll (.inl h1))
    clear keepAll h1 hd hdl I hp hm hs hpn hbg hpe
    go_enter Tryd.func65, Tryd.ntmps65
    go_wp2
    go_ret
    exact ⟨rfl, Turned.of_below (Below.refl _ _), HK.out⟩
  by_cases h2 : (most : Int) < d
  · have q1 : decide (d < 1) = false := decide_eq_false h1
    have q2 : decide ((most : Int) < d) = true := decide_eq_true h2
    have q3 : (most : Int) < d := h2
    have HK := Aside0.mk (keepAll (.inr h2))
    clear keepAll h1 h2 hd hdl I hp hm hs hpn hbg hpe
    go_enter Tryd.func65, Tryd.ntmps65
    go_wp2
    go_ret
    exact ⟨rfl, Turned.of_below (Below.refl _ _), HK.out⟩
  have q1 : decide (d < 1) = false := decide_eq_false h1
  have q2 : decide ((most : Int) < d) = false := decide_eq_false h2
  have qa : 1 ≤ d := by omega
  have qb : d ≤ (most : Int) := by omega
  obtain ⟨c, hc⟩ : ∃ c, c = bt s (p : Int) := ⟨_, rfl⟩
  have hbyte : ∀ h : p < s.size, ((s[p]'h).toNat : Int) = c := fun h => by
    rw [hc]
    unfold bt
    rw [Int.toNat_natCast, dif_pos h]
  have HC := Aside0.mk hc
  obtain ⟨k, hk⟩ : ∃ k : Nat, k = dep s p - 1 := ⟨_, rfl⟩
  have HKD := Aside0.mk (show dep s p = k + 1 ∧ k < most by omega)
  have hk1 : wrap64 (d - 1) = (k : Int) := by unfold wrap64; omega
  have hk2 : IntKind.i64.wrap (d - 1) = (k : Int) := by rw [i64_w]; exact hk1
  obtain ⟨pq, nw, pr, HPN, hd1, hd2, hr1, hr2, hd3, hd4, hr3, hr4, hr5, g4, g5, g6⟩ := bu_div p s.size hpn hs
  obtain ⟨sv, hsv⟩ : ∃ sv : Int, sv = IntKind.u64.wrap (2 ^ pr.toNat) := ⟨_, rfl⟩
  have HSV : Aside0 (sv = shl .u64 1 pr) := ⟨by rw [hsv, shl_two pr (by rw [HPN.out.2.1, Int.toNat_natCast]; exact Nat.le_of_lt (Nat.mod_lt _ (by decide)))]⟩
  have hsv2 : IntKind.u64.wrap (2 ^ pr.toNat) = sv := hsv.symm
  have g1 : (0 : Int) ≤ (k : Int) := Int.natCast_nonneg k
  have g3 : k < most := HKD.out.2
  have g2 : (k : Int) < (most : Int) := Int.ofNat_lt.2 g3
  clear keepAll h1 h2 hd hdl hp hm hs hpn hbg hpe hc hk hsv
  by_cases c1 : c = 58
  · subst c1
    have KB : Aside0 (rowsB s 44 most (nextP s (i + 1)) = rowsB s 44 most (nextP s i)) := ⟨rowsB_keep HP.out 44 (.inr rfl) most (.inl (by rw [← HC.out]; decide))⟩
    obtain ⟨x, hx⟩ : ∃ x, (colW s 58 (nextP s i) k)[pq]? = some x := ⟨_, List.getElem?_eq_getElem (by rw [colW_length, ← HPN.out.2.2.1]; exact HPN.out.2.2.2)⟩
    obtain ⟨g, cap, cur, gi, capi, curi, hv, BG, hgc, BI, hcx, hbi, hoi, hgg, hgo⟩ := S_inner (Kd.S_drew I.ra) (i := k) (j := pq) (rowsB_at s 58 most (nextP s i) k HKD.out.2) hx
    have hlr : (rowsB s 58 most (nextP s i)).length = most := by unfold rowsB; rw [List.length_map, List.length_range]
    have hlw : (colW s 58 (nextP s i) k).length = nw := by rw [colW_length]; exact HPN.out.2.2.1.symm
    rw [hlr] at hv
    dsimp only at hgc hgo
    rw [hlw] at hgc
    have HX := Aside0.mk hcx
    have HPQ : Aside0 (pq < curi.size) := ⟨by
      have := (Array.getElem?_eq_some_iff.1 hcx).1
      exact this⟩
    have HGO : Aside0 (∀ (z : Int) (W' : World), Blk W' gi (curi.setIfInBounds pq (.int .u64 z)) 75 → w.drew.grownBy W' (some gi) → z = Go.bits .or .u64 x sv → BuTold s most gm gs gl va vb base okA okB X i w (.returned (.bool true)) W') := ⟨fun z W' B' hg hz => by
      have I := HI.out
      have hb : gi ∈ X := I.oa gi hoi
      have n1 : gm ≠ gi := I.bm.drew.ne BI (by decide)
      have n2 : gs ≠ gi := I.bs.drew.ne BI (by decide)
      have n3 : gl ≠ gi := I.bl.drew.ne BI (by decide)
      have hset := hgo z W' B' hg
      have hxd : (colW s 58 (nextP s i) k).getD (p / 64) 0 = x := by
        rw [← HPN.out.1, List.getD_eq_getElem?_getD, hx]
        rfl
      have hkd : 1 ≤ dep s p ∧ dep s p ≤ most ∧ dep s p - 1 = k := bu_dep HKD.out.1 HKD.out.2
      have hput := rowsB_put HP.out 58 (.inl rfl) HC.out.symm most hkd.1 hkd.2.1
      rw [hkd.2.2, hxd, ← HPN.out.1, ← HPN.out.2.1, ← HSV.out, ← hz] at hput
      rw [hput] at hset
      have ht := turned_grown hb hg
      refine ⟨rfl, ⟨ht.os, ht.tape, ht.output, ht.size, ht.block⟩, ?_⟩
      have hother : Kd.S k34 34 W' base okB vb (rowsB s 44 most (nextP s (i + 1))) := by
        rw [KB.out]
        exact Kd.S_grown (Kd.S_drew I.rb) hg (fun b hb' e => by
          have e' := Option.some.inj e
          subst e'
          exact I.dis _ hoi hb')
      exact ⟨blk_grown I.bm.drew n1 hg, blk_grown I.bs.drew n2 hg, blk_grown I.bl.drew n3 hg, hset, hother, I.dis, I.oa, I.ob⟩⟩
    clear hgo hlr hlw hbi hoi hx hcx hgg
    subst hv
    go_enter Tryd.func65, Tryd.ntmps65
    go_upto_region 5 with (fail)
    clear cm cs hbyte
    refine wp_region_noPanic ?_
    refine wp_region_last_drew (S := fun W' => Blk W' gl #[.slice (some ⟨g, 0, none⟩) most cap, vb] 48 ∧ W'.cell? ⟨g, k * 2 + 1, none⟩ = some (.slice (some ⟨gi, 0, none⟩) nw capi) ∧ Blk W' gi curi 75) (ds := [16]) (by kernel_rfl) ⟨I.bl.drew, BG.drew.cell hgc, BI⟩ (fun hS => ?_)
    refine' wpAnyLast_take (i := 0) (oi := Oper.mk _ _ _ _ _ _) rfl (by kernel_rfl) (by kernel_rfl) (by kernel_rfl) (by kernel_rfl) (by kernel_rfl) (fun _ _ _ h => h) (Or.inl ⟨by rfl, ?hy1⟩) hS ?rest1
    case hy1 => (intro w hSw; (try dsimp only at hSw); first | (go_simp; done) | (go_simp; with_reducible rfl))
    try simp only [Act.put, List.setIfInBounds_toArray, List.set_cons_zero, List.set_cons_succ]
    refine wpAnyLast_take (i := 1) (oi := Oper.mk _ _ _ _ _ _) rfl (by kernel_rfl) (by kernel_rfl) (by kernel_rfl) (by kernel_rfl) (by kernel_rfl) (fun _ _ _ h => h) (rg_load1 (by rfl) (fun _ hS => hS.1.cell (i := 0) rfl) 46 _ rfl rfl (fun _ => by simp [isAgg, run_underlying Tryd.underlying46])) hS ?_
    try simp only [Act.put, List.setIfInBounds_toArray, List.set_cons_zero, List.set_cons_succ]
    refine' wpAnyLast_take (i := 2) (oi := Oper.mk _ _ _ _ _ _) rfl (by kernel_rfl) (by kernel_rfl) (by kernel_rfl) (by kernel_rfl) (by kernel_rfl) (fun _ _ _ h => h) (Or.inl ⟨by rfl, ?hy2⟩) hS ?rest2
    case hy2 => (intro w hSw; (try dsimp only at hSw); first | (go_simp; done) | (go_simp; with_reducible rfl))
    try simp only [Act.put, List.setIfInBounds_toArray, List.set_cons_zero, List.set_cons_succ]
    refine' wpAnyLast_take (i := 3) (oi := Oper.mk _ _ _ _ _ _) rfl (by kernel_rfl) (by kernel_rfl) (by kernel_rfl) (by kernel_rfl) (by kernel_rfl) (fun _ _ _ h => h) (Or.inl ⟨by rfl, ?hy3⟩) hS ?rest3
    case hy3 => (intro w hSw; (try dsimp only at hSw); first | (go_simp; done) | (go_simp; with_reducible rfl))
    try simp only [Act.put, List.setIfInBounds_toArray, List.set_cons_zero, List.set_cons_succ]
    refine' wpAnyLast_take (i := 4) (oi := Oper.mk _ _ _ _ _ _) rfl (by kernel_rfl) (by kernel_rfl) (by kernel_rfl) (by kernel_rfl) (by kernel_rfl) (fun _ _ _ h => h) (Or.inl ⟨by rfl, ?hy4⟩) hS ?rest4
    case hy4 => (intro w hSw; (try dsimp only at hSw); first | (go_simp; done) | (go_simp; with_reducible rfl))
    try simp only [Act.put, List.setIfInBounds_toArray, List.set_cons_zero, List.set_cons_succ]
    refine' wpAnyLast_take (i := 5) (oi := Oper.mk _ _ _ _ _ _) rfl (by kernel_rfl) (by kernel_rfl) (by kernel_rfl) (by kernel_rfl) (by kernel_rfl) (fun _ _ _ h => h) (Or.inl ⟨by rfl, ?hy5⟩) hS ?rest5
    case hy5 => (intro w hSw; (try dsimp only at hSw); first | (go_simp; done) | (go_simp; with_reducible rfl))
    try simp only [Act.put, List.setIfInBounds_toArray, List.set_cons_zero, List.set_cons_succ]
    refine wpAnyLast_take (i := 6) (oi := Oper.mk _ _ _ _ _ _) rfl (by kernel_rfl) (by kernel_rfl) (by kernel_rfl) (by kernel_rfl) (by kernel_rfl) (fun _ _ _ h => h) (rg_load1 (by rfl) (fun _ hS => hS.2.1) 32 _ rfl rfl (fun _ => by simp [isAgg, run_underlying Tryd.underlying32])) hS ?_
    try simp only [Act.put, List.setIfInBounds_toArray, List.set_cons_zero, List.set_cons_succ]
    refine' wpAnyLast_take (i := 7) (oi := Oper.mk _ _ _ _ _ _) rfl (by kernel_rfl) (by kernel_rfl) (by kernel_rfl) (by kernel_rfl) (by kernel_rfl) (fun _ _ _ h => h) (Or.inl ⟨by rfl, ?hy6⟩) hS ?rest6
    case hy6 => (intro w hSw; (try dsimp only at hSw); first | (go_simp; done) | (go_simp; with_reducible rfl))
    try simp only [Act.put, List.setIfInBounds_toArray, List.set_cons_zero, List.set_cons_succ]
    refine' wpAnyLast_take (i := 8) (oi := Oper.mk _ _ _ _ _ _) rfl (by kernel_rfl) (by kernel_rfl) (by kernel_rfl) (by kernel_rfl) (by kernel_rfl) (fun _ _ _ h => h) (Or.inl ⟨by rfl, ?hy7⟩) hS ?rest7
    case hy7 => (intro w hSw; (try dsimp only at hSw); first | (go_simp; done) | (go_simp; with_reducible rfl))
    try simp only [Act.put, List.setIfInBounds_toArray, List.set_cons_zero, List.set_cons_succ]
    refine' wpAnyLast_take (i := 9) (oi := Oper.mk _ _ _ _ _ _) rfl (by kernel_rfl) (by kernel_rfl) (by kernel_rfl) (by kernel_rfl) (by kernel_rfl) (fun _ _ _ h => h) (Or.inl ⟨by rfl, ?hy8⟩) hS ?rest8
    case hy8 => (intro w hSw; (try dsimp only at hSw); first | (go_simp; done) | (go_simp; with_reducible rfl))
    try simp only [Act.put, List.setIfInBounds_toArray, List.set_cons_zero, List.set_cons_succ]
    refine wpAnyLast_take (i := 10) (oi := Oper.mk _ _ _ _ _ _) rfl (by kernel_rfl) (by kernel_rfl) (by kernel_rfl) (by kernel_rfl) (by kernel_rfl) (fun _ _ _ h => h) (rg_load1 (by rfl) (fun _ hS => hS.2.2.cell HX.out) 75 _ rfl rfl (fun _ => by simp [isAgg, run_underlying Tryd.underlying75])) hS ?_
    try simp only [Act.put, List.setIfInBounds_toArray, List.set_cons_zero, List.set_cons_succ]
    refine' wpAnyLast_take (i := 11) (oi := Oper.mk _ _ _ _ _ _) rfl (by kernel_rfl) (by kernel_rfl) (by kernel_rfl) (by kernel_rfl) (by kernel_rfl) (fun _ _ _ h => h) (Or.inl ⟨by rfl, ?hy9⟩) hS ?rest9
    case hy9 => (intro w hSw; (try dsimp only at hSw); first | (go_simp; done) | (go_simp; with_reducible rfl))
    try simp only [Act.put, List.setIfInBounds_toArray, List.set_cons_zero, List.set_cons_succ]
    refine' wpAnyLast_take (i := 12) (oi := Oper.mk _ _ _ _ _ _) rfl (by kernel_rfl) (by kernel_rfl) (by kernel_rfl) (by kernel_rfl) (by kernel_rfl) (fun _ _ _ h => h) (Or.inl ⟨by rfl, ?hy10⟩) hS ?rest10
    case hy10 => (intro w hSw; (try dsimp only at hSw); first | (go_simp; done) | (go_simp; with_reducible rfl))
    try simp only [Act.put, List.setIfInBounds_toArray, List.set_cons_zero, List.set_cons_succ]
    refine' wpAnyLast_take (i := 13) (oi := Oper.mk _ _ _ _ _ _) rfl (by kernel_rfl) (by kernel_rfl) (by kernel_rfl) (by kernel_rfl) (by kernel_rfl) (fun _ _ _ h => h) (Or.inl ⟨by rfl, ?hy11⟩) hS ?rest11
    case hy11 => (intro w hSw; (try dsimp only at hSw); first | (go_simp; done) | (go_simp; with_reducible rfl))
    try simp only [Act.put, List.setIfInBounds_toArray, List.set_cons_zero, List.set_cons_succ]
    refine' wpAnyLast_take (i := 14) (oi := Oper.mk _ _ _ _ _ _) rfl (by kernel_rfl) (by kernel_rfl) (by kernel_rfl) (by kernel_rfl) (by kernel_rfl) (fun _ _ _ h => h) (Or.inl ⟨by rfl, ?hy12⟩) hS ?rest12
    case hy12 => (intro w hSw; (try dsimp only at hSw); first | (go_simp; done) | (go_simp; with_reducible rfl))
    try simp only [Act.put, List.setIfInBounds_toArray, List.set_cons_zero, List.set_cons_succ]
    refine' wpAnyLast_take (i := 15) (oi := Oper.mk _ _ _ _ _ _) rfl (by kernel_rfl) (by kernel_rfl) (by kernel_rfl) (by kernel_rfl) (by kernel_rfl) (fun _ _ _ h => h) (Or.inl ⟨by rfl, ?hy13⟩) hS ?rest13
    case hy13 => (intro w hSw; (try dsimp only at hSw); first | (go_simp; done) | (go_simp; with_reducible rfl))
    try simp only [Act.put, List.setIfInBounds_toArray, List.set_cons_zero, List.set_cons_succ]
    refine wpAnyLast_ready (rs := [16]) (by kernel_rfl) (by simp) ?_
    refine AllReadyL.cons_last (o := Oper.mk _ _ _ _ _ _) rfl (by decide) (fun K hK => ?_) ?_
    · refine rg_put1 (by rfl) BI 75 _ _ rfl rfl (.int .u64 (Go.bits .or .u64 x sv)) rfl HPQ.out (by kernel_rfl) rfl ?_
      intro w3 B3 hg3
      have FIN := Aside0.mk (HGO.out _ w3 B3 hg3.out rfl)
      refine hK.out _ _ ?_
      clear hK K
      try simp only [Act.put, List.setIfInBounds_toArray, List.set_cons_zero, List.set_cons_succ]
      refine wpAnyLast_done (by kernel_rfl) ?_ _
      refine NoPanic.normal ?_
      go_wp2
      go_ret
      exact FIN.out
    exact AllReadyL.nil
  have t1 : (c == 58) = false := by rw [beq_eq_false_iff_ne]; exact c1
  have C1 := Aside0.mk c1
  clear c1
  by_cases c2 : c = 44
  · subst c2
    have KB : Aside0 (rowsB s 58 most (nextP s (i + 1)) = rowsB s 58 most (nextP s i)) := ⟨rowsB_keep HP.out 58 (.inl rfl) most (.inl (by rw [← HC.out]; decide))⟩
    obtain ⟨x, hx⟩ : ∃ x, (colW s 44 (nextP s i) k)[pq]? = some x := ⟨_, List.getElem?_eq_getElem (by rw [colW_length, ← HPN.out.2.2.1]; exact HPN.out.2.2.2)⟩
    obtain ⟨g, cap, cur, gi, capi, curi, hv, BG, hgc, BI, hcx, hbi, hoi, hgg, hgo⟩ := S_inner (Kd.S_drew I.rb) (i := k) (j := pq) (rowsB_at s 44 most (nextP s i) k HKD.out.2) hx
    have hlr : (rowsB s 44 most (nextP s i)).length = most := by unfold rowsB; rw [List.length_map, List.length_range]
    have hlw : (colW s 44 (nextP s i) k).length = nw := by rw [colW_length]; exact HPN.out.2.2.1.symm
    rw [hlr] at hv
    dsimp only at hgc hgo
    rw [hlw] at hgc
    have HX := Aside0.mk hcx
    have HPQ : Aside0 (pq < curi.size) := ⟨by
      have := (Array.getElem?_eq_some_iff.1 hcx).1
      exact this⟩
    have HGO : Aside0 (∀ (z : Int) (W' : World), Blk W' gi (curi.setIfInBounds pq (.int .u64 z)) 75 → w.drew.grownBy W' (some gi) → z = Go.bits .or .u64 x sv → BuTold s most gm gs gl va vb base okA okB X i w (.returned (.bool true)) W') := ⟨fun z W' B' hg hz => by
      have I := HI.out
      have hb : gi ∈ X := I.ob gi hoi
      have n1 : gm ≠ gi := I.bm.drew.ne BI (by decide)
      have n2 : gs ≠ gi := I.bs.drew.ne BI (by decide)
      have n3 : gl ≠ gi := I.bl.drew.ne BI (by decide)
      have hset := hgo z W' B' hg
      have hxd : (colW s 44 (nextP s i) k).getD (p / 64) 0 = x := by
        rw [← HPN.out.1, List.getD_eq_getElem?_getD, hx]
        rfl
      have hkd : 1 ≤ dep s p ∧ dep s p ≤ most ∧ dep s p - 1 = k := bu_dep HKD.out.1 HKD.out.2
      have hput := rowsB_put HP.out 44 (.inr rfl) HC.out.symm most hkd.1 hkd.2.1
      rw [hkd.2.2, hxd, ← HPN.out.1, ← HPN.out.2.1, ← HSV.out, ← hz] at hput
      rw [hput] at hset
      have ht := turned_grown hb hg
      refine ⟨rfl, ⟨ht.os, ht.tape, ht.output, ht.size, ht.block⟩, ?_⟩
      have hother : Kd.S k34 34 W' base okA va (rowsB s 58 most (nextP s (i + 1))) := by
        rw [KB.out]
        exact Kd.S_grown (Kd.S_drew I.ra) hg (fun b hb' e => by
          have e' := Option.some.inj e
          subst e'
          exact I.dis _ hb' hoi)
      exact ⟨blk_grown I.bm.drew n1 hg, blk_grown I.bs.drew n2 hg, blk_grown I.bl.drew n3 hg, hother, hset, I.dis, I.oa, I.ob⟩⟩
    clear hgo hlr hlw hbi hoi hx hcx hgg
    subst hv
    go_enter Tryd.func65, Tryd.ntmps65
    go_upto_region 7 with (fail)
    clear cm cs hbyte
    refine wp_region_noPanic ?_
    refine wp_region_last_drew (S := fun W' => Blk W' gl #[va, .slice (some ⟨g, 0, none⟩) most cap] 48 ∧ W'.cell? ⟨g, k * 2 + 1, none⟩ = some (.slice (some ⟨gi, 0, none⟩) nw capi) ∧ Blk W' gi curi 75) (ds := [16]) (by kernel_rfl) ⟨I.bl.drew, BG.drew.cell hgc, BI⟩ (fun hS => ?_)
    refine' wpAnyLast_take (i := 0) (oi := Oper.mk _ _ _ _ _ _) rfl (by kernel_rfl) (by kernel_rfl) (by kernel_rfl) (by kernel_rfl) (by kernel_rfl) (fun _ _ _ h => h) (Or.inl ⟨by rfl, ?hy14⟩) hS ?rest14
    case hy14 => (intro w hSw; (try dsimp only at hSw); first | (go_simp; done) | (go_simp; with_reducible rfl))
    try simp only [Act.put, List.setIfInBounds_toArray, List.set_cons_zero, List.set_cons_succ]
    refine wpAnyLast_take (i := 1) (oi := Oper.mk _ _ _ _ _ _) rfl (by kernel_rfl) (by kernel_rfl) (by kernel_rfl) (by kernel_rfl) (by kernel_rfl) (fun _ _ _ h => h) (rg_load1 (by rfl) (fun _ hS => hS.1.cell (i := 1) rfl) 46 _ rfl rfl (fun _ => by simp [isAgg, run_underlying Tryd.underlying46])) hS ?_
    try simp only [Act.put, List.setIfInBounds_toArray, List.set_cons_zero, List.set_cons_succ]
    refine' wpAnyLast_take (i := 2) (oi := Oper.mk _ _ _ _ _ _) rfl (by kernel_rfl) (by kernel_rfl) (by kernel_rfl) (by kernel_rfl) (by kernel_rfl) (fun _ _ _ h => h) (Or.inl ⟨by rfl, ?hy15⟩) hS ?rest15
    case hy15 => (intro w hSw; (try dsimp only at hSw); first | (go_simp; done) | (go_simp; with_reducible rfl))
    try simp only [Act.put, List.setIfInBounds_toArray, List.set_cons_zero, List.set_cons_succ]
    refine' wpAnyLast_take (i := 3) (oi := Oper.mk _ _ _ _ _ _) rfl (by kernel_rfl) (by kernel_rfl) (by kernel_rfl) (by kernel_rfl) (by kernel_rfl) (fun _ _ _ h => h) (Or.inl ⟨by rfl, ?hy16⟩) hS ?rest16
    case hy16 => (intro w hSw; (try dsimp only at hSw); first | (go_simp; done) | (go_simp; with_reducible rfl))
    try simp only [Act.put, List.setIfInBounds_toArray, List.set_cons_zero, List.set_cons_succ]
    refine' wpAnyLast_take (i := 4) (oi := Oper.mk _ _ _ _ _ _) rfl (by kernel_rfl) (by kernel_rfl) (by kernel_rfl) (by kernel_rfl) (by kernel_rfl) (fun _ _ _ h => h) (Or.inl ⟨by rfl, ?hy17⟩) hS ?rest17
    case hy17 => (intro w hSw; (try dsimp only at hSw); first | (go_simp; done) | (go_simp; with_reducible rfl))
    try simp only [Act.put, List.setIfInBounds_toArray, List.set_cons_zero, List.set_cons_succ]
    refine' wpAnyLast_take (i := 5) (oi := Oper.mk _ _ _ _ _ _) rfl (by kernel_rfl) (by kernel_rfl) (by kernel_rfl) (by kernel_rfl) (by kernel_rfl) (fun _ _ _ h => h) (Or.inl ⟨by rfl, ?hy18⟩) hS ?rest18
    case hy18 => (intro w hSw; (try dsimp only at hSw); first | (go_simp; done) | (go_simp; with_reducible rfl))
    try simp only [Act.put, List.setIfInBounds_toArray, List.set_cons_zero, List.set_cons_succ]
    refine wpAnyLast_take (i := 6) (oi := Oper.mk _ _ _ _ _ _) rfl (by kernel_rfl) (by kernel_rfl) (by kernel_rfl) (by kernel_rfl) (by kernel_rfl) (fun _ _ _ h => h) (rg_load1 (by rfl) (fun _ hS => hS.2.1) 32 _ rfl rfl (fun _ => by simp [isAgg, run_underlying Tryd.underlying32])) hS ?_
    try simp only [Act.put, List.setIfInBounds_toArray, List.set_cons_zero, List.set_cons_succ]
    refine' wpAnyLast_take (i := 7) (oi := Oper.mk _ _ _ _ _ _) rfl (by kernel_rfl) (by kernel_rfl) (by kernel_rfl) (by kernel_rfl) (by kernel_rfl) (fun _ _ _ h => h) (Or.inl ⟨by rfl, ?hy19⟩) hS ?rest19
    case hy19 => (intro w hSw; (try dsimp only at hSw); first | (go_simp; done) | (go_simp; with_reducible rfl))
    try simp only [Act.put, List.setIfInBounds_toArray, List.set_cons_zero, List.set_cons_succ]
    refine' wpAnyLast_take (i := 8) (oi := Oper.mk _ _ _ _ _ _) rfl (by kernel_rfl) (by kernel_rfl) (by kernel_rfl) (by kernel_rfl) (by kernel_rfl) (fun _ _ _ h => h) (Or.inl ⟨by rfl, ?hy20⟩) hS ?rest20
    case hy20 => (intro w hSw; (try dsimp only at hSw); first | (go_simp; done) | (go_simp; with_reducible rfl))
    try simp only [Act.put, List.setIfInBounds_toArray, List.set_cons_zero, List.set_cons_succ]
    refine' wpAnyLast_take (i := 9) (oi := Oper.mk _ _ _ _ _ _) rfl (by kernel_rfl) (by kernel_rfl) (by kernel_rfl) (by kernel_rfl) (by kernel_rfl) (fun _ _ _ h => h) (Or.inl ⟨by rfl, ?hy21⟩) hS ?rest21
    case hy21 => (intro w hSw; (try dsimp only at hSw); first | (go_simp; done) | (go_simp; with_reducible rfl))
    try simp only [Act.put, List.setIfInBounds_toArray, List.set_cons_zero, List.set_cons_succ]
    refine wpAnyLast_take (i := 10) (oi := Oper.mk _ _ _ _ _ _) rfl (by kernel_rfl) (by kernel_rfl) (by kernel_rfl) (by kernel_rfl) (by kernel_rfl) (fun _ _ _ h => h) (rg_load1 (by rfl) (fun _ hS => hS.2.2.cell HX.out) 75 _ rfl rfl (fun _ => by simp [isAgg, run_underlying Tryd.underlying75])) hS ?_
    try simp only [Act.put, List.setIfInBounds_toArray, List.set_cons_zero, List.set_cons_succ]
    refine' wpAnyLast_take (i := 11) (oi := Oper.mk _ _ _ _ _ _) rfl (by kernel_rfl) (by kernel_rfl) (by kernel_rfl) (by kernel_rfl) (by kernel_rfl) (fun _ _ _ h => h) (Or.inl ⟨by rfl, ?hy22⟩) hS ?rest22
    case hy22 => (intro w hSw; (try dsimp only at hSw); first | (go_simp; done) | (go_simp; with_reducible rfl))
    try simp only [Act.put, List.setIfInBounds_toArray, List.set_cons_zero, List.set_cons_succ]
    refine' wpAnyLast_take (i := 12) (oi := Oper.mk _ _ _ _ _ _) rfl (by kernel_rfl) (by kernel_rfl) (by kernel_rfl) (by kernel_rfl) (by kernel_rfl) (fun _ _ _ h => h) (Or.inl ⟨by rfl, ?hy23⟩) hS ?rest23
    case hy23 => (intro w hSw; (try dsimp only at hSw); first | (go_simp; done) | (go_simp; with_reducible rfl))
    try simp only [Act.put, List.setIfInBounds_toArray, List.set_cons_zero, List.set_cons_succ]
    refine' wpAnyLast_take (i := 13) (oi := Oper.mk _ _ _ _ _ _) rfl (by kernel_rfl) (by kernel_rfl) (by kernel_rfl) (by kernel_rfl) (by kernel_rfl) (fun _ _ _ h => h) (Or.inl ⟨by rfl, ?hy24⟩) hS ?rest24
    case hy24 => (intro w hSw; (try dsimp only at hSw); first | (go_simp; done) | (go_simp; with_reducible rfl))
    try simp only [Act.put, List.setIfInBounds_toArray, List.set_cons_zero, List.set_cons_succ]
    refine' wpAnyLast_take (i := 14) (oi := Oper.mk _ _ _ _ _ _) rfl (by kernel_rfl) (by kernel_rfl) (by kernel_rfl) (by kernel_rfl) (by kernel_rfl) (fun _ _ _ h => h) (Or.inl ⟨by rfl, ?hy25⟩) hS ?rest25
    case hy25 => (intro w hSw; (try dsimp only at hSw); first | (go_simp; done) | (go_simp; with_reducible rfl))
    try simp only [Act.put, List.setIfInBounds_toArray, List.set_cons_zero, List.set_cons_succ]
    refine' wpAnyLast_take (i := 15) (oi := Oper.mk _ _ _ _ _ _) rfl (by kernel_rfl) (by kernel_rfl) (by kernel_rfl) (by kernel_rfl) (by kernel_rfl) (fun _ _ _ h => h) (Or.inl ⟨by rfl, ?hy26⟩) hS ?rest26
    case hy26 => (intro w hSw; (try dsimp only at hSw); first | (go_simp; done) | (go_simp; with_reducible rfl))
    try simp only [Act.put, List.setIfInBounds_toArray, List.set_cons_zero, List.set_cons_succ]
    refine wpAnyLast_ready (rs := [16]) (by kernel_rfl) (by simp) ?_
    refine AllReadyL.cons_last (o := Oper.mk _ _ _ _ _ _) rfl (by decide) (fun K hK => ?_) ?_
    · refine rg_put1 (by rfl) BI 75 _ _ rfl rfl (.int .u64 (Go.bits .or .u64 x sv)) rfl HPQ.out (by kernel_rfl) rfl ?_
      intro w3 B3 hg3
      have FIN := Aside0.mk (HGO.out _ w3 B3 hg3.out rfl)
      refine hK.out _ _ ?_
      clear hK K
      try simp only [Act.put, List.setIfInBounds_toArray, List.set_cons_zero, List.set_cons_succ]
      refine wpAnyLast_done (by kernel_rfl) ?_ _
      refine NoPanic.normal ?_
      go_wp2
      go_ret
      exact FIN.out
    exact AllReadyL.nil
  have t2 : (c == 44) = false := by rw [beq_eq_false_iff_ne]; exact c2
  have HK : Aside0 (BuI s most gm gs gl va vb base X okA okB (nextP s (i + 1)) w) := ⟨by
    have e1 := rowsB_keep HP.out 58 (.inl rfl) most (.inl (by rw [← HC.out]; exact C1.out))
    have e2 := rowsB_keep HP.out 44 (.inr rfl) most (.inl (by rw [← HC.out]; exact c2))
    exact ⟨I.bm, I.bs, I.bl, by rw [e1]; exact I.ra, by rw [e2]; exact I.rb, I.dis, I.oa, I.ob⟩⟩
  clear c2 I
  go_enter Tryd.func65, Tryd.ntmps65
  go_wp2
  go_ret
  exact ⟨rfl, Turned.of_below (Below.refl _ _), HK.out⟩
end


end Go.Proofs.YtgddljealeklkaaDoor.PL
end
-- PLx5
section
namespace Go.Proofs.YtgddljealeklkaaDoor.PL
open Go.Proofs.YtgddljealeklkaaDoorM (TabOk)
open Go.RowKit Go.Proofs.YtgddljealeklkaaDoorW.PrintWords Go.Proofs.YtgddljealeklkaaDoorW.PrintLast Go.Proofs.YtgddljealeklkaaDoorW.PrintMore
attribute [local go_sem] max2_int min2_int max_two min_two max_three min_three max_four min_four   -- for this text's walks alone
set_option linter.unusedVariables false
set_option linter.unusedSimpArgs false

section
open Go.Proofs.YtgddljealeklkaaDoorQ Go.Proofs.YtgddljealeklkaaDoorM
def levels_Build.f (a0 : ByteArray) (a1 : Int) : Option (List S34 × List S34 × Int) :=
  if a1 < 1 ∨ 64 < a1 then some ([], [], 2) else if a0.size ≤ 1048576 then some (rowsB a0 58 a1.toNat a0.size, rowsB a0 44 a1.toNat a0.size, 0) else none
theorem rows_loop (n : Nat) (hn : n ≤ 1048576) (most : Nat) (hm : most ≤ 64) : ∀ (d i k : Nat), i + d = most → d < k →
    levels_rows.l0 k (n : Int) ((List.range i).map fun _ => (⟨(n : Int), List.replicate (nwords n) 0⟩ : S34)) (most : Int) (i : Int) = some ((List.range most).map fun _ => (⟨(n : Int), List.replicate (nwords n) 0⟩ : S34)) := by
  have e1 : wrap64 (Int.tdiv (wrap64 ((n : Int) + 63)) 64) = ((nwords n : Nat) : Int) := by
    have h1 : wrap64 ((n : Int) + 63) = ((n + 63 : Nat) : Int) := by unfold wrap64; omega
    rw [h1]
    have h2 : Int.tdiv ((n + 63 : Nat) : Int) 64 = (((n + 63) / 64 : Nat) : Int) := rfl
    rw [h2]
    unfold nwords wrap64
    omega
  have e2 : nwords n ≤ 1048576 := by unfold nwords; omega
  intro d
  induction d with
  | zero =>
    intro i k hi hk
    obtain ⟨k, rfl⟩ : ∃ j, k = j + 1 := ⟨k - 1, by omega⟩
    rw [Nat.add_zero] at hi
    subst hi
    rw [levels_rows.l0, if_neg (by omega)]
  | succ d ih =>
    intro i k hi hk
    obtain ⟨k, rfl⟩ : ∃ j, k = j + 1 := ⟨k - 1, by omega⟩
    have e3 : wrap64 ((i : Int) + 1) = ((i + 1 : Nat) : Int) := by unfold wrap64; omega
    have h := ih (i + 1) k (by omega) (by omega)
    rw [List.range_succ, List.map_append] at h
    rw [levels_rows.l0, e1, if_pos (by omega), if_pos (by omega), if_pos (by omega), if_pos (by rw [List.length_map, List.length_range]; omega), e3, Int.toNat_natCast]
    exact h
theorem rows_f (s : ByteArray) (hs : s.size ≤ 1048576) (b : Int) (most : Nat) (hm : most ≤ 64) : levels_rows.f 66 (s.size : Int) (most : Int) = some (rowsB s b most (nextP s 0)) := by
  have h := rows_loop s.size hs most hm most 0 66 (by omega) (by omega)
  unfold levels_rows.f
  have e : rowsB s b most (nextP s 0) = (List.range most).map fun _ => (⟨(s.size : Int), List.replicate (nwords s.size) 0⟩ : S34) := by
    unfold rowsB
    exact List.map_congr_left fun k _ => by rw [colW_zero]
  rw [e]
  exact h
theorem S_away_store {W W' : World} {base g t : Nat} {ok : Nat → Prop} {v : Value} {rows : List S34} {cs : Array Value} (h : Kd.S k34 34 W base ok v rows) (B : Blk W g cs t) (ht : t = 48) (hk : W.heap.size ≤ W'.heap.size ∧ ∀ k, k ≠ g → W'.heap[k]? = W.heap[k]?) : Kd.S k34 34 W' base ok v rows := by
  subst ht
  have h1 := Kd.S_bound h
  refine Kd.S_mono (Kd.S_step h1 (fun k hk' _ => hk.2 k (fun e => ?_))) (fun _ hk' => hk'.1)
  subst e
  obtain ⟨_, _, _, q, hq, cells, hc⟩ := hk'
  rw [B.out] at hc
  injection hc with hc
  injection hc with _ hc
  subst hc
  revert hq
  decide
theorem results_cellT {P : Program} {fn : Func} {p q : Tmp} {ty : TypeId} (h : fn.results = #[.cell p ty, .tmp q]) (tmps : Array Value) (w : World) (g : Nat) (t : TypeId) (cs : Array Value) (v : Value) (d : TypeDesc)
    (hp : tmps.getD p undef = .pointer (some ⟨g, 0, none⟩)) (hq : tmps.getD q undef = v) (hg : Blk w g cs t)
    (hu : P.underlying ty = some d) (hd : (match d with | .struct _ | .array _ _ => true | _ => false) = true) (hi : (P.info? ty).map (·.size) = some cs.size) :
    (results fn tmps).run P w = .ok (.tuple #[.agg cs, v]) w := by
  have hp' : tmps[p]?.getD undef = .pointer (some ⟨g, 0, none⟩) := by simpa using hp
  have hq' : tmps[q]?.getD undef = v := by simpa using hq
  have h1 := run_loadVar_row (P := P) w g t ty cs (0, 0) d hg.out hu hd hi
  simp [results, h, hp', hq', asAddr, h1, Result.andThen]
set_option maxHeartbeats 8000000 in
set_option maxRecDepth 100000 in
theorem levels_Build.some_ (s : ByteArray) (hs : s.size ≤ 1048576) (most : Nat) (hm : 1 ≤ most ∧ most ≤ 64) (w : World) (hT : TabOk w) :
    Calls Tryd.prog 28 #[.string s, .int .i64 (most : Int)] w fun e w' => ∃ v0 v1 : Value, e = .returned (.tuple #[.agg #[v0, v1], .int .i64 0]) ∧ Kd.S k34 34 w' w.heap.size (fun k => some k ≠ v1.ownBlock) v0 (rowsB s 58 most s.size) ∧ Kd.S k34 34 w' w.heap.size (fun k => some k ≠ v0.ownBlock) v1 (rowsB s 44 most s.size) ∧ Below w.heap.size w w' := by
  have HB := BelowH.refl w
  have HT := Aside0.mk hT
  have HS := Aside0.mk hs
  have HM := Aside0.mk hm
  have q1 : decide ((most : Int) < 1) = false := decide_eq_false (by omega)
  have q2 : decide ((64 : Int) < (most : Int)) = false := decide_eq_false (by omega)
  have q3 : (1 : Int) ≤ (most : Int) := by omega
  have q4 : (most : Int) ≤ 64 := by omega
  have RW : Aside0 (∀ (b : Int) (W : World), Calls Tryd.prog 63 #[.int .i64 (s.size : Int), .int .i64 (most : Int)] W fun e W' => ∃ v : Value, e = .returned v ∧ Kd.S k34 34 W' W.heap.size (fun _ => True) v (rowsB s b most (nextP s 0)) ∧ Below W.heap.size W W') := ⟨fun b W => levels_rows.calls 66 _ _ _ W (rows_f s hs b most hm.2)⟩
  have WK : Aside0 (∀ (g2 g3 g6 : Nat) (X : List Nat) (va vb : Value) (okA okB : Nat → Prop) (W : World), TabOk W → BelowH w W → (∀ k ∈ X, w.heap.size ≤ k ∧ k < W.heap.size) → BuI s most g3 g2 g6 va vb w.heap.size X okA okB (nextP s 0) W →
      Calls Tryd.prog 64 #[.string s, .func (.func 65) #[] #[.pointer (some ⟨g3, 0, none⟩), .pointer (some ⟨g2, 0, none⟩), .pointer (some ⟨g6, 0, none⟩)]] W fun e W' => (∃ d : Int, e = .returned (.int .i64 d)) ∧ BuI s most g3 g2 g6 va vb w.heap.size X okA okB s.size W' ∧ BelowH w W' ∧ Turned X W W') := ⟨fun g2 g3 g6 X va vb okA okB W hTW hBW hXX I => by
    have := levels_walk.walk s hs W hTW 65 #[.pointer (some ⟨g3, 0, none⟩), .pointer (some ⟨g2, 0, none⟩), .pointer (some ⟨g6, 0, none⟩)] X
      (fun i W' => BuI s most g3 g2 g6 va vb w.heap.size X okA okB (nextP s i) W') (fun _ _ _ => False)
      (enters_of Tryd.func65 (by kernel_rfl) rfl) (fun k hk => (hXX k hk).2) (fun W1 W2 h hb => h.below hb)
      (fun i p W1 hp hB hJ => (levels_Build_1.calls s hs most hm g3 g2 g6 va vb w.heap.size okA okB X i p hp W1 hJ).mono fun e W2 ⟨he, ht, hh⟩ => ⟨true, he, ht, fun _ => hh, fun h => by cases h⟩) I
    refine this.mono fun e W' ⟨d, he, ht, hh⟩ => ?_
    have hb : BelowH w W' := ⟨ht.below (fun k hk => (hXX k hk).1) hBW.le hBW.out⟩
    rcases hh with ⟨_, h1⟩ | ⟨_, _, _, _, h1⟩
    · rw [next_end (Nat.le_refl _)] at h1
      exact ⟨⟨_, he⟩, h1, hb, ht⟩
    · exact h1.elim⟩
  clear hT hs hm
  go_enter Tryd.func28, Tryd.ntmps28
  go_upto_region 3 with (first
    | ((with_reducible refine gate_dst (N := 2) rfl ?_); refine ev_alloc HB rfl (#[.string s]) 9 ?hr ?_; (case hr => first | (go_simp; done) | (go_simp; rfl)); intro g2 w2 G_g2 GE_g2 B_g2 HBn K_g2; clear HB; have HB := HBn; clear HBn)
    | ((with_reducible refine gate_dst (N := 3) rfl ?_); refine ev_alloc HB rfl (#[.int .i64 (most : Int)]) 3 ?hr ?_; (case hr => first | (go_simp; done) | (go_simp; rfl)); intro g3 w3 G_g3 GE_g3 B_g3 HBn K_g3; clear HB; have HB := HBn; clear HBn)
    | (((with_reducible refine gate_dst (N := 4) rfl ?_); refine ev_alloc HB rfl (#[.slice none 0 0, .slice none 0 0]) 48 ?hr ?_; (case hr => first | (go_simp; done) | (go_simp; rfl)); intro g4 w4 G_g4 GE_g4 B_g4 HBn K_g4; clear HB; have HB := HBn; clear HBn); have c3 : w4.cell? ⟨g3, 0, none⟩ = some (.int .i64 (most : Int)) := (B_g3.below K_g4.out).cell (i := 0) rfl))
  have D2 := ((B_g2.below K_g3.out).below K_g4.out).drew
  have D3 := (B_g3.below K_g4.out).drew
  have D4 := B_g4.drew
  have HBn := HB.drew
  clear c3 B_g2 B_g3 B_g4 K_g2 K_g3 K_g4 HB G_g2 G_g3 G_g4 GE_g2 GE_g3
  have HB := HBn
  clear HBn
  refine wp_region_noPanic ?_
  refine wp_region_last_drew (S := fun W' => Blk W' g2 #[.string s] 9 ∧ Blk W' g3 #[.int .i64 (most : Int)] 3) (ds := [10]) (by kernel_rfl) ⟨D2, D3⟩ (fun hS => ?_)
  refine wpAnyLast_take (i := 0) (oi := Oper.mk _ _ _ _ _ _) rfl (by kernel_rfl) (by kernel_rfl) (by kernel_rfl) (by kernel_rfl) (by kernel_rfl) (fun _ _ _ h => h) (rg_load1 (by rfl) (fun _ hS => hS.1.cell (i := 0) rfl) 9 _ rfl rfl (fun _ => by simp [isAgg, run_underlying Tryd.underlying9])) hS ?_
  try simp only [Act.put, List.setIfInBounds_toArray, List.set_cons_zero, List.set_cons_succ]
  refine' wpAnyLast_take (i := 1) (oi := Oper.mk _ _ _ _ _ _) rfl (by kernel_rfl) (by kernel_rfl) (by kernel_rfl) (by kernel_rfl) (by kernel_rfl) (fun _ _ _ h => h) (Or.inl ⟨by rfl, ?hy27⟩) hS ?rest27
  case hy27 => (intro w hSw; (try dsimp only at hSw); first | (go_simp; done) | (go_simp; with_reducible rfl))
  try simp only [Act.put, List.setIfInBounds_toArray, List.set_cons_zero, List.set_cons_succ]
  refine wpAnyLast_take (i := 2) (oi := Oper.mk _ _ _ _ _ _) rfl (by kernel_rfl) (by kernel_rfl) (by kernel_rfl) (by kernel_rfl) (by kernel_rfl) (fun _ _ _ h => h) (rg_load1 (by rfl) (fun _ hS => hS.2.cell (i := 0) rfl) 3 _ rfl rfl (fun _ => by simp [isAgg, run_underlying Tryd.underlying3])) hS ?_
  try simp only [Act.put, List.setIfInBounds_toArray, List.set_cons_zero, List.set_cons_succ]
  refine wpAnyLast_take (i := 4) (oi := Oper.mk _ _ _ _ _ _) rfl (by kernel_rfl) (by kernel_rfl) (by kernel_rfl) (by kernel_rfl) (by kernel_rfl) (fun _ _ _ h => h) (rg_load1 (by rfl) (fun _ hS => hS.1.cell (i := 0) rfl) 9 _ rfl rfl (fun _ => by simp [isAgg, run_underlying Tryd.underlying9])) hS ?_
  try simp only [Act.put, List.setIfInBounds_toArray, List.set_cons_zero, List.set_cons_succ]
  refine' wpAnyLast_take (i := 5) (oi := Oper.mk _ _ _ _ _ _) rfl (by kernel_rfl) (by kernel_rfl) (by kernel_rfl) (by kernel_rfl) (by kernel_rfl) (fun _ _ _ h => h) (Or.inl ⟨by rfl, ?hy28⟩) hS ?rest28
  case hy28 => (intro w hSw; (try dsimp only at hSw); first | (go_simp; done) | (go_simp; with_reducible rfl))
  try simp only [Act.put, List.setIfInBounds_toArray, List.set_cons_zero, List.set_cons_succ]
  refine wpAnyLast_take (i := 6) (oi := Oper.mk _ _ _ _ _ _) rfl (by kernel_rfl) (by kernel_rfl) (by kernel_rfl) (by kernel_rfl) (by kernel_rfl) (fun _ _ _ h => h) (rg_load1 (by rfl) (fun _ hS => hS.2.cell (i := 0) rfl) 3 _ rfl rfl (fun _ => by simp [isAgg, run_underlying Tryd.underlying3])) hS ?_
  try simp only [Act.put, List.setIfInBounds_toArray, List.set_cons_zero, List.set_cons_succ]
  refine wpAnyLast_ready (rs := [3, 9]) (by kernel_rfl) (by simp) ?_
  refine AllReadyL.cons (o := Oper.mk _ _ _ _ _ _) rfl (by decide) (fun K hK => ?_) ?_
  · refine call_ 63 #[.int .i64 (s.size : Int), .int .i64 (most : Int)] (by rfl) rfl (by first | (go_simp; done) | (go_simp; rfl)) ((RW.out 58 _).mono ?_)
    rintro e W' ⟨va, rfl, hS, hb'⟩
    obtain ⟨A1, c1, rfl⟩ := Kd.S_slice hS
    generalize (rowsB s 58 most (nextP s 0)).length = n1 at hS ⊢
    have hb := Aside0.mk hb'
    have RAx := Aside0.mk (Kd.S_lower hS HB.le)
    clear hS hb'
    have D2n := D2.below hb.out
    have D3n := D3.below hb.out
    have D4n := D4.below hb.out
    have HBn := HB.step hb.out
    clear D2 D3 D4 HB
    have D2 := D2n
    have D3 := D3n
    have D4 := D4n
    have HB := HBn
    clear D2n D3n D4n HBn
    have RA := RAx
    clear RAx
    refine ⟨_, rfl, ?_⟩
    refine hK.out _ _ ⟨D2, D3⟩ (fun hS => ?_)
    clear hK K hb
    try simp only [Act.put, List.setIfInBounds_toArray, List.set_cons_zero, List.set_cons_succ]
    refine wpAnyLast_ready (rs := [7, 9]) (by kernel_rfl) (by simp) ?_
    refine AllReadyL.cons (o := Oper.mk _ _ _ _ _ _) rfl (by decide) (fun K hK => ?_) ?_
    · have HN := HB.le
      refine call_ 63 #[.int .i64 (s.size : Int), .int .i64 (most : Int)] (by rfl) rfl (by first | (go_simp; done) | (go_simp; rfl)) ((RW.out 44 _).mono ?_)
      rintro e W' ⟨vb, rfl, hS, hb'⟩
      obtain ⟨A2, c2, rfl⟩ := Kd.S_slice hS
      generalize (rowsB s 44 most (nextP s 0)).length = n2 at hS ⊢
      have hb := Aside0.mk hb'
      obtain ⟨N7, RAy, RBy⟩ : ∃ N7 : Nat, Aside0 (Kd.S k34 34 W' w.heap.size (fun k => k < N7) (.slice A1 n1 c1) (rowsB s 58 most (nextP s 0))) ∧ Aside0 (Kd.S k34 34 W' w.heap.size (fun k => N7 ≤ k) (.slice A2 n2 c2) (rowsB s 44 most (nextP s 0))) :=
        ⟨_, ⟨Kd.S_below (Kd.S_mono (Kd.S_bound RA.out) (fun _ hk => hk.2.2.1)) hb.out⟩, ⟨Kd.S_lower (Kd.S_mono (Kd.S_bound hS) (fun _ hk => hk.2.1)) HN⟩⟩
      clear hS hb' HN
      have D2n := D2.below hb.out
      have D3n := D3.below hb.out
      have D4n := D4.below hb.out
      have HBn := HB.step hb.out
      clear D2 D3 D4 HB
      have D2 := D2n
      have D3 := D3n
      have D4 := D4n
      have HB := HBn
      clear D2n D3n D4n HBn
      clear RA
      have RA := RAy
      have RB := RBy
      clear RAy RBy
      refine ⟨_, rfl, ?_⟩
      refine hK.out _ _ ⟨D2, D3⟩ (fun hS => ?_)
      clear hK K hb
      try simp only [Act.put, List.setIfInBounds_toArray, List.set_cons_zero, List.set_cons_succ]
      refine' wpAnyLast_take (i := 8) (oi := Oper.mk _ _ _ _ _ _) rfl (by kernel_rfl) (by kernel_rfl) (by kernel_rfl) (by kernel_rfl) (by kernel_rfl) (fun _ _ _ h => h) (Or.inl ⟨by rfl, ?hy29⟩) hS ?rest29
      case hy29 => (intro w hSw; (try dsimp only at hSw); first | (go_simp; done) | (go_simp; with_reducible rfl))
      try simp only [Act.put, List.setIfInBounds_toArray, List.set_cons_zero, List.set_cons_succ]
      refine wpAnyLast_ready (rs := [9]) (by kernel_rfl) (by simp) ?_
      refine AllReadyL.cons (o := Oper.mk _ _ _ _ _ _) rfl (by decide) (fun K hK => ?_) ?_
      · refine rg_alloc HB (by rfl) #[.slice none 0 0, .slice none 0 0] 48 (by first | (go_simp; done) | (go_simp; rfl)) ?_
        intro g6 W' G6 GE6 D6x HBx hb
        clear HBx
        have N46 : Aside0 (g4 ≠ g6) := ⟨by have := D4.lt; have := G6.out; omega⟩
        have D2n := D2.below hb.out
        have D3n := D3.below hb.out
        have D4n := D4.below hb.out
        have HBn := HB.step hb.out
        have RAn := Aside0.mk (Kd.S_below RA.out hb.out)
        have RBn := Aside0.mk (Kd.S_below RB.out hb.out)
        clear D2 D3 D4 HB RA RB
        have D2 := D2n
        have D3 := D3n
        have D4 := D4n
        have HB := HBn
        clear D2n D3n D4n HBn
        have RA := RAn
        clear RAn
        have RB := RBn
        clear RBn
        have D6 := D6x
        clear D6x G6
        refine hK.out _ _ ⟨D2, D3⟩ (fun hS => ?_)
        clear hK K hb
        try simp only [Act.put, List.setIfInBounds_toArray, List.set_cons_zero, List.set_cons_succ]
        refine wpAnyLast_ready (rs := [10]) (by kernel_rfl) (by simp) ?_
        refine AllReadyL.cons_last (o := Oper.mk _ _ _ _ _ _) rfl (by decide) (fun K hK => ?_) ?_
        · refine rg_store HB (by rfl) D6 GE6 48 _ _ rfl rfl rfl (by kernel_rfl) rfl (by simp [Value.oneCell']) ?_
          intro W' B6 HBx K6
          have D2n := D2.other K6 (D2.ne D6 (by decide))
          have D3n := D3.other K6 (D3.ne D6 (by decide))
          have D4n := D4.other K6 N46.out
          have RAn := Aside0.mk (S_away_store RA.out D6 rfl K6.out)
          have RBn := Aside0.mk (S_away_store RB.out D6 rfl K6.out)
          clear D2 D3 D4 RA RB HB
          refine hK.out _ _ ?_
          clear hK K
          try simp only [Act.put, List.setIfInBounds_toArray, List.set_cons_zero, List.set_cons_succ]
          refine wpAnyLast_done (by kernel_rfl) ?_ _
          refine NoPanic.normal ?_
          obtain ⟨X, hX⟩ : ∃ X : List Nat, X = (List.range' w.heap.size (W'.heap.size - w.heap.size)).filter fun k => decide (k ≠ g4) := ⟨_, rfl⟩
          have hmem : ∀ k, w.heap.size ≤ k → k < W'.heap.size → k ≠ g4 → k ∈ X := fun k h1 h2 h3 => by
            rw [hX]
            exact List.mem_filter.2 ⟨List.mem_range'_1.2 ⟨h1, by omega⟩, decide_eq_true h3⟩
          have HXM : Aside0 (∀ k ∈ X, (w.heap.size ≤ k ∧ k < W'.heap.size) ∧ k ≠ g4) := ⟨fun k hk => by
            rw [hX] at hk
            obtain ⟨h1, h2⟩ := List.mem_filter.1 hk
            have h3 := List.mem_range'_1.1 h1
            exact ⟨⟨h3.1, by have := HBx.le; omega⟩, of_decide_eq_true h2⟩⟩
          have RA4 := Kd.S_bound (Kd.S_types RAn.out D4n.out (by decide))
          have RB4 := Kd.S_bound (Kd.S_types RBn.out D4n.out (by decide))
          have I0 : Aside0 (BuI s most g3 g2 g6 (.slice A1 n1 c1) (.slice A2 n2 c2) w.heap.size X (fun k => k < N7 ∧ k ∈ X) (fun k => N7 ≤ k ∧ k ∈ X) (nextP s 0) W') :=
            ⟨⟨D3n, D2n, B6, Kd.S_mono RA4 (fun k hk => ⟨hk.1.1, hmem k hk.2.1 hk.2.2.1 hk.1.2⟩), Kd.S_mono RB4 (fun k hk => ⟨hk.1.1, hmem k hk.2.1 hk.2.2.1 hk.1.2⟩), fun k h1 h2 => absurd h1.1 (by have := h2.1; omega), fun k hk => hk.2, fun k hk => hk.2⟩⟩
          have HWK := Aside0.mk (WK.out g2 g3 g6 X _ _ _ _ W' (HT.out.stepH HBx) HBx (fun k hk => (HXM.out k hk).1) I0.out)
          have c2 : W'.cell? ⟨g2, 0, none⟩ = some (.string s) := D2n.cell (i := 0) rfl
          have D4z := D4n
          have hx4 : Aside0 (g4 ∉ X) := ⟨fun h => (HXM.out g4 h).2 rfl⟩
          clear hX hmem RA4 RB4 I0 RAn RBn D2n D3n D4n B6 K6 HXM
          go_wp2_with (first
            | (go_at_call 64; refine HWK.out.mono ?_; rintro e w9 ⟨⟨d, rfl⟩, hI9, HB9, hT9⟩; have I9 := Aside0.mk hI9; have D9 := D4z.turned hT9 hx4.out; have B9 := hI9.bl; clear hI9 hT9 c2)
            | ((with_reducible refine gate_dst (N := 26) rfl ?_); refine ev_loadS B9 rfl 48 _ rfl rfl Tryd.underlying48 rfl (by kernel_rfl) ?_)
            | ((with_reducible refine gate_ (Op.store 48 (.tmp 4) (.tmp 26)) rfl ?_); refine ev_store HB9 D9 GE_g4 rfl 48 _ _ rfl rfl rfl (by kernel_rfl) rfl (by simp [Value.oneCell']) ?_; intro w10 B10 HB10 K10))
          refine bodyPost_ret (results_cellT rfl _ _ g4 48 _ _ _ rfl rfl B10 Tryd.underlying48 rfl (by kernel_rfl)) rfl ?_
          have hA := Kd.S_bound (S_away_store I9.out.ra D9 rfl K10.out)
          have hB := Kd.S_bound (S_away_store I9.out.rb D9 rfl K10.out)
          refine ⟨_, _, rfl, Kd.S_mono hA (fun k hk => fun e => ?_), Kd.S_mono hB (fun k hk => fun e => ?_), HB10.out⟩
          · exact I9.out.dis k hk.1 ((Kd.S_R I9.out.rb).1 k e.symm)
          · exact I9.out.dis k ((Kd.S_R I9.out.ra).1 k e.symm) hk.1
        exact AllReadyL.nil
      exact AllReadyL.nil
    refine AllReadyL.cons (o := Oper.mk _ _ _ _ _ _) rfl (by decide) (fun K hK => ?_) ?_
    · refine rg_alloc HB (by rfl) #[.slice none 0 0, .slice none 0 0] 48 (by first | (go_simp; done) | (go_simp; rfl)) ?_
      intro g6 W' G6 GE6 D6x HBx hb
      clear HBx
      have N46 : Aside0 (g4 ≠ g6) := ⟨by have := D4.lt; have := G6.out; omega⟩
      have D2n := D2.below hb.out
      have D3n := D3.below hb.out
      have D4n := D4.below hb.out
      have HBn := HB.step hb.out
      have RAn := Aside0.mk (Kd.S_below RA.out hb.out)
      clear D2 D3 D4 HB RA
      have D2 := D2n
      have D3 := D3n
      have D4 := D4n
      have HB := HBn
      clear D2n D3n D4n HBn
      have RA := RAn
      clear RAn
      have D6 := D6x
      clear D6x G6
      refine hK.out _ _ ⟨D2, D3⟩ (fun hS => ?_)
      clear hK K hb
      try simp only [Act.put, List.setIfInBounds_toArray, List.set_cons_zero, List.set_cons_succ]
      refine wpAnyLast_ready (rs := [7]) (by kernel_rfl) (by simp) ?_
      refine AllReadyL.cons (o := Oper.mk _ _ _ _ _ _) rfl (by decide) (fun K hK => ?_) ?_
      · have HN := HB.le
        refine call_ 63 #[.int .i64 (s.size : Int), .int .i64 (most : Int)] (by rfl) rfl (by first | (go_simp; done) | (go_simp; rfl)) ((RW.out 44 _).mono ?_)
        rintro e W' ⟨vb, rfl, hS, hb'⟩
        obtain ⟨A2, c2, rfl⟩ := Kd.S_slice hS
        generalize (rowsB s 44 most (nextP s 0)).length = n2 at hS ⊢
        have hb := Aside0.mk hb'
        obtain ⟨N7, RAy, RBy⟩ : ∃ N7 : Nat, Aside0 (Kd.S k34 34 W' w.heap.size (fun k => k < N7) (.slice A1 n1 c1) (rowsB s 58 most (nextP s 0))) ∧ Aside0 (Kd.S k34 34 W' w.heap.size (fun k => N7 ≤ k) (.slice A2 n2 c2) (rowsB s 44 most (nextP s 0))) :=
          ⟨_, ⟨Kd.S_below (Kd.S_mono (Kd.S_bound RA.out) (fun _ hk => hk.2.2.1)) hb.out⟩, ⟨Kd.S_lower (Kd.S_mono (Kd.S_bound hS) (fun _ hk => hk.2.1)) HN⟩⟩
        clear hS hb' HN
        have D2n := D2.below hb.out
        have D3n := D3.below hb.out
        have D4n := D4.below hb.out
        have HBn := HB.step hb.out
        have D6n := D6.below hb.out
        clear D2 D3 D4 HB D6
        have D2 := D2n
        have D3 := D3n
        have D4 := D4n
        have HB := HBn
        clear D2n D3n D4n HBn
        have D6 := D6n
        clear D6n
        clear RA
        have RA := RAy
        have RB := RBy
        clear RAy RBy
        refine ⟨_, rfl, ?_⟩
        refine hK.out _ _ ⟨D2, D3⟩ (fun hS => ?_)
        clear hK K hb
        try simp only [Act.put, List.setIfInBounds_toArray, List.set_cons_zero, List.set_cons_succ]
        refine' wpAnyLast_take (i := 8) (oi := Oper.mk _ _ _ _ _ _) rfl (by kernel_rfl) (by kernel_rfl) (by kernel_rfl) (by kernel_rfl) (by kernel_rfl) (fun _ _ _ h => h) (Or.inl ⟨by rfl, ?hy30⟩) hS ?rest30
        case hy30 => (intro w hSw; (try dsimp only at hSw); first | (go_simp; done) | (go_simp; with_reducible rfl))
        try simp only [Act.put, List.setIfInBounds_toArray, List.set_cons_zero, List.set_cons_succ]
        refine wpAnyLast_ready (rs := [10]) (by kernel_rfl) (by simp) ?_
        refine AllReadyL.cons_last (o := Oper.mk _ _ _ _ _ _) rfl (by decide) (fun K hK => ?_) ?_
        · refine rg_store HB (by rfl) D6 GE6 48 _ _ rfl rfl rfl (by kernel_rfl) rfl (by simp [Value.oneCell']) ?_
          intro W' B6 HBx K6
          have D2n := D2.other K6 (D2.ne D6 (by decide))
          have D3n := D3.other K6 (D3.ne D6 (by decide))
          have D4n := D4.other K6 N46.out
          have RAn := Aside0.mk (S_away_store RA.out D6 rfl K6.out)
          have RBn := Aside0.mk (S_away_store RB.out D6 rfl K6.out)
          clear D2 D3 D4 RA RB HB
          refine hK.out _ _ ?_
          clear hK K
          try simp only [Act.put, List.setIfInBounds_toArray, List.set_cons_zero, List.set_cons_succ]
          refine wpAnyLast_done (by kernel_rfl) ?_ _
          refine NoPanic.normal ?_
          obtain ⟨X, hX⟩ : ∃ X : List Nat, X = (List.range' w.heap.size (W'.heap.size - w.heap.size)).filter fun k => decide (k ≠ g4) := ⟨_, rfl⟩
          have hmem : ∀ k, w.heap.size ≤ k → k < W'.heap.size → k ≠ g4 → k ∈ X := fun k h1 h2 h3 => by
            rw [hX]
            exact List.mem_filter.2 ⟨List.mem_range'_1.2 ⟨h1, by omega⟩, decide_eq_true h3⟩
          have HXM : Aside0 (∀ k ∈ X, (w.heap.size ≤ k ∧ k < W'.heap.size) ∧ k ≠ g4) := ⟨fun k hk => by
            rw [hX] at hk
            obtain ⟨h1, h2⟩ := List.mem_filter.1 hk
            have h3 := List.mem_range'_1.1 h1
            exact ⟨⟨h3.1, by have := HBx.le; omega⟩, of_decide_eq_true h2⟩⟩
          have RA4 := Kd.S_bound (Kd.S_types RAn.out D4n.out (by decide))
          have RB4 := Kd.S_bound (Kd.S_types RBn.out D4n.out (by decide))
          have I0 : Aside0 (BuI s most g3 g2 g6 (.slice A1 n1 c1) (.slice A2 n2 c2) w.heap.size X (fun k => k < N7 ∧ k ∈ X) (fun k => N7 ≤ k ∧ k ∈ X) (nextP s 0) W') :=
            ⟨⟨D3n, D2n, B6, Kd.S_mono RA4 (fun k hk => ⟨hk.1.1, hmem k hk.2.1 hk.2.2.1 hk.1.2⟩), Kd.S_mono RB4 (fun k hk => ⟨hk.1.1, hmem k hk.2.1 hk.2.2.1 hk.1.2⟩), fun k h1 h2 => absurd h1.1 (by have := h2.1; omega), fun k hk => hk.2, fun k hk => hk.2⟩⟩
          have HWK := Aside0.mk (WK.out g2 g3 g6 X _ _ _ _ W' (HT.out.stepH HBx) HBx (fun k hk => (HXM.out k hk).1) I0.out)
          have c2 : W'.cell? ⟨g2, 0, none⟩ = some (.string s) := D2n.cell (i := 0) rfl
          have D4z := D4n
          have hx4 : Aside0 (g4 ∉ X) := ⟨fun h => (HXM.out g4 h).2 rfl⟩
          clear hX hmem RA4 RB4 I0 RAn RBn D2n D3n D4n B6 K6 HXM
          go_wp2_with (first
            | (go_at_call 64; refine HWK.out.mono ?_; rintro e w9 ⟨⟨d, rfl⟩, hI9, HB9, hT9⟩; have I9 := Aside0.mk hI9; have D9 := D4z.turned hT9 hx4.out; have B9 := hI9.bl; clear hI9 hT9 c2)
            | ((with_reducible refine gate_dst (N := 26) rfl ?_); refine ev_loadS B9 rfl 48 _ rfl rfl Tryd.underlying48 rfl (by kernel_rfl) ?_)
            | ((with_reducible refine gate_ (Op.store 48 (.tmp 4) (.tmp 26)) rfl ?_); refine ev_store HB9 D9 GE_g4 rfl 48 _ _ rfl rfl rfl (by kernel_rfl) rfl (by simp [Value.oneCell']) ?_; intro w10 B10 HB10 K10))
          refine bodyPost_ret (results_cellT rfl _ _ g4 48 _ _ _ rfl rfl B10 Tryd.underlying48 rfl (by kernel_rfl)) rfl ?_
          have hA := Kd.S_bound (S_away_store I9.out.ra D9 rfl K10.out)
          have hB := Kd.S_bound (S_away_store I9.out.rb D9 rfl K10.out)
          refine ⟨_, _, rfl, Kd.S_mono hA (fun k hk => fun e => ?_), Kd.S_mono hB (fun k hk => fun e => ?_), HB10.out⟩
          · exact I9.out.dis k hk.1 ((Kd.S_R I9.out.rb).1 k e.symm)
          · exact I9.out.dis k ((Kd.S_R I9.out.ra).1 k e.symm) hk.1
        exact AllReadyL.nil
      exact AllReadyL.nil
    exact AllReadyL.nil
  refine AllReadyL.cons (o := Oper.mk _ _ _ _ _ _) rfl (by decide) (fun K hK => ?_) ?_
  · refine rg_alloc HB (by rfl) #[.slice none 0 0, .slice none 0 0] 48 (by first | (go_simp; done) | (go_simp; rfl)) ?_
    intro g6 W' G6 GE6 D6x HBx hb
    clear HBx
    have N46 : Aside0 (g4 ≠ g6) := ⟨by have := D4.lt; have := G6.out; omega⟩
    have D2n := D2.below hb.out
    have D3n := D3.below hb.out
    have D4n := D4.below hb.out
    have HBn := HB.step hb.out
    clear D2 D3 D4 HB
    have D2 := D2n
    have D3 := D3n
    have D4 := D4n
    have HB := HBn
    clear D2n D3n D4n HBn
    have D6 := D6x
    clear D6x G6
    refine hK.out _ _ ⟨D2, D3⟩ (fun hS => ?_)
    clear hK K hb
    try simp only [Act.put, List.setIfInBounds_toArray, List.set_cons_zero, List.set_cons_succ]
    refine wpAnyLast_ready (rs := [3]) (by kernel_rfl) (by simp) ?_
    refine AllReadyL.cons (o := Oper.mk _ _ _ _ _ _) rfl (by decide) (fun K hK => ?_) ?_
    · refine call_ 63 #[.int .i64 (s.size : Int), .int .i64 (most : Int)] (by rfl) rfl (by first | (go_simp; done) | (go_simp; rfl)) ((RW.out 58 _).mono ?_)
      rintro e W' ⟨va, rfl, hS, hb'⟩
      obtain ⟨A1, c1, rfl⟩ := Kd.S_slice hS
      generalize (rowsB s 58 most (nextP s 0)).length = n1 at hS ⊢
      have hb := Aside0.mk hb'
      have RAx := Aside0.mk (Kd.S_lower hS HB.le)
      clear hS hb'
      have D2n := D2.below hb.out
      have D3n := D3.below hb.out
      have D4n := D4.below hb.out
      have HBn := HB.step hb.out
      have D6n := D6.below hb.out
      clear D2 D3 D4 HB D6
      have D2 := D2n
      have D3 := D3n
      have D4 := D4n
      have HB := HBn
      clear D2n D3n D4n HBn
      have D6 := D6n
      clear D6n
      have RA := RAx
      clear RAx
      refine ⟨_, rfl, ?_⟩
      refine hK.out _ _ ⟨D2, D3⟩ (fun hS => ?_)
      clear hK K hb
      try simp only [Act.put, List.setIfInBounds_toArray, List.set_cons_zero, List.set_cons_succ]
      refine wpAnyLast_ready (rs := [7]) (by kernel_rfl) (by simp) ?_
      refine AllReadyL.cons (o := Oper.mk _ _ _ _ _ _) rfl (by decide) (fun K hK => ?_) ?_
      · have HN := HB.le
        refine call_ 63 #[.int .i64 (s.size : Int), .int .i64 (most : Int)] (by rfl) rfl (by first | (go_simp; done) | (go_simp; rfl)) ((RW.out 44 _).mono ?_)
        rintro e W' ⟨vb, rfl, hS, hb'⟩
        obtain ⟨A2, c2, rfl⟩ := Kd.S_slice hS
        generalize (rowsB s 44 most (nextP s 0)).length = n2 at hS ⊢
        have hb := Aside0.mk hb'
        obtain ⟨N7, RAy, RBy⟩ : ∃ N7 : Nat, Aside0 (Kd.S k34 34 W' w.heap.size (fun k => k < N7) (.slice A1 n1 c1) (rowsB s 58 most (nextP s 0))) ∧ Aside0 (Kd.S k34 34 W' w.heap.size (fun k => N7 ≤ k) (.slice A2 n2 c2) (rowsB s 44 most (nextP s 0))) :=
          ⟨_, ⟨Kd.S_below (Kd.S_mono (Kd.S_bound RA.out) (fun _ hk => hk.2.2.1)) hb.out⟩, ⟨Kd.S_lower (Kd.S_mono (Kd.S_bound hS) (fun _ hk => hk.2.1)) HN⟩⟩
        clear hS hb' HN
        have D2n := D2.below hb.out
        have D3n := D3.below hb.out
        have D4n := D4.below hb.out
        have HBn := HB.step hb.out
        have D6n := D6.below hb.out
        clear D2 D3 D4 HB D6
        have D2 := D2n
        have D3 := D3n
        have D4 := D4n
        have HB := HBn
        clear D2n D3n D4n HBn
        have D6 := D6n
        clear D6n
        clear RA
        have RA := RAy
        have RB := RBy
        clear RAy RBy
        refine ⟨_, rfl, ?_⟩
        refine hK.out _ _ ⟨D2, D3⟩ (fun hS => ?_)
        clear hK K hb
        try simp only [Act.put, List.setIfInBounds_toArray, List.set_cons_zero, List.set_cons_succ]
        refine' wpAnyLast_take (i := 8) (oi := Oper.mk _ _ _ _ _ _) rfl (by kernel_rfl) (by kernel_rfl) (by kernel_rfl) (by kernel_rfl) (by kernel_rfl) (fun _ _ _ h => h) (Or.inl ⟨by rfl, ?hy31⟩) hS ?rest31
        case hy31 => (intro w hSw; (try dsimp only at hSw); first | (go_simp; done) | (go_simp; with_reducible rfl))
        try simp only [Act.put, List.setIfInBounds_toArray, List.set_cons_zero, List.set_cons_succ]
        refine wpAnyLast_ready (rs := [10]) (by kernel_rfl) (by simp) ?_
        refine AllReadyL.cons_last (o := Oper.mk _ _ _ _ _ _) rfl (by decide) (fun K hK => ?_) ?_
        · refine rg_store HB (by rfl) D6 GE6 48 _ _ rfl rfl rfl (by kernel_rfl) rfl (by simp [Value.oneCell']) ?_
          intro W' B6 HBx K6
          have D2n := D2.other K6 (D2.ne D6 (by decide))
          have D3n := D3.other K6 (D3.ne D6 (by decide))
          have D4n := D4.other K6 N46.out
          have RAn := Aside0.mk (S_away_store RA.out D6 rfl K6.out)
          have RBn := Aside0.mk (S_away_store RB.out D6 rfl K6.out)
          clear D2 D3 D4 RA RB HB
          refine hK.out _ _ ?_
          clear hK K
          try simp only [Act.put, List.setIfInBounds_toArray, List.set_cons_zero, List.set_cons_succ]
          refine wpAnyLast_done (by kernel_rfl) ?_ _
          refine NoPanic.normal ?_
          obtain ⟨X, hX⟩ : ∃ X : List Nat, X = (List.range' w.heap.size (W'.heap.size - w.heap.size)).filter fun k => decide (k ≠ g4) := ⟨_, rfl⟩
          have hmem : ∀ k, w.heap.size ≤ k → k < W'.heap.size → k ≠ g4 → k ∈ X := fun k h1 h2 h3 => by
            rw [hX]
            exact List.mem_filter.2 ⟨List.mem_range'_1.2 ⟨h1, by omega⟩, decide_eq_true h3⟩
          have HXM : Aside0 (∀ k ∈ X, (w.heap.size ≤ k ∧ k < W'.heap.size) ∧ k ≠ g4) := ⟨fun k hk => by
            rw [hX] at hk
            obtain ⟨h1, h2⟩ := List.mem_filter.1 hk
            have h3 := List.mem_range'_1.1 h1
            exact ⟨⟨h3.1, by have := HBx.le; omega⟩, of_decide_eq_true h2⟩⟩
          have RA4 := Kd.S_bound (Kd.S_types RAn.out D4n.out (by decide))
          have RB4 := Kd.S_bound (Kd.S_types RBn.out D4n.out (by decide))
          have I0 : Aside0 (BuI s most g3 g2 g6 (.slice A1 n1 c1) (.slice A2 n2 c2) w.heap.size X (fun k => k < N7 ∧ k ∈ X) (fun k => N7 ≤ k ∧ k ∈ X) (nextP s 0) W') :=
            ⟨⟨D3n, D2n, B6, Kd.S_mono RA4 (fun k hk => ⟨hk.1.1, hmem k hk.2.1 hk.2.2.1 hk.1.2⟩), Kd.S_mono RB4 (fun k hk => ⟨hk.1.1, hmem k hk.2.1 hk.2.2.1 hk.1.2⟩), fun k h1 h2 => absurd h1.1 (by have := h2.1; omega), fun k hk => hk.2, fun k hk => hk.2⟩⟩
          have HWK := Aside0.mk (WK.out g2 g3 g6 X _ _ _ _ W' (HT.out.stepH HBx) HBx (fun k hk => (HXM.out k hk).1) I0.out)
          have c2 : W'.cell? ⟨g2, 0, none⟩ = some (.string s) := D2n.cell (i := 0) rfl
          have D4z := D4n
          have hx4 : Aside0 (g4 ∉ X) := ⟨fun h => (HXM.out g4 h).2 rfl⟩
          clear hX hmem RA4 RB4 I0 RAn RBn D2n D3n D4n B6 K6 HXM
          go_wp2_with (first
            | (go_at_call 64; refine HWK.out.mono ?_; rintro e w9 ⟨⟨d, rfl⟩, hI9, HB9, hT9⟩; have I9 := Aside0.mk hI9; have D9 := D4z.turned hT9 hx4.out; have B9 := hI9.bl; clear hI9 hT9 c2)
            | ((with_reducible refine gate_dst (N := 26) rfl ?_); refine ev_loadS B9 rfl 48 _ rfl rfl Tryd.underlying48 rfl (by kernel_rfl) ?_)
            | ((with_reducible refine gate_ (Op.store 48 (.tmp 4) (.tmp 26)) rfl ?_); refine ev_store HB9 D9 GE_g4 rfl 48 _ _ rfl rfl rfl (by kernel_rfl) rfl (by simp [Value.oneCell']) ?_; intro w10 B10 HB10 K10))
          refine bodyPost_ret (results_cellT rfl _ _ g4 48 _ _ _ rfl rfl B10 Tryd.underlying48 rfl (by kernel_rfl)) rfl ?_
          have hA := Kd.S_bound (S_away_store I9.out.ra D9 rfl K10.out)
          have hB := Kd.S_bound (S_away_store I9.out.rb D9 rfl K10.out)
          refine ⟨_, _, rfl, Kd.S_mono hA (fun k hk => fun e => ?_), Kd.S_mono hB (fun k hk => fun e => ?_), HB10.out⟩
          · exact I9.out.dis k hk.1 ((Kd.S_R I9.out.rb).1 k e.symm)
          · exact I9.out.dis k ((Kd.S_R I9.out.ra).1 k e.symm) hk.1
        exact AllReadyL.nil
      exact AllReadyL.nil
    exact AllReadyL.nil
  exact AllReadyL.nil
set_option maxHeartbeats 4000000 in
theorem levels_Build.none_ (s : ByteArray) (a1 : Int) (h1 : a1 < 1 ∨ 64 < a1) (w : World) :
    Calls Tryd.prog 28 #[.string s, .int .i64 a1] w fun e w' => e = .returned (.tuple #[.agg #[.slice none 0 0, .slice none 0 0], .int .i64 2]) ∧ Below w.heap.size w w' := by
  have HB := BelowH.refl w
  have fin : ∀ x1 x2 : Bool, decide (a1 < 1) = x1 → decide (64 < a1) = x2 → (x1 = true ∨ (x1 = false ∧ x2 = true)) → Calls Tryd.prog 28 #[.string s, .int .i64 a1] w fun e w' => e = .returned (.tuple #[.agg #[.slice none 0 0, .slice none 0 0], .int .i64 2]) ∧ Below w.heap.size w w' := fun x1 x2 q1 q2 q3 => by
    clear h1
    rcases q3 with rfl | ⟨rfl, rfl⟩
    all_goals
      go_enter Tryd.func28, Tryd.ntmps28
      go_wp2_with (first
        | ((with_reducible refine gate_dst (N := 2) rfl ?_); refine ev_alloc HB rfl (#[.string s]) 9 ?hr ?_; (case hr => first | (go_simp; done) | (go_simp; rfl)); intro g2 w2 G_g2 GE_g2 B_g2 HBn K_g2; clear HB; have HB := HBn; clear HBn)
        | ((with_reducible refine gate_dst (N := 3) rfl ?_); refine ev_alloc HB rfl (#[.int .i64 a1]) 3 ?hr ?_; (case hr => first | (go_simp; done) | (go_simp; rfl)); intro g3 w3 G_g3 GE_g3 B_g3 HBn K_g3; clear HB; have HB := HBn; clear HBn)
        | (((with_reducible refine gate_dst (N := 4) rfl ?_); refine ev_alloc HB rfl (#[.slice none 0 0, .slice none 0 0]) 48 ?hr ?_; (case hr => first | (go_simp; done) | (go_simp; rfl)); intro g4 w4 G_g4 GE_g4 B_g4 HBn K_g4; clear HB; have HB := HBn; clear HBn); have c3 : w4.cell? ⟨g3, 0, none⟩ = some (.int .i64 a1) := (B_g3.below K_g4.out).cell (i := 0) rfl)
        | ((with_reducible refine gate_ (Op.store 48 (.tmp 4) (.tmp 13)) rfl ?_); refine ev_store HB B_g4 GE_g4 rfl 48 _ _ rfl rfl rfl (by kernel_rfl) rfl (by simp [Value.oneCell']) ?_; intro w10 B10 HB10 K10))
      refine bodyPost_ret (results_cellT rfl _ _ g4 48 _ _ _ rfl rfl B10 Tryd.underlying48 rfl (by kernel_rfl)) rfl ?_
      exact ⟨rfl, HB10.out⟩
  refine fin _ _ rfl rfl ?_
  by_cases c : a1 < 1
  · exact .inl (decide_eq_true c)
  · exact .inr ⟨decide_eq_false c, decide_eq_true (h1.resolve_left c)⟩
theorem levels_Build.calls (a0 : ByteArray) (a1 : Int) (r1 r2 : List S34) (r3 : Int) (w : World) (hT : TabOk w) (h : levels_Build.f a0 a1 = some (r1, r2, r3)) :
    Calls Tryd.prog 28 #[.string a0, .int .i64 a1] w fun e w' => ∃ v0_ v1_ : Value, e = .returned (.tuple #[.agg #[v0_, v1_], .int .i64 r3]) ∧ Kd.S k34 34 w' w.heap.size (fun k_ => some k_ ≠ (v1_ : Value).ownBlock) v0_ r1 ∧ Kd.S k34 34 w' w.heap.size (fun k_ => some k_ ≠ (v0_ : Value).ownBlock) v1_ r2 ∧ Below w.heap.size w w' := by
  unfold levels_Build.f at h
  by_cases h1 : a1 < 1 ∨ 64 < a1
  · rw [if_pos h1] at h
    simp only [Option.some.injEq, Prod.mk.injEq] at h
    obtain ⟨rfl, rfl, rfl⟩ := h
    exact (levels_Build.none_ a0 a1 h1 w).mono fun e w' ⟨he, hb⟩ => ⟨_, _, he, Kd.S_nil _ _ _ _ _, Kd.S_nil _ _ _ _ _, hb⟩
  · rw [if_neg h1] at h
    by_cases h2 : a0.size ≤ 1048576
    case neg => rw [if_neg h2] at h; cases h
    rw [if_pos h2] at h
    simp only [Option.some.injEq, Prod.mk.injEq] at h
    obtain ⟨rfl, rfl, rfl⟩ := h
    obtain ⟨m, rfl⟩ : ∃ m : Nat, a1 = (m : Int) := ⟨a1.toNat, by omega⟩
    rw [Int.toNat_natCast]
    exact levels_Build.some_ a0 h2 m (by omega) w hT
end


def quarryref00_SameInts.l0 : Nat → List Int → List Int → Int → Option (Bool)
  | 0, _, _, _ => none
  | k + 1, x0, x1, x5 => if x5 < (x0.length : Int) then (if 0 ≤ x5 then (if x5 < (x1.length : Int) then (if (rd x0 x5) = (rd x1 x5) then (quarryref00_SameInts.l0 k x0 x1 (wrap64 (x5 + 1))) else (some false)) else (none)) else (none)) else (some true)
def quarryref00_SameInts.f (k : Nat) (l0 : List Int) (l1 : List Int) : Option (Bool) := if (l0.length : Int) = (l1.length : Int) then (quarryref00_SameInts.l0 k l0 l1 0) else (some false)
theorem quarryref00_SameInts.mono_l : ∀ k, (∀ y0 y1 y2, LeO (quarryref00_SameInts.l0 k y0 y1 y2) (quarryref00_SameInts.l0 (k + 1) y0 y1 y2))
  | 0 => fun _ _ _ r h => by simp [quarryref00_SameInts.l0] at h
  | k + 1 => by
    have ih0 := quarryref00_SameInts.mono_l k
    · intro y0 y1 y2
      unfold quarryref00_SameInts.l0
      repeat' first
      | (with_reducible exact ih0 _ _ _)
      | (with_reducible exact LeO.refl _)
      | (with_reducible exact LeO.none _)
      | (with_reducible refine LeO.ite ?_ ?_)
      | (with_reducible refine LeO.bind ?_ (fun _ => ?_))
      | exact ih0 _ _ _
      | exact LeO.none _
      | refine LeO.ite ?_ ?_
      | refine LeO.bind ?_ (fun _ => ?_)
theorem quarryref00_SameInts.mono : ∀ a0 a1 k, LeO (quarryref00_SameInts.f k a0 a1) (quarryref00_SameInts.f (k + 1) a0 a1) := by
  intro a0 a1 k
  have ih0 := quarryref00_SameInts.mono_l k
  unfold quarryref00_SameInts.f
  repeat' first
      | (with_reducible exact ih0 _ _ _)
      | (with_reducible exact LeO.refl _)
      | (with_reducible exact LeO.none _)
      | (with_reducible refine LeO.ite ?_ ?_)
      | (with_reducible refine LeO.bind ?_ (fun _ => ?_))
      | exact ih0 _ _ _
      | exact LeO.none _
      | refine LeO.ite ?_ ?_
      | refine LeO.bind ?_ (fun _ => ?_)
set_option maxHeartbeats 8000000 in
set_option maxRecDepth 100000 in
theorem quarryref00_SameInts.calls (k : Nat) (A0 : Option Addr) (c0 : Nat) (l0 : List Int) (A1 : Option Addr) (c1 : Nat) (l1 : List Int) (r : Bool) (w : World) (hr0 : Kd.C (Kd.int .i64) w A0 l0.length l0) (hc0 : l0.length ≤ c0) (hr1 : Kd.C (Kd.int .i64) w A1 l1.length l1) (hc1 : l1.length ≤ c1) (h : quarryref00_SameInts.f k l0 l1 = some r) :
    Calls Tryd.prog 25 #[.slice A0 l0.length c0, .slice A1 l1.length c1] w fun e w' => e = .returned (.bool r) ∧ Drawn0 w w' := by
  have HR0 := Aside0.mk hr0
  have HC0 := Aside0.mk hc0
  clear hr0 hc0
  have HR1 := Aside0.mk hr1
  have HC1 := Aside0.mk hc1
  clear hr1 hc1
  have H : (if (l0.length : Int) = (l1.length : Int) then (quarryref00_SameInts.l0 k l0 l1 0) else (some false)) = some r := h
  clear h
  by_cases c3 : (l0.length : Int) = (l1.length : Int)
  · rw [if_pos c3] at H
    have c3b0 : ((l0.length : Int) == (l1.length : Int)) = true := beq_iff_eq.mpr c3
    have c3b1 : ((l0.length : Int) != (l1.length : Int)) = false := bne_eq_false_iff_eq.mpr c3
    have c3b2 : (l0.length == l1.length) = true := by first | simpa using c3 | (simp at c3 ⊢; omega)
    clear c3
    have H' := Aside0.mk H
    clear H
    go_enter Tryd.func25, Tryd.ntmps25
    go_wp2
    repeat (go_quiet (fail); try go_wp2)
    go_loopg [5] k (fun kq v5 w' => ∃ (x5_1 : Int), v5 = .int .i64 x5_1 ∧ Aside0 (quarryref00_SameInts.l0 kq l0 l1 x5_1 = some r) ∧ Aside0 (kq ≤ k) ∧ Drawn0 w w')
    case atStart => exact ⟨(0), (by first | rfl | (simp; done) | (simp [*]; done)), H', ⟨Nat.le_refl _⟩, by repeat (first | exact Drawn0.refl _ | apply Drawn0.step)⟩
    case round =>
      clear H'
      try clear c1
      try clear c2
      try clear p2
      try clear c3
      try clear c3b0
      try clear c3b1
      try clear c3b2
      obtain ⟨x5_1, rfl, HA, HK1, ⟨m1, rfl⟩⟩ := hrel
      cases gk with
      | zero => exact absurd HA.out (by simp [quarryref00_SameInts.l0])
      | succ k1 =>
        have H := HA.out
        clear HA
        simp only [quarryref00_SameInts.l0] at H
        by_cases c4 : x5_1 < (l0.length : Int)
        · rw [if_pos c4] at H
          have c4b0 : decide (x5_1 < (l0.length : Int)) = true := decide_eq_true c4
          clear c4
          by_cases c5 : 0 ≤ x5_1
          · rw [if_pos c5] at H
            have c5b0 : decide (0 ≤ x5_1) = true := decide_eq_true c5
            clear c5
            by_cases c6 : x5_1 < (l1.length : Int)
            · rw [if_pos c6] at H
              have c6b0 : decide (x5_1 < (l1.length : Int)) = true := decide_eq_true c6
              clear c6
              by_cases c7 : (rd l0 x5_1) = (rd l1 x5_1)
              · rw [if_pos c7] at H
                have c7b0 : ((rd l0 x5_1) == (rd l1 x5_1)) = true := beq_iff_eq.mpr c7
                have c7b1 : ((rd l0 x5_1) != (rd l1 x5_1)) = false := bne_eq_false_iff_eq.mpr c7
                clear c7
                have H' := Aside0.mk H
                clear H
                have p109 : 0 ≤ (x5_1 : Int) := of_decide_eq_true (by first | (with_reducible assumption) | assumption)
                have q109 : x5_1 < (l0.length : Int) := of_decide_eq_true (by first | (with_reducible assumption) | assumption)
                obtain ⟨ad109, e109, hx109_0⟩ := Kd.at_int HR0.out x5_1 p109 q109
                cases e109
                replace p109 := eq_true p109
                replace q109 := eq_true q109
                have p110 : 0 ≤ (x5_1 : Int) := of_decide_eq_true (by first | (with_reducible assumption) | assumption)
                have q110 : x5_1 < (l1.length : Int) := of_decide_eq_true (by first | (with_reducible assumption) | assumption)
                obtain ⟨ad110, e110, hx110_0⟩ := Kd.at_int HR1.out x5_1 p110 q110
                cases e110
                replace p110 := eq_true p110
                replace q110 := eq_true q110
                go_wp2
                repeat (go_quiet (fail); try go_wp2)
                go_roundg k1
                case measure => have := HK1.out; omega
                case rel => exact ⟨(wrap64 (x5_1 + 1)), (by first | rfl | (simp; done) | (simp [*]; done)), H', ⟨by have := HK1.out; omega⟩, by repeat (first | exact Drawn0.refl _ | apply Drawn0.step)⟩
              · rw [if_neg c7] at H
                have c7b0 : ((rd l0 x5_1) == (rd l1 x5_1)) = false := beq_eq_false_iff_ne.mpr c7
                have c7b1 : ((rd l0 x5_1) != (rd l1 x5_1)) = true := bne_iff_ne.mpr c7
                obtain rfl := Option.some.inj H
                have p109 : 0 ≤ (x5_1 : Int) := of_decide_eq_true (by first | (with_reducible assumption) | assumption)
                have q109 : x5_1 < (l0.length : Int) := of_decide_eq_true (by first | (with_reducible assumption) | assumption)
                obtain ⟨ad109, e109, hx109_0⟩ := Kd.at_int HR0.out x5_1 p109 q109
                cases e109
                replace p109 := eq_true p109
                replace q109 := eq_true q109
                have p110 : 0 ≤ (x5_1 : Int) := of_decide_eq_true (by first | (with_reducible assumption) | assumption)
                have q110 : x5_1 < (l1.length : Int) := of_decide_eq_true (by first | (with_reducible assumption) | assumption)
                obtain ⟨ad110, e110, hx110_0⟩ := Kd.at_int HR1.out x5_1 p110 q110
                cases e110
                replace p110 := eq_true p110
                replace q110 := eq_true q110
                go_wp2
                repeat (go_quiet (fail); try go_wp2)
                go_ret
                exact ⟨by first | rfl | (simp; done) | (simp [*]; done), by repeat (first | exact Drawn0.refl _ | apply Drawn0.step)⟩
            · rw [if_neg c6] at H
              exact absurd H (by simp)
          · rw [if_neg c5] at H
            exact absurd H (by simp)
        · rw [if_neg c4] at H
          have c4b0 : decide (x5_1 < (l0.length : Int)) = false := decide_eq_false c4
          clear c4
          obtain rfl := Option.some.inj H
          go_wp2
          repeat (go_quiet (fail); try go_wp2)
          go_ret
          exact ⟨by first | rfl | (simp; done) | (simp [*]; done), by repeat (first | exact Drawn0.refl _ | apply Drawn0.step)⟩
  · rw [if_neg c3] at H
    have c3b0 : ((l0.length : Int) == (l1.length : Int)) = false := beq_eq_false_iff_ne.mpr c3
    have c3b1 : ((l0.length : Int) != (l1.length : Int)) = true := bne_iff_ne.mpr c3
    have c3b2 : (l0.length == l1.length) = false := by first | simpa using c3 | (simp at c3 ⊢; omega)
    obtain rfl := Option.some.inj H
    go_enter Tryd.func25, Tryd.ntmps25
    go_wp2
    repeat (go_quiet (fail); try go_wp2)
    go_ret
    exact ⟨by first | rfl | (simp; done) | (simp [*]; done), by repeat (first | exact Drawn0.refl _ | apply Drawn0.step)⟩

def bitmap_size.f (a0 : Int) : Option (Int) := if (Int.tmod a0 64) = 0 then (some (wrap64 (Int.tdiv a0 64))) else (some (wrap64 ((wrap64 (Int.tdiv a0 64)) + 1)))
set_option maxHeartbeats 8000000 in
set_option maxRecDepth 100000 in
theorem bitmap_size.calls (a0 : Int) (r : Int) (w : World) (h : bitmap_size.f a0 = some r) :
    Calls Tryd.prog 97 #[.int .i64 a0] w fun e w' => e = .returned (.int .i64 r) ∧ Drawn0 w w' := by
  have H : (if (Int.tmod a0 64) = 0 then (some (wrap64 (Int.tdiv a0 64))) else (some (wrap64 ((wrap64 (Int.tdiv a0 64)) + 1)))) = some r := h
  clear h
  by_cases c2 : (Int.tmod a0 64) = 0
  · rw [if_pos c2] at H
    have c2b0 : ((Int.tmod a0 64) == 0) = true := beq_iff_eq.mpr c2
    have c2b1 : ((Int.tmod a0 64) != 0) = false := bne_eq_false_iff_eq.mpr c2
    clear c2
    obtain rfl := Option.some.inj H
    go_enter Tryd.func97, Tryd.ntmps97
    go_wp2
    go_ret
    exact ⟨by first | rfl | (simp; done) | (simp [*]; done), by repeat (first | exact Drawn0.refl _ | apply Drawn0.step)⟩
  · rw [if_neg c2] at H
    have c2b0 : ((Int.tmod a0 64) == 0) = false := beq_eq_false_iff_ne.mpr c2
    have c2b1 : ((Int.tmod a0 64) != 0) = true := bne_iff_ne.mpr c2
    obtain rfl := Option.some.inj H
    go_enter Tryd.func97, Tryd.ntmps97
    go_wp2
    go_ret
    exact ⟨by first | rfl | (simp; done) | (simp [*]; done), by repeat (first | exact Drawn0.refl _ | apply Drawn0.step)⟩

def bitmap_tail.f (a0 : Int) : Option (Int) := if (Int.tmod a0 64) = 0 then (some 18446744073709551615) else (if 0 ≤ (Int.tmod a0 64) then (some (IntKind.u64.wrap ((shl .u64 1 (Int.tmod a0 64)) - 1))) else (none))
set_option maxHeartbeats 8000000 in
set_option maxRecDepth 100000 in
theorem bitmap_tail.calls (a0 : Int) (r : Int) (w : World) (h : bitmap_tail.f a0 = some r) :
    Calls Tryd.prog 98 #[.int .i64 a0] w fun e w' => e = .returned (.int .u64 r) ∧ Drawn0 w w' := by
  have H : (if (Int.tmod a0 64) = 0 then (some 18446744073709551615) else (if 0 ≤ (Int.tmod a0 64) then (some (IntKind.u64.wrap ((shl .u64 1 (Int.tmod a0 64)) - 1))) else (none))) = some r := h
  clear h
  by_cases c2 : (Int.tmod a0 64) = 0
  · rw [if_pos c2] at H
    have c2b0 : ((Int.tmod a0 64) == 0) = true := beq_iff_eq.mpr c2
    have c2b1 : ((Int.tmod a0 64) != 0) = false := bne_eq_false_iff_eq.mpr c2
    clear c2
    obtain rfl := Option.some.inj H
    go_enter Tryd.func98, Tryd.ntmps98
    go_wp2
    go_ret
    exact ⟨by first | rfl | (simp; done) | (simp [*]; done), by repeat (first | exact Drawn0.refl _ | apply Drawn0.step)⟩
  · rw [if_neg c2] at H
    have c2b0 : ((Int.tmod a0 64) == 0) = false := beq_eq_false_iff_ne.mpr c2
    have c2b1 : ((Int.tmod a0 64) != 0) = true := bne_iff_ne.mpr c2
    obtain ⟨ji3, hji3⟩ : ∃ j_ : Int, (Int.tmod a0 64) = j_ := ⟨_, rfl⟩
    replace H : (if 0 ≤ (ji3) then (some (IntKind.u64.wrap ((shl .u64 1 (ji3)) - 1))) else (none)) = some r := by first | (rw [hji3] at H; exact H) | (simp only [hji3] at H ⊢; exact H)
    (try rw [hji3] at c2b0)
    (try rw [hji3] at c2b1)
    by_cases c4 : 0 ≤ (ji3)
    · rw [if_pos c4] at H
      have c4b0 := eq_true c4
      have c4b1 : decide (0 ≤ (ji3)) = true := decide_eq_true c4
      clear c4
      obtain ⟨ji5, hji5⟩ : ∃ j_ : Int, (shl .u64 1 (ji3)) = j_ := ⟨_, rfl⟩
      replace H : (some (IntKind.u64.wrap ((ji5) - 1))) = some r := by first | (rw [hji5] at H; exact H) | (simp only [hji5] at H ⊢; exact H)
      have hji5_ : (IntKind.u64.wrap (1 * 2 ^ min (ji3).toNat 64)) = ji5 := hji5
      have hji5z : (ji3) ≤ 64 → (IntKind.u64.wrap (1 * 2 ^ (ji3).toNat)) = ji5 := shl_small hji5
      have hji5u : (IntKind.u64.wrap (2 ^ min (ji3).toNat 64)) = ji5 := by have h_ := hji5_; rw [Int.one_mul] at h_; exact h_
      have hji5v : (ji3) ≤ 64 → (IntKind.u64.wrap (2 ^ (ji3).toNat)) = ji5 := fun hle_ => by have h_ := hji5z hle_; rw [Int.one_mul] at h_; exact h_
      obtain rfl := Option.some.inj H
      go_enter Tryd.func98, Tryd.ntmps98
      go_wp2
      go_ret
      exact ⟨by first | rfl | (simp; done) | (simp only [← hji3, ← hji5] <;> (first | rfl | simp)) | (simp [*]; done), by repeat (first | exact Drawn0.refl _ | apply Drawn0.step)⟩
    · rw [if_neg c4] at H
      exact absurd H (by simp)

def bitmap_Formed.f (a0_0 : Int) (l0_1 : List Int) : Option (Bool) := if a0_0 < 0 then (some false) else ((bitmap_size.f a0_0).bind fun t112 => (if (l0_1.length : Int) = t112 then (if a0_0 = 0 then (some true) else (if 0 ≤ (wrap64 ((l0_1.length : Int) - 1)) then (if (wrap64 ((l0_1.length : Int) - 1)) < (l0_1.length : Int) then ((bitmap_tail.f a0_0).bind fun t114 => (some ((Go.bits .andNot .u64 (rd l0_1 (wrap64 ((l0_1.length : Int) - 1))) t114) == 0))) else (none)) else (none))) else (some false)))
set_option maxHeartbeats 8000000 in
set_option maxRecDepth 100000 in
theorem bitmap_Formed.calls (a0_0 : Int) (A0_1 : Option Addr) (c0_1 : Nat) (l0_1 : List Int) (r : Bool) (w : World) (hr0_1 : Kd.C (Kd.int .u64) w A0_1 l0_1.length l0_1) (hc0_1 : l0_1.length ≤ c0_1) (h : bitmap_Formed.f a0_0 l0_1 = some r) :
    Calls Tryd.prog 61 #[.agg #[.int .i64 a0_0, .slice A0_1 l0_1.length c0_1]] w fun e w' => e = .returned (.bool r) ∧ Below w.heap.size w w' := by
  have hu34 := Tryd.underlying34
  have HR0_1 := Aside0.mk hr0_1
  have HC0_1 := Aside0.mk hc0_1
  clear hr0_1 hc0_1
  have HB := Aside0.mk (Below.refl w.heap.size w)
  have H : (if a0_0 < 0 then (some false) else ((bitmap_size.f a0_0).bind fun t112 => (if (l0_1.length : Int) = t112 then (if a0_0 = 0 then (some true) else (if 0 ≤ (wrap64 ((l0_1.length : Int) - 1)) then (if (wrap64 ((l0_1.length : Int) - 1)) < (l0_1.length : Int) then ((bitmap_tail.f a0_0).bind fun t114 => (some ((Go.bits .andNot .u64 (rd l0_1 (wrap64 ((l0_1.length : Int) - 1))) t114) == 0))) else (none)) else (none))) else (some false)))) = some r := h
  clear h
  by_cases c2 : a0_0 < 0
  · rw [if_pos c2] at H
    have c2b0 : decide (a0_0 < 0) = true := decide_eq_true c2
    clear c2
    obtain rfl := Option.some.inj H
    go_enter Tryd.func61, Tryd.ntmps61
    go_wp2_with (first | ((with_reducible refine gate_dst (N := 1) rfl ?_); (try (refine gate_guard (by rfl) ?_; dsimp only)); refine box_event ?hg (N := 1) ?hd (cs := #[.int .i64 a0_0, .slice A0_1 l0_1.length c0_1]) (t := 34) ?hr ?_; (case hd => rfl); (case hg => rfl); (case hr => first | (go_simp; done) | (go_simp; rfl)); intro gb111 hg w3 hbox hb; have n0_ := Aside0.mk (below_step (by repeat (first | (with_reducible first | exact HB.out | apply below_alloc | apply pw_below_drewN | apply below_drew1) | exact HB.out)) hb); have n1_ := Aside0.mk (hbox); have n2_ := Aside0.mk ((by rw [hg]; exact (below_size (by repeat (first | (with_reducible first | exact HB.out | apply below_alloc | apply pw_below_drewN | apply below_drew1) | exact HB.out))) : w.heap.size ≤ gb111)); have n3_ := Aside0.mk ((by rw [hg]; exact (below_size (by repeat (first | (with_reducible first | exact HB.out | apply below_alloc | apply pw_below_drewN | apply below_drew1) | exact HB.out))) : w.heap.size ≤ gb111)); clear HB; have HB := n0_; have BK111 := n1_; have GW111 := n2_; have GE111 := n3_; clear n0_ n1_ n2_ n3_; clear hb hbox hg; have hcz4_0 : w3.cell? ⟨gb111, 0, none⟩ = some (.int .i64 a0_0) := (blk_cell BK111.out 0).trans rfl; have hcz4_1 : w3.cell? ⟨gb111, 1, none⟩ = some (.slice A0_1 l0_1.length c0_1) := (blk_cell BK111.out 1).trans rfl; have hfz4_0 := blk_frozen BK111.out 0; have hfz4_1 := blk_frozen BK111.out 1))
    repeat (go_quiet (first | ((with_reducible refine gate_dst (N := 1) rfl ?_); (try (refine gate_guard (by rfl) ?_; dsimp only)); refine box_event ?hg (N := 1) ?hd (cs := #[.int .i64 a0_0, .slice A0_1 l0_1.length c0_1]) (t := 34) ?hr ?_; (case hd => rfl); (case hg => rfl); (case hr => first | (go_simp; done) | (go_simp; rfl)); intro gb111 hg w3 hbox hb; have n0_ := Aside0.mk (below_step (by repeat (first | (with_reducible first | exact HB.out | apply below_alloc | apply pw_below_drewN | apply below_drew1) | exact HB.out)) hb); have n1_ := Aside0.mk (hbox); have n2_ := Aside0.mk ((by rw [hg]; exact (below_size (by repeat (first | (with_reducible first | exact HB.out | apply below_alloc | apply pw_below_drewN | apply below_drew1) | exact HB.out))) : w.heap.size ≤ gb111)); have n3_ := Aside0.mk ((by rw [hg]; exact (below_size (by repeat (first | (with_reducible first | exact HB.out | apply below_alloc | apply pw_below_drewN | apply below_drew1) | exact HB.out))) : w.heap.size ≤ gb111)); clear HB; have HB := n0_; have BK111 := n1_; have GW111 := n2_; have GE111 := n3_; clear n0_ n1_ n2_ n3_; clear hb hbox hg; have hcz4_0 : w3.cell? ⟨gb111, 0, none⟩ = some (.int .i64 a0_0) := (blk_cell BK111.out 0).trans rfl; have hcz4_1 : w3.cell? ⟨gb111, 1, none⟩ = some (.slice A0_1 l0_1.length c0_1) := (blk_cell BK111.out 1).trans rfl; have hfz4_0 := blk_frozen BK111.out 0; have hfz4_1 := blk_frozen BK111.out 1)); try go_wp2_with (first | ((with_reducible refine gate_dst (N := 1) rfl ?_); (try (refine gate_guard (by rfl) ?_; dsimp only)); refine box_event ?hg (N := 1) ?hd (cs := #[.int .i64 a0_0, .slice A0_1 l0_1.length c0_1]) (t := 34) ?hr ?_; (case hd => rfl); (case hg => rfl); (case hr => first | (go_simp; done) | (go_simp; rfl)); intro gb111 hg w3 hbox hb; have n0_ := Aside0.mk (below_step (by repeat (first | (with_reducible first | exact HB.out | apply below_alloc | apply pw_below_drewN | apply below_drew1) | exact HB.out)) hb); have n1_ := Aside0.mk (hbox); have n2_ := Aside0.mk ((by rw [hg]; exact (below_size (by repeat (first | (with_reducible first | exact HB.out | apply below_alloc | apply pw_below_drewN | apply below_drew1) | exact HB.out))) : w.heap.size ≤ gb111)); have n3_ := Aside0.mk ((by rw [hg]; exact (below_size (by repeat (first | (with_reducible first | exact HB.out | apply below_alloc | apply pw_below_drewN | apply below_drew1) | exact HB.out))) : w.heap.size ≤ gb111)); clear HB; have HB := n0_; have BK111 := n1_; have GW111 := n2_; have GE111 := n3_; clear n0_ n1_ n2_ n3_; clear hb hbox hg; have hcz4_0 : w3.cell? ⟨gb111, 0, none⟩ = some (.int .i64 a0_0) := (blk_cell BK111.out 0).trans rfl; have hcz4_1 : w3.cell? ⟨gb111, 1, none⟩ = some (.slice A0_1 l0_1.length c0_1) := (blk_cell BK111.out 1).trans rfl; have hfz4_0 := blk_frozen BK111.out 0; have hfz4_1 := blk_frozen BK111.out 1)))
    go_ret
    exact ⟨by first | rfl | (simp [errW_none, errW_some] <;> rfl) | (simp [*, errW_none, errW_some] <;> rfl), by repeat (first | (with_reducible first | exact HB.out | apply below_alloc | apply pw_below_drewN | apply below_drew1 | refine below_set ?_ GE111.out) | exact HB.out)⟩
  · rw [if_neg c2] at H
    have c2b0 : decide (a0_0 < 0) = false := decide_eq_false c2
    clear c2
    replace H := Option.bind_eq_some_iff.mp H
    obtain ⟨t112, A50, H⟩ := H
    replace H : (if (l0_1.length : Int) = t112 then (if a0_0 = 0 then (some true) else (if 0 ≤ (wrap64 ((l0_1.length : Int) - 1)) then (if (wrap64 ((l0_1.length : Int) - 1)) < (l0_1.length : Int) then ((bitmap_tail.f a0_0).bind fun t114 => (some ((Go.bits .andNot .u64 (rd l0_1 (wrap64 ((l0_1.length : Int) - 1))) t114) == 0))) else (none)) else (none))) else (some false)) = some r := H
    have A5 := Aside0.mk A50
    clear A50
    by_cases c6 : (l0_1.length : Int) = t112
    · rw [if_pos c6] at H
      have c6b0 : ((l0_1.length : Int) == t112) = true := beq_iff_eq.mpr c6
      have c6b1 : ((l0_1.length : Int) != t112) = false := bne_eq_false_iff_eq.mpr c6
      clear c6
      by_cases c7 : a0_0 = 0
      · rw [if_pos c7] at H
        have c7b0 : (a0_0 == 0) = true := beq_iff_eq.mpr c7
        have c7b1 : (a0_0 != 0) = false := bne_eq_false_iff_eq.mpr c7
        clear c7
        obtain rfl := Option.some.inj H
        go_enter Tryd.func61, Tryd.ntmps61
        go_wp2_with (first | ((with_reducible refine gate_dst (N := 1) rfl ?_); (try (refine gate_guard (by rfl) ?_; dsimp only)); refine box_event ?hg (N := 1) ?hd (cs := #[.int .i64 a0_0, .slice A0_1 l0_1.length c0_1]) (t := 34) ?hr ?_; (case hd => rfl); (case hg => rfl); (case hr => first | (go_simp; done) | (go_simp; rfl)); intro gb111 hg w8 hbox hb; have n0_ := Aside0.mk (below_step (by repeat (first | (with_reducible first | exact HB.out | apply below_alloc | apply pw_below_drewN | apply below_drew1) | exact HB.out)) hb); have n1_ := Aside0.mk (hbox); have n2_ := Aside0.mk ((by rw [hg]; exact (below_size (by repeat (first | (with_reducible first | exact HB.out | apply below_alloc | apply pw_below_drewN | apply below_drew1) | exact HB.out))) : w.heap.size ≤ gb111)); have n3_ := Aside0.mk ((by rw [hg]; exact (below_size (by repeat (first | (with_reducible first | exact HB.out | apply below_alloc | apply pw_below_drewN | apply below_drew1) | exact HB.out))) : w.heap.size ≤ gb111)); clear HB; have HB := n0_; have BK111 := n1_; have GW111 := n2_; have GE111 := n3_; clear n0_ n1_ n2_ n3_; clear hb hbox hg; have hcz9_0 : w8.cell? ⟨gb111, 0, none⟩ = some (.int .i64 a0_0) := (blk_cell BK111.out 0).trans rfl; have hcz9_1 : w8.cell? ⟨gb111, 1, none⟩ = some (.slice A0_1 l0_1.length c0_1) := (blk_cell BK111.out 1).trans rfl; have hfz9_0 := blk_frozen BK111.out 0; have hfz9_1 := blk_frozen BK111.out 1) | (go_at_call 97; (with_reducible refine (bitmap_size.calls a0_0 t112 _ A5.out).mono ?_); rintro e w' ⟨rfl, ⟨nd, rfl⟩⟩; (try first | exact ⟨rfl, _, World.drewN_drewN _ _ _⟩ | exact ⟨rfl, _, Eq.trans (World.drewN_drewN _ _ _) (congrArg (World.drewN _) (Nat.add_assoc _ _ _))⟩)))
        repeat (go_quiet (first | ((with_reducible refine gate_dst (N := 1) rfl ?_); (try (refine gate_guard (by rfl) ?_; dsimp only)); refine box_event ?hg (N := 1) ?hd (cs := #[.int .i64 a0_0, .slice A0_1 l0_1.length c0_1]) (t := 34) ?hr ?_; (case hd => rfl); (case hg => rfl); (case hr => first | (go_simp; done) | (go_simp; rfl)); intro gb111 hg w8 hbox hb; have n0_ := Aside0.mk (below_step (by repeat (first | (with_reducible first | exact HB.out | apply below_alloc | apply pw_below_drewN | apply below_drew1) | exact HB.out)) hb); have n1_ := Aside0.mk (hbox); have n2_ := Aside0.mk ((by rw [hg]; exact (below_size (by repeat (first | (with_reducible first | exact HB.out | apply below_alloc | apply pw_below_drewN | apply below_drew1) | exact HB.out))) : w.heap.size ≤ gb111)); have n3_ := Aside0.mk ((by rw [hg]; exact (below_size (by repeat (first | (with_reducible first | exact HB.out | apply below_alloc | apply pw_below_drewN | apply below_drew1) | exact HB.out))) : w.heap.size ≤ gb111)); clear HB; have HB := n0_; have BK111 := n1_; have GW111 := n2_; have GE111 := n3_; clear n0_ n1_ n2_ n3_; clear hb hbox hg; have hcz9_0 : w8.cell? ⟨gb111, 0, none⟩ = some (.int .i64 a0_0) := (blk_cell BK111.out 0).trans rfl; have hcz9_1 : w8.cell? ⟨gb111, 1, none⟩ = some (.slice A0_1 l0_1.length c0_1) := (blk_cell BK111.out 1).trans rfl; have hfz9_0 := blk_frozen BK111.out 0; have hfz9_1 := blk_frozen BK111.out 1) | (go_at_call 97; (with_reducible refine (bitmap_size.calls a0_0 t112 _ A5.out).mono ?_); rintro e w' ⟨rfl, ⟨nd, rfl⟩⟩; (try first | exact ⟨rfl, _, World.drewN_drewN _ _ _⟩ | exact ⟨rfl, _, Eq.trans (World.drewN_drewN _ _ _) (congrArg (World.drewN _) (Nat.add_assoc _ _ _))⟩))); try go_wp2_with (first | ((with_reducible refine gate_dst (N := 1) rfl ?_); (try (refine gate_guard (by rfl) ?_; dsimp only)); refine box_event ?hg (N := 1) ?hd (cs := #[.int .i64 a0_0, .slice A0_1 l0_1.length c0_1]) (t := 34) ?hr ?_; (case hd => rfl); (case hg => rfl); (case hr => first | (go_simp; done) | (go_simp; rfl)); intro gb111 hg w8 hbox hb; have n0_ := Aside0.mk (below_step (by repeat (first | (with_reducible first | exact HB.out | apply below_alloc | apply pw_below_drewN | apply below_drew1) | exact HB.out)) hb); have n1_ := Aside0.mk (hbox); have n2_ := Aside0.mk ((by rw [hg]; exact (below_size (by repeat (first | (with_reducible first | exact HB.out | apply below_alloc | apply pw_below_drewN | apply below_drew1) | exact HB.out))) : w.heap.size ≤ gb111)); have n3_ := Aside0.mk ((by rw [hg]; exact (below_size (by repeat (first | (with_reducible first | exact HB.out | apply below_alloc | apply pw_below_drewN | apply below_drew1) | exact HB.out))) : w.heap.size ≤ gb111)); clear HB; have HB := n0_; have BK111 := n1_; have GW111 := n2_; have GE111 := n3_; clear n0_ n1_ n2_ n3_; clear hb hbox hg; have hcz9_0 : w8.cell? ⟨gb111, 0, none⟩ = some (.int .i64 a0_0) := (blk_cell BK111.out 0).trans rfl; have hcz9_1 : w8.cell? ⟨gb111, 1, none⟩ = some (.slice A0_1 l0_1.length c0_1) := (blk_cell BK111.out 1).trans rfl; have hfz9_0 := blk_frozen BK111.out 0; have hfz9_1 := blk_frozen BK111.out 1) | (go_at_call 97; (with_reducible refine (bitmap_size.calls a0_0 t112 _ A5.out).mono ?_); rintro e w' ⟨rfl, ⟨nd, rfl⟩⟩; (try first | exact ⟨rfl, _, World.drewN_drewN _ _ _⟩ | exact ⟨rfl, _, Eq.trans (World.drewN_drewN _ _ _) (congrArg (World.drewN _) (Nat.add_assoc _ _ _))⟩))))
        go_ret
        exact ⟨by first | rfl | (simp [errW_none, errW_some] <;> rfl) | (simp [*, errW_none, errW_some] <;> rfl), by repeat (first | (with_reducible first | exact HB.out | apply below_alloc | apply pw_below_drewN | apply below_drew1 | refine below_set ?_ GE111.out) | exact HB.out)⟩
      · rw [if_neg c7] at H
        have c7b0 : (a0_0 == 0) = false := beq_eq_false_iff_ne.mpr c7
        have c7b1 : (a0_0 != 0) = true := bne_iff_ne.mpr c7
        obtain ⟨ji10, hji10⟩ : ∃ j_ : Int, (wrap64 ((l0_1.length : Int) - 1)) = j_ := ⟨_, rfl⟩
        replace H : (if 0 ≤ (ji10) then (if (ji10) < (l0_1.length : Int) then ((bitmap_tail.f a0_0).bind fun t114 => (some ((Go.bits .andNot .u64 (rd l0_1 (ji10)) t114) == 0))) else (none)) else (none)) = some r := by first | (rw [hji10] at H; exact H) | (simp only [hji10] at H ⊢; exact H)
        (try rw [hji10] at A5)
        have hji10w : (IntKind.i64.wrap ((l0_1.length : Int) - 1)) = ji10 := (i64_w _).trans hji10
        by_cases c11 : 0 ≤ (ji10)
        · rw [if_pos c11] at H
          have c11b0 : decide (0 ≤ (ji10)) = true := decide_eq_true c11
          clear c11
          by_cases c12 : (ji10) < (l0_1.length : Int)
          · rw [if_pos c12] at H
            have c12b0 : decide ((ji10) < (l0_1.length : Int)) = true := decide_eq_true c12
            clear c12
            replace H := Option.bind_eq_some_iff.mp H
            obtain ⟨t114, A130, H⟩ := H
            replace H : (some ((Go.bits .andNot .u64 (rd l0_1 (ji10)) t114) == 0)) = some r := H
            have A13 := Aside0.mk A130
            clear A130
            obtain rfl := Option.some.inj H
            go_enter Tryd.func61, Tryd.ntmps61
            go_wp2_with (first | ((with_reducible refine gate_dst (N := 1) rfl ?_); (try (refine gate_guard (by rfl) ?_; dsimp only)); refine box_event ?hg (N := 1) ?hd (cs := #[.int .i64 a0_0, .slice A0_1 l0_1.length c0_1]) (t := 34) ?hr ?_; (case hd => rfl); (case hg => rfl); (case hr => first | (go_simp; done) | (go_simp; rfl)); intro gb111 hg w14 hbox hb; have n0_ := Aside0.mk (below_step (by repeat (first | (with_reducible first | exact HB.out | apply below_alloc | apply pw_below_drewN | apply below_drew1) | exact HB.out)) hb); have n1_ := Aside0.mk (hbox); have n2_ := Aside0.mk ((by rw [hg]; exact (below_size (by repeat (first | (with_reducible first | exact HB.out | apply below_alloc | apply pw_below_drewN | apply below_drew1) | exact HB.out))) : w.heap.size ≤ gb111)); have n3_ := Aside0.mk ((by rw [hg]; exact (below_size (by repeat (first | (with_reducible first | exact HB.out | apply below_alloc | apply pw_below_drewN | apply below_drew1) | exact HB.out))) : w.heap.size ≤ gb111)); clear HB; have HB := n0_; have BK111 := n1_; have GW111 := n2_; have GE111 := n3_; clear n0_ n1_ n2_ n3_; clear hb hbox hg; have hcz15_0 : w14.cell? ⟨gb111, 0, none⟩ = some (.int .i64 a0_0) := (blk_cell BK111.out 0).trans rfl; have hcz15_1 : w14.cell? ⟨gb111, 1, none⟩ = some (.slice A0_1 l0_1.length c0_1) := (blk_cell BK111.out 1).trans rfl; have hfz15_0 := blk_frozen BK111.out 0; have hfz15_1 := blk_frozen BK111.out 1) | (go_at_call 97; (with_reducible refine (bitmap_size.calls a0_0 t112 _ A5.out).mono ?_); rintro e w' ⟨rfl, ⟨nd, rfl⟩⟩; (try first | exact ⟨rfl, _, World.drewN_drewN _ _ _⟩ | exact ⟨rfl, _, Eq.trans (World.drewN_drewN _ _ _) (congrArg (World.drewN _) (Nat.add_assoc _ _ _))⟩); have p113 : 0 ≤ ((ji10) : Int) := of_decide_eq_true (by first | (with_reducible assumption) | assumption); have q113 : (ji10) < (l0_1.length : Int) := of_decide_eq_true (by first | (with_reducible assumption) | assumption); obtain ⟨ad113, e113, hx113_0⟩ := Kd.at_int HR0_1.out (ji10) p113 q113; cases e113; replace hx113_0 := (HB.out.cell (World.block_lt_of_cell? w _ hx113_0)).trans hx113_0; replace p113 := eq_true p113; replace q113 := eq_true q113) | (go_at_call 98; (with_reducible refine (bitmap_tail.calls a0_0 t114 _ A13.out).mono ?_); rintro e w' ⟨rfl, ⟨nd, rfl⟩⟩; (try first | exact ⟨rfl, _, World.drewN_drewN _ _ _⟩ | exact ⟨rfl, _, Eq.trans (World.drewN_drewN _ _ _) (congrArg (World.drewN _) (Nat.add_assoc _ _ _))⟩)))
            repeat (go_quiet (first | ((with_reducible refine gate_dst (N := 1) rfl ?_); (try (refine gate_guard (by rfl) ?_; dsimp only)); refine box_event ?hg (N := 1) ?hd (cs := #[.int .i64 a0_0, .slice A0_1 l0_1.length c0_1]) (t := 34) ?hr ?_; (case hd => rfl); (case hg => rfl); (case hr => first | (go_simp; done) | (go_simp; rfl)); intro gb111 hg w14 hbox hb; have n0_ := Aside0.mk (below_step (by repeat (first | (with_reducible first | exact HB.out | apply below_alloc | apply pw_below_drewN | apply below_drew1) | exact HB.out)) hb); have n1_ := Aside0.mk (hbox); have n2_ := Aside0.mk ((by rw [hg]; exact (below_size (by repeat (first | (with_reducible first | exact HB.out | apply below_alloc | apply pw_below_drewN | apply below_drew1) | exact HB.out))) : w.heap.size ≤ gb111)); have n3_ := Aside0.mk ((by rw [hg]; exact (below_size (by repeat (first | (with_reducible first | exact HB.out | apply below_alloc | apply pw_below_drewN | apply below_drew1) | exact HB.out))) : w.heap.size ≤ gb111)); clear HB; have HB := n0_; have BK111 := n1_; have GW111 := n2_; have GE111 := n3_; clear n0_ n1_ n2_ n3_; clear hb hbox hg; have hcz15_0 : w14.cell? ⟨gb111, 0, none⟩ = some (.int .i64 a0_0) := (blk_cell BK111.out 0).trans rfl; have hcz15_1 : w14.cell? ⟨gb111, 1, none⟩ = some (.slice A0_1 l0_1.length c0_1) := (blk_cell BK111.out 1).trans rfl; have hfz15_0 := blk_frozen BK111.out 0; have hfz15_1 := blk_frozen BK111.out 1) | (go_at_call 97; (with_reducible refine (bitmap_size.calls a0_0 t112 _ A5.out).mono ?_); rintro e w' ⟨rfl, ⟨nd, rfl⟩⟩; (try first | exact ⟨rfl, _, World.drewN_drewN _ _ _⟩ | exact ⟨rfl, _, Eq.trans (World.drewN_drewN _ _ _) (congrArg (World.drewN _) (Nat.add_assoc _ _ _))⟩); have p113 : 0 ≤ ((ji10) : Int) := of_decide_eq_true (by first | (with_reducible assumption) | assumption); have q113 : (ji10) < (l0_1.length : Int) := of_decide_eq_true (by first | (with_reducible assumption) | assumption); obtain ⟨ad113, e113, hx113_0⟩ := Kd.at_int HR0_1.out (ji10) p113 q113; cases e113; replace hx113_0 := (HB.out.cell (World.block_lt_of_cell? w _ hx113_0)).trans hx113_0; replace p113 := eq_true p113; replace q113 := eq_true q113) | (go_at_call 98; (with_reducible refine (bitmap_tail.calls a0_0 t114 _ A13.out).mono ?_); rintro e w' ⟨rfl, ⟨nd, rfl⟩⟩; (try first | exact ⟨rfl, _, World.drewN_drewN _ _ _⟩ | exact ⟨rfl, _, Eq.trans (World.drewN_drewN _ _ _) (congrArg (World.drewN _) (Nat.add_assoc _ _ _))⟩))); try go_wp2_with (first | ((with_reducible refine gate_dst (N := 1) rfl ?_); (try (refine gate_guard (by rfl) ?_; dsimp only)); refine box_event ?hg (N := 1) ?hd (cs := #[.int .i64 a0_0, .slice A0_1 l0_1.length c0_1]) (t := 34) ?hr ?_; (case hd => rfl); (case hg => rfl); (case hr => first | (go_simp; done) | (go_simp; rfl)); intro gb111 hg w14 hbox hb; have n0_ := Aside0.mk (below_step (by repeat (first | (with_reducible first | exact HB.out | apply below_alloc | apply pw_below_drewN | apply below_drew1) | exact HB.out)) hb); have n1_ := Aside0.mk (hbox); have n2_ := Aside0.mk ((by rw [hg]; exact (below_size (by repeat (first | (with_reducible first | exact HB.out | apply below_alloc | apply pw_below_drewN | apply below_drew1) | exact HB.out))) : w.heap.size ≤ gb111)); have n3_ := Aside0.mk ((by rw [hg]; exact (below_size (by repeat (first | (with_reducible first | exact HB.out | apply below_alloc | apply pw_below_drewN | apply below_drew1) | exact HB.out))) : w.heap.size ≤ gb111)); clear HB; have HB := n0_; have BK111 := n1_; have GW111 := n2_; have GE111 := n3_; clear n0_ n1_ n2_ n3_; clear hb hbox hg; have hcz15_0 : w14.cell? ⟨gb111, 0, none⟩ = some (.int .i64 a0_0) := (blk_cell BK111.out 0).trans rfl; have hcz15_1 : w14.cell? ⟨gb111, 1, none⟩ = some (.slice A0_1 l0_1.length c0_1) := (blk_cell BK111.out 1).trans rfl; have hfz15_0 := blk_frozen BK111.out 0; have hfz15_1 := blk_frozen BK111.out 1) | (go_at_call 97; (with_reducible refine (bitmap_size.calls a0_0 t112 _ A5.out).mono ?_); rintro e w' ⟨rfl, ⟨nd, rfl⟩⟩; (try first | exact ⟨rfl, _, World.drewN_drewN _ _ _⟩ | exact ⟨rfl, _, Eq.trans (World.drewN_drewN _ _ _) (congrArg (World.drewN _) (Nat.add_assoc _ _ _))⟩); have p113 : 0 ≤ ((ji10) : Int) := of_decide_eq_true (by first | (with_reducible assumption) | assumption); have q113 : (ji10) < (l0_1.length : Int) := of_decide_eq_true (by first | (with_reducible assumption) | assumption); obtain ⟨ad113, e113, hx113_0⟩ := Kd.at_int HR0_1.out (ji10) p113 q113; cases e113; replace hx113_0 := (HB.out.cell (World.block_lt_of_cell? w _ hx113_0)).trans hx113_0; replace p113 := eq_true p113; replace q113 := eq_true q113) | (go_at_call 98; (with_reducible refine (bitmap_tail.calls a0_0 t114 _ A13.out).mono ?_); rintro e w' ⟨rfl, ⟨nd, rfl⟩⟩; (try first | exact ⟨rfl, _, World.drewN_drewN _ _ _⟩ | exact ⟨rfl, _, Eq.trans (World.drewN_drewN _ _ _) (congrArg (World.drewN _) (Nat.add_assoc _ _ _))⟩))))
            go_ret
            exact ⟨by first | rfl | (simp [errW_none, errW_some] <;> rfl) | (simp only [← hji10]; first | rfl | (simp [errW_none, errW_some] <;> rfl)) | (simp [*, errW_none, errW_some] <;> rfl), by repeat (first | (with_reducible first | exact HB.out | apply below_alloc | apply pw_below_drewN | apply below_drew1 | refine below_set ?_ GE111.out) | exact HB.out)⟩
          · rw [if_neg c12] at H
            exact absurd H (by simp)
        · rw [if_neg c11] at H
          exact absurd H (by simp)
    · rw [if_neg c6] at H
      have c6b0 : ((l0_1.length : Int) == t112) = false := beq_eq_false_iff_ne.mpr c6
      have c6b1 : ((l0_1.length : Int) != t112) = true := bne_iff_ne.mpr c6
      obtain rfl := Option.some.inj H
      go_enter Tryd.func61, Tryd.ntmps61
      go_wp2_with (first | ((with_reducible refine gate_dst (N := 1) rfl ?_); (try (refine gate_guard (by rfl) ?_; dsimp only)); refine box_event ?hg (N := 1) ?hd (cs := #[.int .i64 a0_0, .slice A0_1 l0_1.length c0_1]) (t := 34) ?hr ?_; (case hd => rfl); (case hg => rfl); (case hr => first | (go_simp; done) | (go_simp; rfl)); intro gb111 hg w16 hbox hb; have n0_ := Aside0.mk (below_step (by repeat (first | (with_reducible first | exact HB.out | apply below_alloc | apply pw_below_drewN | apply below_drew1) | exact HB.out)) hb); have n1_ := Aside0.mk (hbox); have n2_ := Aside0.mk ((by rw [hg]; exact (below_size (by repeat (first | (with_reducible first | exact HB.out | apply below_alloc | apply pw_below_drewN | apply below_drew1) | exact HB.out))) : w.heap.size ≤ gb111)); have n3_ := Aside0.mk ((by rw [hg]; exact (below_size (by repeat (first | (with_reducible first | exact HB.out | apply below_alloc | apply pw_below_drewN | apply below_drew1) | exact HB.out))) : w.heap.size ≤ gb111)); clear HB; have HB := n0_; have BK111 := n1_; have GW111 := n2_; have GE111 := n3_; clear n0_ n1_ n2_ n3_; clear hb hbox hg; have hcz17_0 : w16.cell? ⟨gb111, 0, none⟩ = some (.int .i64 a0_0) := (blk_cell BK111.out 0).trans rfl; have hcz17_1 : w16.cell? ⟨gb111, 1, none⟩ = some (.slice A0_1 l0_1.length c0_1) := (blk_cell BK111.out 1).trans rfl; have hfz17_0 := blk_frozen BK111.out 0; have hfz17_1 := blk_frozen BK111.out 1) | (go_at_call 97; (with_reducible refine (bitmap_size.calls a0_0 t112 _ A5.out).mono ?_); rintro e w' ⟨rfl, ⟨nd, rfl⟩⟩; (try first | exact ⟨rfl, _, World.drewN_drewN _ _ _⟩ | exact ⟨rfl, _, Eq.trans (World.drewN_drewN _ _ _) (congrArg (World.drewN _) (Nat.add_assoc _ _ _))⟩)))
      repeat (go_quiet (first | ((with_reducible refine gate_dst (N := 1) rfl ?_); (try (refine gate_guard (by rfl) ?_; dsimp only)); refine box_event ?hg (N := 1) ?hd (cs := #[.int .i64 a0_0, .slice A0_1 l0_1.length c0_1]) (t := 34) ?hr ?_; (case hd => rfl); (case hg => rfl); (case hr => first | (go_simp; done) | (go_simp; rfl)); intro gb111 hg w16 hbox hb; have n0_ := Aside0.mk (below_step (by repeat (first | (with_reducible first | exact HB.out | apply below_alloc | apply pw_below_drewN | apply below_drew1) | exact HB.out)) hb); have n1_ := Aside0.mk (hbox); have n2_ := Aside0.mk ((by rw [hg]; exact (below_size (by repeat (first | (with_reducible first | exact HB.out | apply below_alloc | apply pw_below_drewN | apply below_drew1) | exact HB.out))) : w.heap.size ≤ gb111)); have n3_ := Aside0.mk ((by rw [hg]; exact (below_size (by repeat (first | (with_reducible first | exact HB.out | apply below_alloc | apply pw_below_drewN | apply below_drew1) | exact HB.out))) : w.heap.size ≤ gb111)); clear HB; have HB := n0_; have BK111 := n1_; have GW111 := n2_; have GE111 := n3_; clear n0_ n1_ n2_ n3_; clear hb hbox hg; have hcz17_0 : w16.cell? ⟨gb111, 0, none⟩ = some (.int .i64 a0_0) := (blk_cell BK111.out 0).trans rfl; have hcz17_1 : w16.cell? ⟨gb111, 1, none⟩ = some (.slice A0_1 l0_1.length c0_1) := (blk_cell BK111.out 1).trans rfl; have hfz17_0 := blk_frozen BK111.out 0; have hfz17_1 := blk_frozen BK111.out 1) | (go_at_call 97; (with_reducible refine (bitmap_size.calls a0_0 t112 _ A5.out).mono ?_); rintro e w' ⟨rfl, ⟨nd, rfl⟩⟩; (try first | exact ⟨rfl, _, World.drewN_drewN _ _ _⟩ | exact ⟨rfl, _, Eq.trans (World.drewN_drewN _ _ _) (congrArg (World.drewN _) (Nat.add_assoc _ _ _))⟩))); try go_wp2_with (first | ((with_reducible refine gate_dst (N := 1) rfl ?_); (try (refine gate_guard (by rfl) ?_; dsimp only)); refine box_event ?hg (N := 1) ?hd (cs := #[.int .i64 a0_0, .slice A0_1 l0_1.length c0_1]) (t := 34) ?hr ?_; (case hd => rfl); (case hg => rfl); (case hr => first | (go_simp; done) | (go_simp; rfl)); intro gb111 hg w16 hbox hb; have n0_ := Aside0.mk (below_step (by repeat (first | (with_reducible first | exact HB.out | apply below_alloc | apply pw_below_drewN | apply below_drew1) | exact HB.out)) hb); have n1_ := Aside0.mk (hbox); have n2_ := Aside0.mk ((by rw [hg]; exact (below_size (by repeat (first | (with_reducible first | exact HB.out | apply below_alloc | apply pw_below_drewN | apply below_drew1) | exact HB.out))) : w.heap.size ≤ gb111)); have n3_ := Aside0.mk ((by rw [hg]; exact (below_size (by repeat (first | (with_reducible first | exact HB.out | apply below_alloc | apply pw_below_drewN | apply below_drew1) | exact HB.out))) : w.heap.size ≤ gb111)); clear HB; have HB := n0_; have BK111 := n1_; have GW111 := n2_; have GE111 := n3_; clear n0_ n1_ n2_ n3_; clear hb hbox hg; have hcz17_0 : w16.cell? ⟨gb111, 0, none⟩ = some (.int .i64 a0_0) := (blk_cell BK111.out 0).trans rfl; have hcz17_1 : w16.cell? ⟨gb111, 1, none⟩ = some (.slice A0_1 l0_1.length c0_1) := (blk_cell BK111.out 1).trans rfl; have hfz17_0 := blk_frozen BK111.out 0; have hfz17_1 := blk_frozen BK111.out 1) | (go_at_call 97; (with_reducible refine (bitmap_size.calls a0_0 t112 _ A5.out).mono ?_); rintro e w' ⟨rfl, ⟨nd, rfl⟩⟩; (try first | exact ⟨rfl, _, World.drewN_drewN _ _ _⟩ | exact ⟨rfl, _, Eq.trans (World.drewN_drewN _ _ _) (congrArg (World.drewN _) (Nat.add_assoc _ _ _))⟩))))
      go_ret
      exact ⟨by first | rfl | (simp [errW_none, errW_some] <;> rfl) | (simp [*, errW_none, errW_some] <;> rfl), by repeat (first | (with_reducible first | exact HB.out | apply below_alloc | apply pw_below_drewN | apply below_drew1 | refine below_set ?_ GE111.out) | exact HB.out)⟩

section
open Go.Proofs.YtgddljealeklkaaDoorQ Go.Proofs.YtgddljealeklkaaDoorM Go.Shelf
attribute [local go_sem] Oper.semAt_some
/-- A row of words, as a variable holds it: in block g. -/
structure RowV (v : Value) (g : Nat) (l : List Int) (W : World) : Prop where mk ::
  out : (v = .slice none 0 0 ∧ l = []) ∨ ∃ cap cur, v = .slice (some ⟨g, 0, none⟩) l.length cap ∧ Blk W g cur 75 ∧ RowA cur (l.map (Value.int .u64))
theorem RowV.heap {v : Value} {g : Nat} {l : List Int} {W W' : World} (h : RowV v g l W) (e : W'.heap[g]? = W.heap[g]?) : RowV v g l W' := by
  rcases h.out with h0 | ⟨cap, cur, h1, h2, h3⟩
  · exact ⟨.inl h0⟩
  · exact ⟨.inr ⟨cap, cur, h1, ⟨e.trans h2.out⟩, h3⟩⟩
/-- The set places of a row of words. -/
def bitL (l : List Int) (p : Nat) : Bool := (l.getD (p / 64) 0).toNat.testBit (p % 64)
theorem iv_bitsE {x : Int} (h0 : 0 ≤ x) (h1 : x < 18446744073709551616) : x = iv (word fun j => x.toNat.testBit j) := by
  obtain ⟨v, rfl⟩ := iv_of h0 h1
  exact congrArg iv (eq_word fun i _ => rfl)
theorem bitL_word (l : List Int) (i : Nat) (h : ∀ x ∈ l, 0 ≤ x ∧ x < 18446744073709551616) (hi : i < l.length) : (l.map (Value.int .u64))[i]? = some (.int .u64 (iv (word fun j => bitL l (64 * i + j)))) := by
  have hg : l[i]? = some (l.getD i 0) := by rw [List.getD_eq_getElem?_getD, List.getElem?_eq_getElem hi]; rfl
  rw [List.getElem?_map, hg, Option.map_some]
  obtain ⟨h0, h1⟩ := h (l.getD i 0) (List.mem_of_getElem? hg)
  have e : word (fun j => bitL l (64 * i + j)) = word (fun j => (l.getD i 0).toNat.testBit j) := word_ext fun j hj => by
    unfold bitL
    rw [show (64 * i + j) / 64 = i by omega, show (64 * i + j) % 64 = j by omega]
  rw [e, ← iv_bitsE h0 h1]
/-- The places of one word among those of the row. -/
def inRow (l : List Int) (i : Nat) (hi : i < l.length) (x : SetP 64 fun j => bitL l (64 * i + j)) : SetP (64 * l.length) (bitL l) := ⟨64 * i + x.val, by have := x.2.1; omega, x.2.2⟩
theorem row_set (l : List Int) (i : Nat) (hi : i < l.length) : ∀ k, k ≤ 64 → setP (64 * l.length) (bitL l) (64 * i + k) = setP (64 * l.length) (bitL l) (64 * i) ++ (setP 64 (fun j => bitL l (64 * i + j)) k).map (inRow l i hi)
  | 0, _ => by simp [setP]
  | k + 1, hk => by
    have ih := row_set l i hi k (by omega)
    by_cases h : bitL l (64 * i + k) = true
    · rw [show 64 * i + (k + 1) = (64 * i + k) + 1 by omega, setP_at ⟨by omega, h⟩, setP_at (n := 64) (q := fun j => bitL l (64 * i + j)) ⟨by omega, h⟩, ih, List.map_append, ← List.append_assoc]
      rfl
    · rw [show 64 * i + (k + 1) = (64 * i + k) + 1 by omega, setP_skip (fun c => h c.2), setP_skip (n := 64) (q := fun j => bitL l (64 * i + j)) (fun c => h c.2), ih]
/-- Between two set bits of one word. -/
structure BEI (α : Type) (J : List Nat → List α → World → Prop) (X : List Nat) (pre0 : List α) {β : Type} (f : β → α) (g2 g5 : Nat) (l i : Nat) (v : Value) (gr : Nat) (L : List Int) (W0 : World) (Ds : List Nat) (m : Nat) (pre : List β) (W : World) : Prop where mk ::
  j : J X (pre0 ++ pre.map f) W
  b2 : Blk W g2 #[.func (.yield l) #[] #[]] 107
  b5 : Blk W g5 #[.int .i64 (i : Int)] 3
  rv : RowV v gr L W
  ht : TabOk W
  mk_ : Marks W0.heap.size Ds W
  sz : m ≤ W.heap.size
theorem RowV.kept {v : Value} {g : Nat} {l : List Int} {W W' : World} (h : RowV v g l W) {row : Option Nat} (hg : W.grownBy W' row) (hr : ∀ r, row = some r → ∃ o : Obj, W.heap[r]? = some o ∧ o.isCells = false) : RowV v g l W' := by
  rcases h.out with h0 | ⟨cap, cur, h1, h2, h3⟩
  · exact ⟨.inl h0⟩
  · exact ⟨.inr ⟨cap, cur, h1, h2.kept hg hr, h3⟩⟩
theorem RowV.below {v : Value} {g : Nat} {l : List Int} {W W' : World} (h : RowV v g l W) (hb : Below W.heap.size W W') : RowV v g l W' := by
  rcases h.out with h0 | ⟨cap, cur, h1, h2, h3⟩
  · exact ⟨.inl h0⟩
  · exact ⟨.inr ⟨cap, cur, h1, h2.below hb, h3⟩⟩
theorem BEI.kept {α : Type} {J : List Nat → List α → World → Prop} {X : List Nat} {pre0 : List α} {β : Type} {f : β → α} {g2 g5 l i : Nat} {v : Value} {gr : Nat} {L : List Int} {W0 : World} {Ds : List Nat} {m : Nat} {pre : List β} {W W' : World}
    (h : BEI α J X pre0 f g2 g5 l i v gr L W0 Ds m pre W) (hJ : OwnFrom W0.heap.size (J X)) (hm : W0.heap.size ≤ m) (hD : ∀ D ∈ Ds, D < m) {row : Option Nat} (hg : W.grownBy W' row) (hr : ∀ r, row = some r → m ≤ r ∧ ∃ o : Obj, W.heap[r]? = some o ∧ o.isCells = false) : BEI α J X pre0 f g2 g5 l i v gr L W0 Ds m pre W' := by
  have hr' : ∀ r, row = some r → ∃ o : Obj, W.heap[r]? = some o ∧ o.isCells = false := fun r e => (hr r e).2
  exact ⟨hJ _ _ _ _ h.j hg (fun r e => ⟨Nat.le_trans hm (hr r e).1, (hr r e).2⟩), h.b2.kept hg hr', h.b5.kept hg hr', h.rv.kept hg hr', h.ht.kept hg hr', h.mk_.grown hg hD (fun r e => (hr r e).1), Nat.le_trans h.sz hg.size⟩
set_option maxHeartbeats 4000000 in
set_option maxRecDepth 100000 in
theorem bitmap_Each_1.stops (F : Fence) (HF : Aside0 (F = Fence.wide)) (n : Nat) (hn : 5 ≤ n) (g3 gr : Nat) (v : Value) (L : List Int) (hL : ∀ x ∈ L, 0 ≤ x ∧ x < 18446744073709551616) (hl8 : L.length ≤ 17592186044416) (w : World)
    (B3 : Blk w g3 #[v] 32) (hRV : RowV v gr L w) (hgr : gr < w.heap.size) (hT : TabOk w) :
    SeqO F n Tryd.prog 82 #[.pointer (some ⟨g3, 0, none⟩)] (fun x : SetP (64 * L.length) (bitL L) => #[.int .i64 (x.val : Int)]) (Keep2 0 gr) (fun ys => ys = setP (64 * L.length) (bitL L) (64 * L.length)) (fun pre => pre <+: setP (64 * L.length) (bitL L) (64 * L.length)) w := by
  intro l J Jx W0 hW hJo hJxo hE hA hY h0
  have HAB := Aside0.mk hA
  clear hA
  have HY := Aside0.mk hY
  have HJ0 := Aside0.mk h0
  have HT := Aside0.mk (hT.step hW)
  have HRV := Aside0.mk (hRV.below hW)
  have HGR := Aside0.mk (Nat.lt_of_lt_of_le hgr hW.size)
  have HJO := Aside0.mk hJo
  have HJXO := Aside0.mk hJxo
  have HE := Aside0.mk hE
  have HL := Aside0.mk hL
  have HL8 := Aside0.mk hl8
  have C3 := B3.below hW
  clear hJo hJxo hE hY h0 hT hRV hgr hW hL hl8 B3
  have f0 := wide_fn HF 62
  have f2 := wide_fn HF 99
  have n1 : 1 ≤ n := by omega
  have n2 : 1 ≤ n - 1 := by omega
  have n3 : 1 ≤ n - 1 - 1 := by omega
  have hro := wide_round HF
  have HB := BelowH.refl W0
  have c3 := C3.cell (i := 0) rfl
  rcases HRV.out.out with ⟨rfl, rfl⟩ | ⟨cap, cur, rfl, _, _⟩
  · refine callsIn_of_wp_marks Tryd.func82 rfl (wide_fn HF _) ?_ hro
    simp only [Tryd.ntmps82, List.size_toArray, List.length_cons, List.length_nil, Nat.reduceAdd, Nat.reduceSub, Array.replicate_succ, Array.replicate_zero, List.push_toArray, List.append_toArray, List.nil_append, List.cons_append]
    gi_wp2_with (first
      | (((with_reducible refine gate_dstIn (N := 2) rfl ?_); refine ev_allocIn HB rfl rfl (#[.func (.yield l) #[] #[]]) 107 ?hr ?_; (case hr => first | (go_simp; done) | (go_simp; rfl)); intro g2 w2 G_g2 GE_g2 B_g2 HBn K_g2 KO_w2; clear HB; have HB := HBn; clear HBn); have c3' := (C3.below K_g2.out).cell (i := 0) rfl))
    refine wpIn_loopM (fun k a W => a = { tmps := #[.func (.yield l) #[] #[], .pointer (some ⟨g3, 0, none⟩), .pointer (some ⟨g2, 0, none⟩), undef, undef, undef, .slice none 0 0, .int .i64 0, .int .i64 0, undef, undef, undef, undef, undef, undef, undef, undef, undef, undef, undef, undef, undef, undef, undef], defers := [] } ∧ W = w2) 0 ⟨rfl, rfl⟩ ?_
    rintro k a W ⟨rfl, rfl⟩ K hK
    gi_wp2
    exact ⟨_, results_none rfl _ _ _, ⟨_, rfl⟩, .inl ⟨[], [], rfl, fun k hk => (List.not_mem_nil hk).elim, HJO.out [] [] _ _ none HJ0.out ⟨K_g2.out.os, K_g2.out.tape, K_g2.out.output, K_g2.out.size, fun k hk _ => K_g2.out.block k hk⟩ (fun r e => by cases e)⟩⟩
  refine callsIn_of_wp_marks Tryd.func82 rfl (wide_fn HF _) ?_ hro
  simp only [Tryd.ntmps82, List.size_toArray, List.length_cons, List.length_nil, Nat.reduceAdd, Nat.reduceSub, Array.replicate_succ, Array.replicate_zero, List.push_toArray, List.append_toArray, List.nil_append, List.cons_append]
  gi_wp2_with (first
    | (((with_reducible refine gate_dstIn (N := 2) rfl ?_); refine ev_allocIn HB rfl rfl (#[.func (.yield l) #[] #[]]) 107 ?hr ?_; (case hr => first | (go_simp; done) | (go_simp; rfl)); intro g2 w2 G_g2 GE_g2 B_g2 HBn K_g2 KO_w2; clear HB; have HB := HBn; clear HBn); have c3' := (C3.below K_g2.out).cell (i := 0) rfl))
  have HJ2 := Aside0.mk (HJO.out [g2] [] _ _ none (HE.out [] [] W0 g2 HJ0.out G_g2.out) ⟨K_g2.out.os, K_g2.out.tape, K_g2.out.output, K_g2.out.size, fun k hk _ => K_g2.out.block k hk⟩ (fun r e => by cases e))
  have HX2 : Aside0 (∀ k ∈ [g2], W0.heap.size ≤ k ∧ k < w2.heap.size) := ⟨fun k hk => by rw [List.mem_singleton.1 hk]; exact ⟨G_g2.out, B_g2.lt⟩⟩
  have HRV2 := Aside0.mk (HRV.out.below K_g2.out)
  have HT2 := Aside0.mk (HT.out.step K_g2.out)
  have HZ2 := Aside0.mk K_g2.out.size
  refine wpIn_loopM (fun m a W => ∃ (i : Nat) (X Ds : List Nat) (z8 : Int) (u3 u4 u5 u9 u10 u11 u12 u13 u14 u15 u16 u17 u18 u19 u20 u21 u22 u23 : Value), m = L.length - i ∧ z8 = (i : Int) ∧ i ≤ L.length ∧ a = { tmps := #[.func (.yield l) #[] #[], .pointer (some ⟨g3, 0, none⟩), .pointer (some ⟨g2, 0, none⟩), u3, u4, u5, .slice (some ⟨gr, 0, none⟩) L.length cap, .int .i64 (L.length : Int), .int .i64 z8, u9, u10, u11, u12, u13, u14, u15, u16, u17, u18, u19, u20, u21, u22, u23], defers := marksD Ds } ∧
    Aside0 (J X (setP (64 * L.length) (bitL L) (64 * i)) W) ∧ Aside0 (g2 ∈ X ∧ ∀ k ∈ X, W0.heap.size ≤ k ∧ k < W.heap.size) ∧ Aside0 (Blk W g2 #[.func (.yield l) #[] #[]] 107) ∧ Aside0 (RowV (.slice (some ⟨gr, 0, none⟩) L.length cap) gr L W) ∧ Aside0 (TabOk W) ∧ Aside0 (Marks W0.heap.size Ds W) ∧ Aside0 (W0.heap.size ≤ W.heap.size)) L.length
    ⟨0, [g2], [], 0, _, _, _, _, _, _, _, _, _, _, _, _, _, _, _, _, _, _, rfl, rfl, Nat.zero_le _, rfl, HJ2, ⟨List.mem_singleton.2 rfl, HX2.out⟩, ⟨B_g2⟩, HRV2, HT2, ⟨Marks.nil⟩, HZ2⟩ ?_
  rintro m a W ⟨i, X, Ds, z8, u3, u4, u5, u9, u10, u11, u12, u13, u14, u15, u16, u17, u18, u19, u20, u21, u22, u23, rfl, hz8, hi, rfl, HJ, HX, B2, HRV, HT, HM, HZ⟩ K hK
  have HKK := Aside0.mk hK
  clear hK HJ0 HJ2 HX2 HRV2 HT2 HZ2 B_g2 C3 c3 c3' HB K_g2 KO_w2 G_g2 GE_g2
  by_cases hlt : i < L.length
  · have HLT := Aside0.mk hlt
    rcases HRV.out.out with ⟨h0, _⟩ | ⟨cap', cur', he, BG, HA⟩
    · cases h0
    have cw := BG.cell (HA.get (bitL_word L i HL.out hlt))
    obtain ⟨x, hx⟩ : ∃ x, x = iv (word fun j => bitL L (64 * i + j)) := ⟨_, rfl⟩
    rw [← hx] at cw
    have HX0 := Aside0.mk hx
    have hq1 : (i : Int) < (L.length : Int) := by omega
    have hq2 : (0 : Int) ≤ (i : Int) := by omega
    subst hz8
    have HB := BelowH.refl W
    clear hx hlt BG HA he hi
    gi_wp2_with (first
      | ((with_reducible refine gate_dstIn (N := 3) rfl ?_); refine ev_allocIn HB rfl rfl (#[.int .i64 0]) 3 ?hr ?_; (case hr => first | (go_simp; done) | (go_simp; rfl)); intro g5 w5 G_g5 GE_g5 B_g5 HBn K_g5 KO_w5; clear HB; have HB := HBn; clear HBn)
      | ((with_reducible refine gate_In (Op.store 3 (.tmp 3) (.tmp 10)) rfl ?_); refine ev_store1In (i := 0) HB B_g5 GE_g5 rfl 3 _ _ rfl rfl (.int .i64 (i : Int)) rfl (by simp) (by kernel_rfl) rfl ?_; intro w6 B6 HBn K_w6 KO_w6; clear HB; have HB := HBn; clear HBn)
      | (gi_at_call 62; refine (callsIn_of HF (words_Each.calls x _)).mono ?_; rintro e w7 ⟨g1, rfl, GE1, B1, HB7⟩))
    have HBW := HB.step HB7.out
    have B5 := B6.below HB7.out
    have E2 := B2.out.below HBW.out
    have RV7 := HRV.out.below HBW.out
    have HT7 := Aside0.mk (HT.out.step HBW.out)
    have HM7 := HM.out.below HBW.out
    have hD7 : ∀ D ∈ Ds, D < w7.heap.size := fun D hD => HM7.lt hD
    have hm7 : W0.heap.size ≤ w7.heap.size := Nat.le_trans HZ.out HBW.le
    have G15 : W.heap.size ≤ g1 := by have := HB.le; omega
    have HJ7 := HJO.out (g1 :: g5 :: X) _ _ _ none (HE.out _ _ _ g1 (HE.out _ _ _ g5 HJ.out G_g5.out) G15) ⟨HBW.out.os, HBW.out.tape, HBW.out.output, HBW.out.size, fun k hk _ => HBW.out.block k hk⟩ (fun r e => by cases e)
    have HXX : Aside0 (∀ k ∈ g1 :: g5 :: X, W0.heap.size ≤ k ∧ k < w7.heap.size) := ⟨fun k hk => by
      have z1 := HZ.out
      have z2 := HBW.le
      have z3 := B1.lt
      have z4 := B5.lt
      have z5 := G_g5.out
      rcases List.mem_cons.1 hk with rfl | hk
      · omega
      · rcases List.mem_cons.1 hk with rfl | hk
        · omega
        · have := HX.out.2 k hk
          omega⟩
    rw [HX0.out] at B1
    have P0 := HT7.out.pos
    have L1 := B1.lt
    have HP := Aside0.mk (And.intro hD7 hm7)
    have HG2 := Aside0.mk HX.out.1
    clear HB HB7 B6 B_g5 K_g5 K_w6 KO_w5 KO_w6 G_g5 GE_g5 GE1 G15 hD7 hm7 HX B2 HRV HT HM HJ cw
    refine wpIn_rangeFunc_O hro n1 (gf := 99) (lb := #[.pointer (some ⟨g1, 0, none⟩)]) rfl f2 (enters_of Tryd.func99 (by kernel_rfl) rfl)
      (words_Each_1.stopsO F HF (n - 1) (by omega) g1 (fun j => bitL L (64 * i + j)) w7 B1 HT7.out) Keep2.trans (fun W l o o' hl ho hc hw => Keep2.putObj P0 P0 W l o o' hl ho hc hw) (Below.refl _ _) (fun _ => rfl)
      (fun X' => BEI _ J (X' ++ g1 :: g5 :: X) (setP (64 * L.length) (bitL L) (64 * i)) (inRow L i HLT.out) g2 g5 l i (.slice (some ⟨gr, 0, none⟩) L.length cap) gr L W0 Ds w7.heap.size)
      (fun c pre W => c = .ret ∧ Jx (setP (64 * L.length) (bitL L) (64 * i) ++ pre.map (inRow L i HLT.out)) W ∧ Marks W0.heap.size Ds W)
      (fun _ pre A B row hs hg hr => hs.kept (HJO.out _) HP.out.2 HP.out.1 hg hr)
      (fun c pre A B row hs hg hr => ⟨hs.1, HJXO.out _ _ _ _ hs.2.1 hg (fun r e => ⟨Nat.le_trans HP.out.2 (hr r e).1, (hr r e).2⟩), hs.2.2.grown hg HP.out.1 (fun r e => (hr r e).1)⟩)
      (fun X' pre A k h hk => ⟨HE.out _ _ _ k h.j hk, h.b2, h.b5, h.rv, h.ht, h.mk_, h.sz⟩)
      (fun X' pre A C hX' h ht => by
        have z1 := HP.out.2
        have z2 := h.sz
        have hXA : ∀ k ∈ X' ++ g1 :: g5 :: X, W0.heap.size ≤ k := fun k hk => by
          rcases List.mem_append.1 hk with hk | hk
          · have := hX' k hk
            omega
          · exact (HXX.out k hk).1
        have n2 : g2 ∉ X' := not_mem_above hX' (HXX.out g2 (List.mem_cons_of_mem _ (List.mem_cons_of_mem _ HG2.out))).2
        have n5 : g5 ∉ X' := not_mem_above hX' (HXX.out g5 (List.mem_cons_of_mem _ (List.mem_cons_self ..))).2
        have nr : gr ∉ X' := not_mem_above hX' (by have := HGR.out; omega)
        have n0 : 0 ∉ X' := not_mem_above hX' (by have := HT7.out.pos; omega)
        exact ⟨HAB.out _ _ _ _ hXA h.j (ht.mono fun k hk => List.mem_append_left _ hk), h.b2.turned ht n2, h.b5.turned ht n5, h.rv.heap (ht.block gr (by have := HGR.out; omega) nr), h.ht.heap (ht.block 0 h.ht.pos n0), h.mk_.same (fun D hD => ht.block D (h.mk_.lt hD) (not_mem_above hX' (HP.out.1 D hD))), Nat.le_trans h.sz ht.size⟩)
      ⟨by rw [List.map_nil, List.append_nil]; exact HJ7, E2, B5, RV7, HT7.out, HM7, Nat.le_refl _⟩
      (fun y a' W => a' = { tmps := #[.func (.yield l) #[] #[], .pointer (some ⟨g3, 0, none⟩), .pointer (some ⟨g2, 0, none⟩), .pointer (some ⟨g5, 0, none⟩), .int .u64 x, .int .i64 ((y.val : Nat) : Int), .slice (some ⟨gr, 0, none⟩) L.length cap, .int .i64 (L.length : Int), .int .i64 (i : Int), .bool true, .int .i64 (i : Int), .pointer (some ⟨gr, i, none⟩), .int .u64 x, .int .u64 x, .func (.func 99) #[] #[.pointer (some ⟨g1, 0, none⟩)], .int .i64 ((y.val : Nat) : Int), u16, u17, u18, u19, u20, u21, u22, u23], defers := [] })
      (fun x a' pre A B row hs hg hr => hs)
      ?assign ?body ?done ?stop
    case assign =>
      intro X' l' pre y W K' hX' hI hsp hK'
      dsimp only
      gi_wp2
      exact hK' _ _ ((KeepsOthers.refl _).from _) (fun _ _ => rfl) ⟨rfl, rfl, Nat.le_refl _⟩ hI rfl
    case body =>
      rintro X' l' pre y a' W' hX' hl ⟨r, hr⟩ hI rfl hsp
      clear hr
      have hpx : (setP (64 * L.length) (bitL L) (64 * i) ++ pre.map (inRow L i HLT.out)) ++ [inRow L i HLT.out y] <+: setP (64 * L.length) (bitL L) (64 * L.length) := by
        have h1 := row_set L i HLT.out 64 (Nat.le_refl _)
        refine List.IsPrefix.trans ?_ (setP_le (i := 64 * i + 64) (by have := HLT.out; omega))
        rw [h1, List.append_assoc]
        refine (List.prefix_append_right_inj _).2 ?_
        have h2 := hsp.map (inRow L i HLT.out)
        rwa [List.map_append] at h2
      have hXi : ∀ k ∈ X' ++ g1 :: g5 :: X, W0.heap.size ≤ k ∧ k < W'.heap.size := fun k hk => by
        rcases List.mem_append.1 hk with hk | hk
        · have := hX' k hk
          have := HP.out.2
          omega
        · have := HXX.out k hk
          have := hI.sz
          omega
      obtain ⟨fn, tmps, assign, body, hy, hR⟩ := HY.out (X' ++ g1 :: g5 :: X) _ (inRow L i HLT.out y) W' hXi hI.j hpx
      have e64 : (((inRow L i HLT.out y).val : Nat) : Int) = 64 * (i : Int) + ((y.val : Nat) : Int) := by
        show ((64 * i + y.val : Nat) : Int) = _
        omega
      rw [e64] at hy
      have HR := Aside0.mk hR
      have c2 := hI.b2.cell (i := 0) rfl
      have c5 := hI.b5.cell (i := 0) rfl
      have hb1 : (i : Int) ≤ 17592186044416 := by have := HL8.out; have := HLT.out; omega
      have hb2 : ((y.val : Nat) : Int) < 64 := by have := y.2.1; omega
      have hw1 : wrap64 (64 * (i : Int)) = 64 * (i : Int) := by unfold wrap64; omega
      have hw2 : wrap64 (64 * (i : Int) + ((y.val : Nat) : Int)) = 64 * (i : Int) + ((y.val : Nat) : Int) := by unfold wrap64; omega
      clear hR e64 hpx hXi hsp
      gi_wp2
      refine (roundIn_wide HF HR.out).mono ?_
      rintro e W2 ⟨hkf, hx, (⟨rfl, hJ2, hk2⟩ | ⟨rfl, hJx2⟩)⟩
      · have R5 := hx g5 (List.mem_append_right _ (List.mem_cons_of_mem _ (List.mem_cons_self ..)))
        have R2 := hx g2 (List.mem_append_right _ (List.mem_cons_of_mem _ (List.mem_cons_of_mem _ HG2.out)))
        have HJ2 := Aside0.mk hJ2
        clear hJ2
        gi_wp2
        refine ⟨KeepsFrom.up hkf HP.out.2, fun k hk => hx k (List.mem_append_left _ hk), ⟨hk2.1, hk2.1, hkf.size⟩, ?_, ⟨R2.trans hI.b2.out⟩, ⟨R5.trans hI.b5.out⟩, hI.rv.heap hk2.2.1, hI.ht.keep hk2, hI.mk_.keeps hkf (Nat.le_refl _), Nat.le_trans hI.sz hkf.size⟩
        rw [List.map_append, ← List.append_assoc]
        exact HJ2.out
      · have HJ2 := Aside0.mk hJx2
        clear hJx2
        gi_wp2
        refine ⟨KeepsFrom.up hkf HP.out.2, fun k hk => hx k (List.mem_append_left _ hk), rfl, ?_, hI.mk_.keeps hkf (Nat.le_refl _)⟩
        rw [List.map_append, ← List.append_assoc]
        exact HJ2.out
    case done =>
      rintro D X' ys W' hD hX' rfl hI hK'
      have HXD := Aside0.mk hX'
      clear hX'
      have HDn : D ∉ Ds := fun c => by have := HP.out.1 D c; omega
      have HM' := Aside0.mk (hI.mk_.cons (Nat.le_trans HP.out.2 hD) hK' HDn)
      have hI' := Aside0.mk hI
      have hb1 : (i : Int) ≤ 17592186044416 := by have := HL8.out; have := HLT.out; omega
      have hw1 : wrap64 ((i : Int) + 1) = (i : Int) + 1 := by unfold wrap64; omega
      have HD' := Aside0.mk (Nat.le_trans HP.out.2 hI.sz)
      clear hI hK' hD HDn
      gi_wp2
      refine HKK.out (L.length - (i + 1)) _ _ (by have := HLT.out; omega) ⟨i + 1, X' ++ g1 :: g5 :: X, D :: Ds, _, _, _, _, _, _, _, _, _, _, _, _, _, _, _, _, _, _, _, rfl, by omega, by have := HLT.out; omega, rfl, ?_, ⟨List.mem_append_right _ (List.mem_cons_of_mem _ (List.mem_cons_of_mem _ HG2.out)), fun k hk => by
        rcases List.mem_append.1 hk with hk | hk
        · have := HXD.out k hk
          have := HP.out.2
          omega
        · have := HXX.out k hk
          have := hI'.out.sz
          omega⟩, ⟨hI'.out.b2⟩, ⟨hI'.out.rv⟩, ⟨hI'.out.ht⟩, HM', HD'⟩
      refine ⟨?_⟩
      rw [show 64 * (i + 1) = 64 * i + 64 by omega, row_set L i HLT.out 64 (Nat.le_refl _)]
      exact hI'.out.j
    case stop =>
      rintro D c pre W' hD hp ⟨rfl, hJ2, hM2⟩ hK'
      have HDn : D ∉ Ds := fun c => by have := HP.out.1 D c; omega
      have HM' := Aside0.mk (hM2.cons (Nat.le_trans HP.out.2 hD) hK' HDn)
      have HJ2 := Aside0.mk hJ2
      have HPR := Aside0.mk hp
      clear hJ2 hM2 hK' hD HDn hp
      gi_wp2
      refine leaves_marksS (S := fun A => Jx (setP (64 * L.length) (bitL L) (64 * i) ++ pre.map (inRow L i HLT.out)) A) (fun A D' hs h1 h2 => HJXO.out.putObj _ hs h1 h2 rfl) (D :: Ds) W' HJ2.out HM'.out fun A hA => ⟨_, results_none rfl _ _ _, ⟨_, rfl⟩, .inr ⟨_, ?_, hA⟩⟩
      have h1 := row_set L i HLT.out 64 (Nat.le_refl _)
      refine List.IsPrefix.trans ?_ (setP_le (i := 64 * i + 64) (by have := HLT.out; omega))
      rw [h1]
      exact (List.prefix_append_right_inj _).2 (HPR.out.map _)
  · have EI : i = L.length := by omega
    subst hz8
    have hq1 : decide (i < L.length) = false := decide_eq_false (by omega)
    have HI := Aside0.mk EI
    clear EI hlt hi
    gi_wp2
    refine leaves_marksS (S := fun A => J X (setP (64 * L.length) (bitL L) (64 * i)) A ∧ W.heap.size ≤ A.heap.size) (fun A D' hs h1 h2 => ⟨(HJO.out X).putObj _ hs.1 h1 h2 rfl, by simpa using hs.2⟩) Ds W ⟨HJ.out, Nat.le_refl _⟩ HM.out fun A hA => ⟨_, results_none rfl _ _ _, ⟨_, rfl⟩, .inl ⟨_, X, ?_, ?_, hA.1⟩⟩
    · rw [HI.out]
    · intro k hk
      have := HX.out.2 k hk
      have := hA.2
      omega
end


section
open Go.Proofs.YtgddljealeklkaaDoorQ Go.Proofs.YtgddljealeklkaaDoorM
/-- What bitmap.Each leaves: a copy of the words, in a variable. -/
structure BEachO (w w' : World) (g3 : Nat) (l : List Int) : Prop where mk ::
  out : ∃ (gr : Nat) (v : Value), w.heap.size ≤ g3 ∧ w.heap.size ≤ gr ∧ gr < w'.heap.size ∧ Blk w' g3 #[v] 32 ∧ RowV v gr l w'
  hb : BelowH w w'
set_option maxHeartbeats 4000000 in
set_option maxRecDepth 100000 in
theorem bitmap_Each.calls (n : Int) (A : Option Addr) (cap : Nat) (l : List Int) (t : Bool) (w : World) (hr : Kd.C (Kd.int .u64) w A l.length l) (hc : l.length ≤ cap) (hb8 : l.length * 8 ≤ 140737488355328) (hF : bitmap_Formed.f n l = some t) :
    Calls Tryd.prog 47 #[.agg #[.int .i64 n, .slice A l.length cap]] w fun e w' => ∃ g3 : Nat, e = .returned (.func (.func 82) #[] #[.pointer (some ⟨g3, 0, none⟩)]) ∧ BEachO w w' g3 (if t then l else []) := by
  have HB := BelowH.refl w
  have HR := Aside0.mk hr
  have HC := Aside0.mk hc
  have HF := Aside0.mk hF
  have H8 := Aside0.mk hb8
  clear hr hc hF hb8
  cases t with
  | false =>
    go_enter Tryd.func47, Tryd.ntmps47
    go_wp2_with (first
      | ((with_reducible refine gate_dst (N := 1) rfl ?_); refine ev_alloc HB rfl (#[.int .i64 n, .slice A l.length cap]) 34 ?hr ?_; (case hr => first | (go_simp; done) | (go_simp; rfl)); intro g1 w1 G_g1 GE_g1 B_g1 HBn K_g1; clear HB; have HB := HBn; clear HBn)
      | ((with_reducible refine gate_dst (N := 3) rfl ?_); refine ev_alloc HB rfl (#[.slice none 0 0]) 32 ?hr ?_; (case hr => first | (go_simp; done) | (go_simp; rfl)); intro g3 w3 G_g3 GE_g3 B_g3 HBn K_g3; clear HB; have HB := HBn; clear HBn)
      | ((with_reducible refine gate_dst (N := 4) rfl ?_); refine ev_loadS (B_g1.below K_g3.out) rfl 34 _ rfl rfl Tryd.underlying34 rfl (by kernel_rfl) ?_)
      | (go_at_call 61; refine (bitmap_Formed.calls n A cap l false _ (Kd.C_below HR.out HB.out) HC.out HF.out).mono ?_; rintro e w4 ⟨rfl, hb4⟩; have HK4 := Aside0.mk hb4; have HB4 := HB.step hb4; clear hb4))
    go_ret
    exact ⟨g3, rfl, ⟨g3, _, GE_g3.out, GE_g3.out, (B_g3.below HK4.out).lt, B_g3.below HK4.out, ⟨.inl ⟨rfl, rfl⟩⟩⟩, HB4⟩
  | true =>
    go_enter Tryd.func47, Tryd.ntmps47
    go_upto_region 3 with (first
      | ((with_reducible refine gate_dst (N := 1) rfl ?_); refine ev_alloc HB rfl (#[.int .i64 n, .slice A l.length cap]) 34 ?hr ?_; (case hr => first | (go_simp; done) | (go_simp; rfl)); intro g1 w1 G_g1 GE_g1 B_g1 HBn K_g1; clear HB; have HB := HBn; clear HBn)
      | ((with_reducible refine gate_dst (N := 3) rfl ?_); refine ev_alloc HB rfl (#[.slice none 0 0]) 32 ?hr ?_; (case hr => first | (go_simp; done) | (go_simp; rfl)); intro g3 w3 G_g3 GE_g3 B_g3 HBn K_g3; clear HB; have HB := HBn; clear HBn)
      | ((with_reducible refine gate_dst (N := 4) rfl ?_); refine ev_loadS (B_g1.below K_g3.out) rfl 34 _ rfl rfl Tryd.underlying34 rfl (by kernel_rfl) ?_)
      | (go_at_call 61; refine (bitmap_Formed.calls n A cap l true _ (Kd.C_below HR.out HB.out) HC.out HF.out).mono ?_; rintro e w4 ⟨rfl, hb4⟩; have HK4 := Aside0.mk hb4; have HB4 := HB.step hb4; clear hb4))
    have D1 := (B_g1.below K_g3.out).below HK4.out
    have D3 := B_g3.below HK4.out
    have c11 := D1.cell (i := 1) rfl
    have c3 := D3.cell (i := 0) rfl
    go_wp2_with (first
      | ((with_reducible refine gate_dst (N := 9) rfl ?_); refine print_append_row_of (w0 := w) (Value.int .u64) (0 : Int) w.heap.size rfl _ _ 32 75 (.int .u64 0) 8 rfl Tryd.underlying32 (by kernel_rfl) rfl (by decide) (fun _ => rfl) (.slice none 0 0) [] l A l.length cap rfl rfl (World.ownsRow_nil _ _ _ _) (Kd.reads_of_C (d := (0 : Int)) (Kd.C_below HR.out HB4.out)) HB4.out HB4.le (by simpa using H8.out) ?_; intro v5 w5 hrow5 hb5 hg5 hat5; have HROW := Aside0.mk hrow5; have HB5 : BelowH w w5 := ⟨hb5⟩; have HG5 := Aside0.mk hg5; have d3 : Blk w5 g3 #[.slice none 0 0] 32 := ⟨(hg5.block _ D3.lt (fun e => by simp [Value.ownBlock] at e)).trans D3.out⟩; clear hrow5 hb5 hg5 hat5)
      | ((with_reducible refine gate_ (Op.store 32 (.tmp 3) (.tmp 9)) rfl ?_); refine ev_store1 (i := 0) HB5 d3 GE_g3 rfl 32 _ _ rfl rfl v5 rfl (by simp) (by kernel_rfl) (row_one HROW.out) ?_; intro w6 B6 HB6 K_w6))
    go_ret
    obtain ⟨hl, hv⟩ := row_open HROW.out
    rcases hv with ⟨rfl, h0⟩ | ⟨g, cap', cur, rfl, hbg, BG, h1, h2, h3, HA⟩
    · refine ⟨g3, rfl, ⟨g3, _, GE_g3.out, GE_g3.out, B6.lt, B6, ⟨.inl ⟨rfl, ?_⟩⟩⟩, HB6⟩
      simpa using h0
    · have hne : g ≠ g3 := BG.ne d3 (by decide)
      have BG6 := BG.other K_w6 hne
      refine ⟨g3, rfl, ⟨g, _, GE_g3.out, hbg, BG6.lt, B6, ⟨.inr ⟨cap', cur, ?_, BG6, ?_⟩⟩⟩, HB6⟩
      · simp
      · simpa [encs] using HA
end


section
open Go.Proofs.YtgddljealeklkaaDoorQ Go.Proofs.YtgddljealeklkaaDoorM Go.Shelf
attribute [local go_sem] Oper.semAt_some
/-- Words of 64 bits, not too many. -/
def rowOk (L : List Int) : Bool := decide (L.length ≤ 268435456) && L.all fun x => decide (0 ≤ x) && decide (x < 18446744073709551616)
theorem rowOk_spec {L : List Int} (h : rowOk L = true) : L.length ≤ 268435456 ∧ ∀ x ∈ L, 0 ≤ x ∧ x < 18446744073709551616 := by
  unfold rowOk at h
  simp only [Bool.and_eq_true, decide_eq_true_eq, List.all_eq_true] at h
  exact h
/-- The set places. -/
def valI {n : Nat} {q : Nat → Bool} (l : List (SetP n q)) : List Int := l.map fun x => ((x.val : Nat) : Int)
theorem valI_snoc {n : Nat} {q : Nat → Bool} (l : List (SetP n q)) (x : SetP n q) : valI (l ++ [x]) = valI l ++ [((x.val : Nat) : Int)] := by unfold valI; rw [List.map_append]; rfl
def setI (L : List Int) : List Int := valI (setP (64 * L.length) (bitL L) (64 * L.length))
def withinL (L : List Int) (a b : Int) : List Int := ((setI L).takeWhile fun p => decide (p < b)).filter fun p => decide (a ≤ p)
def levels_within.f (l0 : List S34) (a1 a2_0 a2_1 : Int) : Option (List Int) :=
  if a1 < 1 ∨ (l0.length : Int) < a1 then some [] else if l0.length ≤ 1099511627776 then
    (bitmap_Formed.f (rd_T34 l0 (a1 - 1)).f0 (rd_T34 l0 (a1 - 1)).f1).bind fun t => if rowOk (rd_T34 l0 (a1 - 1)).f1 = true then some (withinL (if t then (rd_T34 l0 (a1 - 1)).f1 else []) a2_0 a2_1) else none else none
/-- What has been told of the set places. -/
def accW (a : Int) (l : List Int) : List Int := l.filter fun p => decide (a ≤ p)
theorem accW_snoc (a : Int) (l : List Int) (p : Int) : accW a (l ++ [p]) = if a ≤ p then accW a l ++ [p] else accW a l := by
  unfold accW
  rw [List.filter_append]
  by_cases h : a ≤ p
  · rw [if_pos h]
    simp [h]
  · rw [if_neg h]
    simp [h]
theorem take_all {L : List Int} {b : Int} (h : ∀ p ∈ L, p < b) : L.takeWhile (fun p => decide (p < b)) = L := by
  induction L with
  | nil => rfl
  | cons y ys ih =>
    have h1 : decide (y < b) = true := decide_eq_true (h y (List.mem_cons_self ..))
    rw [List.takeWhile_cons, h1, if_pos rfl, ih (fun p hp => h p (List.mem_cons_of_mem _ hp))]
theorem take_stop {pre : List Int} {x b : Int} (h : ∀ p ∈ pre, p < b) (hx : ¬ x < b) : ∀ t, (pre ++ x :: t).takeWhile (fun p => decide (p < b)) = pre := by
  intro t
  induction pre with
  | nil => simp [List.takeWhile_cons, hx]
  | cons y ys ih =>
    have h1 : decide (y < b) = true := decide_eq_true (h y (List.mem_cons_self ..))
    rw [List.cons_append, List.takeWhile_cons, h1, if_pos rfl, ih (fun p hp => h p (List.mem_cons_of_mem _ hp))]
/-- Between two set places. -/
structure WiI (L : List Int) (a b : Int) (w : World) (g5 g7 m : Nat) (X : List Nat) (pre : List Int) (W : World) : Prop where mk ::
  gr : Gr1 3 36 ((accW a pre).map (Value.int .i64)) w g7 m X W
  b5 : Blk W g5 #[.int .i64 a, .int .i64 b] 26
  lt : ∀ p ∈ pre, p < b
/-- The round at which the span ends. -/
def WiStop (a b : Int) (L : List Int) (w : World) (g5 g7 m : Nat) {n : Nat} {q : Nat → Bool} (c : Code) (pre : List (SetP n q)) (W : World) : Prop :=
  c = .exit 0 ∧ ∃ pre' x, pre = pre' ++ [x] ∧ ¬ (((x.val : Nat) : Int) < b) ∧ ∃ X, WiI L a b w g5 g7 m X (valI pre') W
set_option maxHeartbeats 4000000 in
set_option maxRecDepth 100000 in
theorem levels_within.some_ (A0 : Option Addr) (c0 : Nat) (l0 : List S34) (a1 a2_0 a2_1 : Int) (t : Bool) (w : World) (hT : TabOk w) (hr0 : Kd.C k34 w A0 l0.length l0) (hl0 : l0.length ≤ 1099511627776) (h1 : 1 ≤ a1) (h2 : a1 ≤ (l0.length : Int))
    (hf : bitmap_Formed.f (rd_T34 l0 (a1 - 1)).f0 (rd_T34 l0 (a1 - 1)).f1 = some t) (hok : rowOk (rd_T34 l0 (a1 - 1)).f1 = true) :
    Calls Tryd.prog 71 #[.slice A0 l0.length c0, .int .i64 a1, .agg #[.int .i64 a2_0, .int .i64 a2_1]] w fun e w' => ∃ v : Value, e = .returned v ∧ w'.ownsRow w.heap.size 3 1 v (withinL (if t then (rd_T34 l0 (a1 - 1)).f1 else []) a2_0 a2_1).length ((withinL (if t then (rd_T34 l0 (a1 - 1)).f1 else []) a2_0 a2_1).map (Value.int .i64)) ∧ Below w.heap.size w w' := by
  obtain ⟨F, hF⟩ : ∃ F, F = Fence.wide := ⟨_, rfl⟩
  have HF := Aside0.mk hF
  refine (callsIn_wide (n := 9)).1 ?_
  rw [← hF]
  clear hF
  have hro := wide_round HF
  have HB := BelowH.refl w
  have f1 := wide_fn HF 47
  have f2 := wide_fn HF 82
  have HT := Aside0.mk hT
  obtain ⟨z, hz⟩ : ∃ z : Int, z = a1 - 1 := ⟨_, rfl⟩
  rw [← hz] at hf hok
  rw [← hz]
  obtain ⟨x, hx⟩ : ∃ x, x = rd_T34 l0 z := ⟨_, rfl⟩
  obtain ⟨ad, A1, c1, rfl, e0, e1, hc1, hC⟩ := at_T34 hr0 z (by omega) (by omega)
  rw [← hx] at e0 e1 hc1 hC hf hok
  rw [← hx]
  obtain ⟨hL8, hRG⟩ := rowOk_spec hok
  obtain ⟨n, L⟩ := x
  dsimp only at e0 e1 hc1 hC hf hL8 hRG ⊢
  obtain ⟨L', hL'⟩ : ∃ L', L' = (if t then L else []) := ⟨_, rfl⟩
  rw [← hL']
  obtain ⟨R, hR⟩ : ∃ R, R = withinL L' a2_0 a2_1 := ⟨_, rfl⟩
  rw [← hR]
  have HRR := Aside0.mk hR
  have HL8 : Aside0 (L'.length ≤ 268435456) := ⟨by rw [hL']; cases t; exact Nat.zero_le _; exact hL8⟩
  have HRG : Aside0 (∀ x ∈ L', 0 ≤ x ∧ x < 18446744073709551616) := ⟨fun x hx => by rw [hL'] at hx; cases t; cases hx; exact hRG x hx⟩
  have EC : Aside0 (∀ W, Below w.heap.size w W → Calls Tryd.prog 47 #[.agg #[.int .i64 n, .slice A1 L.length c1]] W fun e w' => ∃ g3 : Nat, e = .returned (.func (.func 82) #[] #[.pointer (some ⟨g3, 0, none⟩)]) ∧ BEachO W w' g3 L') := ⟨fun W hb => by
    have := bitmap_Each.calls n A1 c1 L t W (Kd.C_below hC hb) hc1 (by omega) hf
    rw [← hL'] at this
    exact this⟩
  have HE0 := Aside0.mk e0
  have HE1 := Aside0.mk e1
  have HA : Aside0 ((ad.add (z.toNat * 2)).block < w.heap.size) := ⟨World.block_lt_of_cell? w _ e0⟩
  have q1 : decide (a1 < 1) = false := decide_eq_false (by omega)
  have q2 : decide ((l0.length : Int) < a1) = false := decide_eq_false (by omega)
  have q3 : wrap64 (a1 - 1) = z := by unfold wrap64; omega
  have q4 : IntKind.i64.wrap (a1 - 1) = z := by rw [i64_w]; exact q3
  have q5 : (0 : Int) ≤ z := by omega
  have q6 : z < (l0.length : Int) := by omega
  have hu34 := Tryd.underlying34
  clear hT hr0 hf hok hz hx hR hL' hL8 hRG hC hc1 e0 e1 hl0 h1 h2
  refine callsIn_of_wp_marks Tryd.func71 rfl (wide_fn HF _) ?_ hro
  simp only [Tryd.ntmps71, List.size_toArray, List.length_cons, List.length_nil, Nat.reduceAdd, Nat.reduceSub, Array.replicate_succ, Array.replicate_zero, List.push_toArray, List.append_toArray, List.nil_append, List.cons_append]
  gi_wp2_with (first
    | ((with_reducible refine gate_dstIn (N := 5) rfl ?_); refine ev_allocIn HB rfl rfl (#[.int .i64 a2_0, .int .i64 a2_1]) 26 ?hr ?_; (case hr => first | (go_simp; done) | (go_simp; rfl)); intro g5 w5 G_g5 GE_g5 B_g5 HBn K_g5 KO_w5; clear HB; have HB := HBn; clear HBn)
    | (((with_reducible refine gate_dstIn (N := 7) rfl ?_); refine ev_allocIn HB rfl rfl (#[.slice none 0 0]) 36 ?hr ?_; (case hr => first | (go_simp; done) | (go_simp; rfl)); intro g7 w7 G_g7 GE_g7 B_g7 HBn K_g7 KO_w7; clear HB; have HB := HBn; clear HBn); have e0 : w7.cell? (ad.add (z.toNat * 2)) = some (.int .i64 n) := (HB.out.cell (p := ad.add (z.toNat * 2)) HA.out).trans HE0.out; have e1 : w7.cell? ⟨(ad.add (z.toNat * 2)).block, (ad.add (z.toNat * 2)).off + 1, none⟩ = some (.slice A1 L.length c1) := (HB.out.cell (p := ⟨(ad.add (z.toNat * 2)).block, (ad.add (z.toNat * 2)).off + 1, none⟩) HA.out).trans HE1.out)
    | (gi_at_call 47; refine (callsIn_of HF (EC.out _ HB.out)).mono ?_; rintro e w8 ⟨ge, rfl, hO⟩; have HO := Aside0.mk hO; clear hO e0 e1))
  obtain ⟨⟨gr, vr, GEe, GEr, Lr, BE, RV⟩, HB8⟩ := HO.out
  have HBW := HB.step HB8.out
  have T8 := HT.out.stepH HBW
  have P0 := T8.pos
  have D5 := (B_g5.below K_g7.out).below HB8.out
  have D7 := B_g7.below HB8.out
  have I8 : Aside0 (WiI L a2_0 a2_1 w g5 g7 w8.heap.size [] [] w8) := ⟨⟨⟨⟨_, D7, World.ownsRow_nil _ _ _ _, fun b hb => by cases hb⟩, HBW, Nat.le_refl _⟩, D5, fun p hp => by cases hp⟩⟩
  have PM : Aside0 (g5 < w8.heap.size ∧ g7 < w8.heap.size ∧ w.heap.size ≤ g7 ∧ w.heap.size ≤ w8.heap.size ∧ gr ≠ g7 ∧ g7 ≠ 0 ∧ g5 ≠ g7) := ⟨⟨D5.lt, D7.lt, GE_g7.out, HBW.le, by have := D7.lt; have := B_g7.lt; omega, by have := HT.out.pos; have := GE_g7.out; omega, by have := B_g5.lt; have := G_g7.out; omega⟩⟩
  clear HO GEe GEr HB8 HBW HB D5 D7 B_g5 B_g7 K_g5 K_g7 KO_w5 KO_w7 G_g5 G_g7 GE_g5 GE_g7 HE0 HE1 HA EC
  refine wpIn_rangeFunc_O hro (by decide) (gf := 82) (lb := #[.pointer (some ⟨ge, 0, none⟩)]) rfl f2 (enters_of Tryd.func82 (by kernel_rfl) rfl)
    (bitmap_Each_1.stops F HF (9 - 1) (by decide) ge gr vr L' HRG.out (by have := HL8.out; omega) w8 BE RV Lr T8) Keep2.trans (fun W l o o' hl ho hc hw => Keep2.putObj P0 Lr W l o o' hl ho hc hw) (Below.refl _ _) (fun _ => rfl)
    (fun X pre W => WiI L a2_0 a2_1 w g5 g7 w8.heap.size X (valI pre) W)
    (fun c pre W => WiStop a2_0 a2_1 L w g5 g7 w8.heap.size c pre W)
    (fun X pre A B row hs hg hr => ⟨hs.gr.kept PM.out.2.2.2.1 hg hr, hs.b5.kept hg (fun r e => (hr r e).2), hs.lt⟩)
    (fun c pre A B row hs hg hr => ⟨hs.1, by
      obtain ⟨pre', x, h1, h2, X, h3⟩ := hs.2
      exact ⟨pre', x, h1, h2, X, h3.gr.kept PM.out.2.2.2.1 hg hr, h3.b5.kept hg (fun r e => (hr r e).2), h3.lt⟩⟩)
    (fun X pre A k h hk => ⟨h.gr.more hk, h.b5, h.lt⟩)
    (fun X pre A C hX h ht => ⟨h.gr.turned hX ht PM.out.2.1 PM.out.2.2.2.1, h.b5.turned ht (not_mem_above hX PM.out.1), h.lt⟩)
    I8.out
    (fun x a' W => ∃ (yz : Int) (y0 y1 y2 y3 y4 y6 y9 y10 y11 y12 y13 y14 y15 y16 y17 y18 y19 y20 y21 y22 y23 y24 y25 y26 y27 y28 y29 y30 y31 y32 y33 y34 y35 y36 : Value), Aside0 (yz = ((x.val : Nat) : Int)) ∧ a' = { tmps := #[y0, y1, y2, y3, y4, .pointer (some ⟨g5, 0, none⟩), y6, .pointer (some ⟨g7, 0, none⟩), .int .i64 yz, y9, y10, y11, y12, y13, y14, y15, y16, y17, y18, y19, y20, y21, y22, y23, y24, y25, y26, y27, y28, y29, y30, y31, y32, y33, y34, y35, y36], defers := [] })
    (fun x a' pre A B row hs hg hr => hs)
    ?assign ?body ?done ?stop
  case assign =>
    intro X l pre y W K hX hI hsp hK
    dsimp only
    gi_wp2
    exact hK _ _ ((KeepsOthers.refl _).from _) (fun _ _ => rfl) ⟨rfl, rfl, Nat.le_refl _⟩ hI ⟨_, _, _, _, _, _, _, _, _, _, _, _, _, _, _, _, _, _, _, _, _, _, _, _, _, _, _, _, _, _, _, _, _, _, _, ⟨rfl⟩, rfl⟩
  case body =>
    rintro X l pre y a' W hX hl ⟨r, hr⟩ hI ⟨yz, y0, y1, y2, y3, y4, y6, y9, y10, y11, y12, y13, y14, y15, y16, y17, y18, y19, y20, y21, y22, y23, y24, y25, y26, y27, y28, y29, y30, y31, y32, y33, y34, y35, y36, HY, rfl⟩ hsp
    have HXA := Aside0.mk hX
    have HI := Aside0.mk hI
    have c50 : W.cell? ⟨g5, 0, none⟩ = some (.int .i64 a2_0) := hI.b5.cell (i := 0) rfl
    have c51 : W.cell? ⟨g5, 1, none⟩ = some (.int .i64 a2_1) := hI.b5.cell (i := 1) rfl
    have hlen : Aside0 (((accW a2_0 (valI pre)).map (Value.int .i64)).length + 1 ≤ 17592186044416) := ⟨by
      have h1 := hsp.length_le
      have h2 := setP_length (n := 64 * L'.length) (q := bitL L') (64 * L'.length)
      have h3 := HL8.out
      rw [List.length_append, List.length_singleton] at h1
      have h4 : (accW a2_0 (valI pre)).length ≤ pre.length := by
        unfold accW
        have := List.length_filter_le (fun p => decide (a2_0 ≤ p)) (valI pre)
        have e9 : (valI pre).length = pre.length := by unfold valI; rw [List.length_map]
        rwa [e9] at this
      rw [List.length_map]
      omega⟩
    have hmap : Aside0 (valI (pre ++ [y]) = valI pre ++ [yz]) := ⟨by rw [valI_snoc, HY.out]⟩
    clear hX hl hr hI hsp
    by_cases k1 : yz < a2_1
    · have d1 : decide (a2_1 ≤ yz) = false := decide_eq_false (by omega)
      have K1 := Aside0.mk k1
      clear k1
      by_cases k2 : a2_0 ≤ yz
      · have d2 : decide (a2_0 ≤ yz) = true := decide_eq_true k2
        have HAC : Aside0 (accW a2_0 (valI (pre ++ [y])) = accW a2_0 (valI pre) ++ [yz]) := ⟨by rw [hmap.out, accW_snoc, if_pos k2]⟩
        clear k2
        obtain ⟨va, BV, _⟩ := HI.out.gr.g
        have c7 : W.cell? ⟨g7, 0, none⟩ = some va := BV.cell (i := 0) rfl
        have HBx := HI.out.gr.hb
        gi_wp2_with (first
          | ((with_reducible refine gate_dstIn (N := 34) rfl ?_); refine ev_lit1In HBx rfl rfl (.int .i64 yz) 3 ?hr ?_; (case hr => first | (go_simp; done) | (go_simp; rfl)); intro gl w11 G_gl B_gl HB11 K_gl KO11; have G := Aside0.mk (HI.out.gr.below K_gl.out);
              obtain ⟨v2, BV2, RV2, hgrow⟩ := G.out.grow PM.out.2.1 PM.out.2.2.1 (fun k hk => Nat.lt_of_lt_of_le (HXA.out k hk).2 K_gl.out.size) (fun k hk => (HXA.out k hk).1) (u := .int .i64 yz);
              obtain rfl : v2 = va := blk_same BV2 (BV.below K_gl.out); have HG := Aside0.mk hgrow; clear hgrow)
          | ((with_reducible refine gate_dstIn (N := 35) rfl ?_); refine ev_append2In rfl _ _ 36 3 (.int .i64 0) 8 rfl Tryd.underlying36 (by kernel_rfl) rfl (by decide) v2 _ _ RV2 rfl ⟨gl, 0, none⟩ 1 1 [.int .i64 yz] rfl rfl (by decide) (lit_news B_gl) (lit_one rfl) (by have := hlen.out; omega) ?_; intro v3 w12 hA;
              obtain ⟨⟨BG, hone⟩, _⟩ := HG.out v3 w12 w12 hA.out)
          | ((with_reducible refine gate_In (Op.store 36 (.tmp 7) (.tmp 35)) rfl ?_); refine ev_put1In (i := 0) BG rfl 36 _ _ rfl rfl v3 rfl (by simp) (by kernel_rfl) hone ?_; intro w13 B13 hg13;
              have FIN := Aside0.mk ((HG.out v3 w12 w13 hA.out).2 B13 hg13.out)))
        obtain ⟨GN, hXk, hlow, hsz, hKO⟩ := FIN.out
        have q := PM.out
        have Z := HI.out.gr.sz
        refine ⟨((keepsOthers_below K_gl.out).trans hKO).from _, fun k hk => (hXk k hk).trans (K_gl.out.block k (HXA.out k hk).2), ⟨(hlow 0 (by omega) (by omega)).trans (K_gl.out.block 0 (by omega)), (hlow gr (by omega) (by omega)).trans (K_gl.out.block gr (by omega)), Nat.le_trans K_gl.out.size hsz⟩, ?_⟩
        refine ⟨?_, ⟨(hlow g5 (by omega) q.2.2.2.2.2.2).trans ((K_gl.out.block g5 (by omega)).trans HI.out.b5.out)⟩, ?_⟩
        · rw [HAC.out, List.map_append]
          exact GN
        · rw [hmap.out]
          intro p hp
          rcases List.mem_append.1 hp with hp | hp
          · exact HI.out.lt p hp
          · rw [List.mem_singleton.1 hp]
            exact K1.out
      · have d2 : decide (a2_0 ≤ yz) = false := decide_eq_false k2
        have HAC : Aside0 (accW a2_0 (valI (pre ++ [y])) = accW a2_0 (valI pre)) := ⟨by rw [hmap.out, accW_snoc, if_neg k2]⟩
        clear k2
        gi_wp2
        refine ⟨(KeepsOthers.refl _).from _, fun _ _ => rfl, ⟨rfl, rfl, Nat.le_refl _⟩, ?_, HI.out.b5, ?_⟩
        · rw [HAC.out]
          exact HI.out.gr
        · rw [hmap.out]
          intro p hp
          rcases List.mem_append.1 hp with hp | hp
          · exact HI.out.lt p hp
          · rw [List.mem_singleton.1 hp]
            exact K1.out
    · have d1 : decide (a2_1 ≤ yz) = true := decide_eq_true (by omega)
      have K1 := Aside0.mk k1
      clear k1
      gi_wp2
      refine ⟨(KeepsOthers.refl _).from _, fun _ _ => rfl, rfl, pre, y, rfl, ?_, X, HI.out⟩
      rw [← HY.out]
      have := K1.out
      omega
  case done =>
    rintro D X ys W hD hX rfl hI hK
    have HM : Marks w.heap.size [D] W := Marks.nil.cons (Nat.le_trans PM.out.2.2.2.1 hD) hK (List.not_mem_nil)
    obtain ⟨va, BV, RVa, _⟩ := hI.gr.g
    have c7 : W.cell? ⟨g7, 0, none⟩ = some va := BV.cell (i := 0) rfl
    have HI := Aside0.mk hI
    have HRV := Aside0.mk RVa
    have HMM := Aside0.mk HM
    have HR2 : Aside0 (accW a2_0 (valI (setP (64 * L'.length) (bitL L') (64 * L'.length))) = R) := ⟨by
      rw [HRR.out]
      unfold withinL
      rw [take_all (by unfold setI; exact hI.lt)]
      rfl⟩
    clear hX hK hI RVa HM hD
    gi_wp2
    exact leaves_marksS (S := fun A => A.ownsRow w.heap.size 3 1 va R.length (R.map (Value.int .i64)) ∧ BelowH w A) (fun A D' hs h1 h2 => by
      have hg := grownBy_putObj' A D' (.deferred none)
      exact ⟨row_kept hs.1 hg (fun r e => by cases e; exact ⟨_, h2, rfl⟩), hs.2.kept hg (Nat.le_refl _) (fun r e => by cases e; exact h1)⟩) [D] W (by
      have h := HRV.out
      rw [List.length_map, HR2.out] at h
      exact ⟨h, HI.out.gr.hb⟩) HMM.out fun A hA => ⟨_, results_tmp rfl _ _ _, va, rfl, hA.1, hA.2.out⟩
  case stop =>
    rintro D c pre W hD hp ⟨rfl, pre', x, rfl, hx, X, hI⟩ hK
    have HM : Marks w.heap.size [D] W := Marks.nil.cons (Nat.le_trans PM.out.2.2.2.1 hD) hK (List.not_mem_nil)
    obtain ⟨va, BV, RVa, _⟩ := hI.gr.g
    have c7 : W.cell? ⟨g7, 0, none⟩ = some va := BV.cell (i := 0) rfl
    have HI := Aside0.mk hI
    have HRV := Aside0.mk RVa
    have HMM := Aside0.mk HM
    have HR2 : Aside0 (accW a2_0 (valI pre') = R) := ⟨by
      obtain ⟨tl, htl⟩ := hp
      rw [HRR.out]
      unfold withinL setI
      have e9 : valI (setP (64 * L'.length) (bitL L') (64 * L'.length)) = valI pre' ++ ((x.val : Nat) : Int) :: valI tl := by
        rw [← htl]
        unfold valI
        simp
      rw [e9]
      exact (congrArg (accW a2_0) (take_stop (x := ((x.val : Nat) : Int)) hI.lt hx (valI tl))).symm⟩
    clear hK hI RVa HM hD hp hx
    gi_wp2
    exact leaves_marksS (S := fun A => A.ownsRow w.heap.size 3 1 va R.length (R.map (Value.int .i64)) ∧ BelowH w A) (fun A D' hs h1 h2 => by
      have hg := grownBy_putObj' A D' (.deferred none)
      exact ⟨row_kept hs.1 hg (fun r e => by cases e; exact ⟨_, h2, rfl⟩), hs.2.kept hg (Nat.le_refl _) (fun r e => by cases e; exact h1)⟩) [D] W (by
      have h := HRV.out
      rw [List.length_map, HR2.out] at h
      exact ⟨h, HI.out.gr.hb⟩) HMM.out fun A hA => ⟨_, results_tmp rfl _ _ _, va, rfl, hA.1, hA.2.out⟩
theorem levels_within.calls (A0 : Option Addr) (c0 : Nat) (l0 : List S34) (a1 : Int) (a2_0 : Int) (a2_1 : Int) (r : List Int) (w : World) (hT : TabOk w) (hr0 : Kd.C k34 w A0 l0.length l0) (hc0 : l0.length ≤ c0) (h : levels_within.f l0 a1 a2_0 a2_1 = some r) :
    Calls Tryd.prog 71 #[.slice A0 l0.length c0, .int .i64 a1, .agg #[.int .i64 a2_0, .int .i64 a2_1]] w fun e w' => ∃ v0_ : Value, e = .returned (v0_) ∧ Kd.R (Kd.int .i64) 3 w' w.heap.size (fun _ => True) v0_ r ∧ Below w.heap.size w w' := by
  unfold levels_within.f at h
  by_cases h1 : a1 < 1 ∨ (l0.length : Int) < a1
  · rw [if_pos h1] at h
    injection h with h
    subst h
    have HB := BelowH.refl w
    have fin : ∀ x1 x2 : Bool, decide (a1 < 1) = x1 → decide ((l0.length : Int) < a1) = x2 → (x1 = true ∨ (x1 = false ∧ x2 = true)) → Calls Tryd.prog 71 #[.slice A0 l0.length c0, .int .i64 a1, .agg #[.int .i64 a2_0, .int .i64 a2_1]] w fun e w' => ∃ v0_ : Value, e = .returned (v0_) ∧ Kd.R (Kd.int .i64) 3 w' w.heap.size (fun _ => True) v0_ [] ∧ Below w.heap.size w w' := fun x1 x2 q1 q2 q3 => by
      clear h1 hT hr0 hc0
      rcases q3 with rfl | ⟨rfl, rfl⟩
      all_goals
        go_enter Tryd.func71, Tryd.ntmps71
        go_wp2_with (first
          | ((with_reducible refine gate_dst (N := 5) rfl ?_); refine ev_alloc HB rfl (#[.int .i64 a2_0, .int .i64 a2_1]) 26 ?hr ?_; (case hr => first | (go_simp; done) | (go_simp; rfl)); intro g5 w5 G_g5 GE_g5 B_g5 HBn K_g5; clear HB; have HB := HBn; clear HBn))
        go_ret
        exact ⟨_, rfl, Kd.R_nil _ _ _ _ _, HB.out⟩
    refine fin _ _ rfl rfl ?_
    by_cases c : a1 < 1
    · exact .inl (decide_eq_true c)
    · exact .inr ⟨decide_eq_false c, decide_eq_true (h1.resolve_left c)⟩
  · rw [if_neg h1] at h
    by_cases h2 : l0.length ≤ 1099511627776
    case neg => rw [if_neg h2] at h; cases h
    rw [if_pos h2] at h
    obtain ⟨t, ht, h⟩ := Option.bind_eq_some_iff.1 h
    by_cases h3 : rowOk (rd_T34 l0 (a1 - 1)).f1 = true
    case neg => rw [if_neg h3] at h; cases h
    rw [if_pos h3] at h
    injection h with h
    subst h
    refine (levels_within.some_ A0 c0 l0 a1 a2_0 a2_1 t w hT hr0 h2 (by omega) (by omega) ht h3).mono ?_
    rintro e w' ⟨v, rfl, hrow, hb⟩
    exact ⟨v, rfl, Kd.R_of_own hrow (fun _ _ => trivial), hb⟩
end


def levels_Colons.f (l0_0 : List (S34)) (l0_1 : List (S34)) (a1 : Int) (a2_0 : Int) (a2_1 : Int) : Option (List Int) := (levels_within.f l0_0 a1 a2_0 a2_1).bind fun t117 => (some t117)
set_option maxHeartbeats 8000000 in
set_option maxRecDepth 100000 in
theorem levels_Colons.calls (A0_0 : Option Addr) (c0_0 : Nat) (l0_0 : List (S34)) (A0_1 : Option Addr) (c0_1 : Nat) (l0_1 : List (S34)) (a1 : Int) (a2_0 : Int) (a2_1 : Int) (r : List Int) (w : World) (hT : TabOk w) (hr0_0 : Kd.C k34 w A0_0 l0_0.length l0_0) (hc0_0 : l0_0.length ≤ c0_0) (hr0_1 : Kd.C k34 w A0_1 l0_1.length l0_1) (hc0_1 : l0_1.length ≤ c0_1) (h : levels_Colons.f l0_0 l0_1 a1 a2_0 a2_1 = some r) :
    Calls Tryd.prog 33 #[.agg #[.slice A0_0 l0_0.length c0_0, .slice A0_1 l0_1.length c0_1], .int .i64 a1, .agg #[.int .i64 a2_0, .int .i64 a2_1]] w fun e w' => ∃ v0_ : Value, e = .returned (v0_) ∧ Kd.R (Kd.int .i64) 3 w' w.heap.size (fun _ => True) v0_ r ∧ Below w.heap.size w w' := by
  have TK_ := Aside0.mk hT
  clear hT
  have hu48 := Tryd.underlying48
  have hu26 := Tryd.underlying26
  have HR0_0 := Aside0.mk hr0_0
  have HC0_0 := Aside0.mk hc0_0
  clear hr0_0 hc0_0
  have HR0_1 := Aside0.mk hr0_1
  have HC0_1 := Aside0.mk hc0_1
  clear hr0_1 hc0_1
  have HB := Aside0.mk (Below.refl w.heap.size w)
  have H : ((levels_within.f l0_0 a1 a2_0 a2_1).bind fun t117 => (some t117)) = some r := h
  clear h
  replace H := Option.bind_eq_some_iff.mp H
  obtain ⟨t117, A40, H⟩ := H
  replace H : (some t117) = some r := H
  have A4 := Aside0.mk A40
  clear A40
  obtain rfl := Option.some.inj H
  go_enter Tryd.func33, Tryd.ntmps33
  go_wp2_with (first | ((with_reducible refine gate_dst (N := 3) rfl ?_); refine box_event ?hg (N := 3) ?hd (cs := #[.slice A0_0 l0_0.length c0_0, .slice A0_1 l0_1.length c0_1]) (t := 48) ?hr ?_; (case hd => rfl); (case hg => rfl); (case hr => first | (go_simp; done) | (go_simp; rfl)); intro gb115 hg w5 hbox hb; have n0_ := Aside0.mk (below_step (by repeat (first | (with_reducible first | exact HB.out | apply below_alloc | apply pw_below_drewN | apply below_drew1) | exact HB.out)) hb); have n1_ := Aside0.mk (hbox); have n2_ := Aside0.mk ((by rw [hg]; exact (below_size (by repeat (first | (with_reducible first | exact HB.out | apply below_alloc | apply pw_below_drewN | apply below_drew1) | exact HB.out))) : w.heap.size ≤ gb115)); have n3_ := Aside0.mk ((by rw [hg]; exact (below_size (by repeat (first | (with_reducible first | exact HB.out | apply below_alloc | apply pw_below_drewN | apply below_drew1) | exact HB.out))) : w.heap.size ≤ gb115)); clear HB; have HB := n0_; have BK115 := n1_; have GW115 := n2_; have GE115 := n3_; clear n0_ n1_ n2_ n3_; clear hb hbox hg) | ((with_reducible refine gate_dst (N := 5) rfl ?_); refine box_event ?hg (N := 5) ?hd (cs := #[.int .i64 a2_0, .int .i64 a2_1]) (t := 26) ?hr ?_; (case hd => rfl); (case hg => rfl); (case hr => first | (go_simp; done) | (go_simp; rfl)); intro gb116 hg w6 hbox hb; have n0_ := Aside0.mk (blk_below (g := gb115) (o := .cells #[.slice A0_0 l0_0.length c0_0, .slice A0_1 l0_1.length c0_1] 48 (0, 0)) (by (with_reducible repeat (first | refine blk_drewN ?_ _ | refine blk_drew ?_ | refine blk_alloc ?_ _)); exact BK115.out) hb); have n1_ := Aside0.mk (below_step (by repeat (first | (with_reducible first | exact HB.out | apply below_alloc | apply pw_below_drewN | apply below_drew1 | refine below_set ?_ GE115.out) | exact HB.out)) hb); have n2_ := Aside0.mk (hbox); have n3_ := Aside0.mk ((by rw [hg]; exact (below_size (by repeat (first | (with_reducible first | exact HB.out | apply below_alloc | apply pw_below_drewN | apply below_drew1 | refine below_set ?_ GE115.out) | exact HB.out))) : w.heap.size ≤ gb116)); have n4_ := Aside0.mk ((by rw [hg]; exact (below_size (by repeat (first | (with_reducible first | exact HB.out | apply below_alloc | apply pw_below_drewN | apply below_drew1 | refine below_set ?_ GE115.out) | exact HB.out))) : w.heap.size ≤ gb116)); have n5_ := Aside0.mk ((by rw [hg]; exact Nat.ne_of_lt (blk_lt (g := gb115) (o := .cells #[.slice A0_0 l0_0.length c0_0, .slice A0_1 l0_1.length c0_1] 48 (0, 0)) (by (with_reducible repeat (first | refine blk_drewN ?_ _ | refine blk_drew ?_ | refine blk_alloc ?_ _)); exact BK115.out)) : gb115 ≠ gb116)); have n6_ := Aside0.mk ((by rw [hg]; exact Nat.ne_of_gt (blk_lt (g := gb115) (o := .cells #[.slice A0_0 l0_0.length c0_0, .slice A0_1 l0_1.length c0_1] 48 (0, 0)) (by (with_reducible repeat (first | refine blk_drewN ?_ _ | refine blk_drew ?_ | refine blk_alloc ?_ _)); exact BK115.out)) : gb116 ≠ gb115)); clear BK115; clear HB; have BK115 := n0_; have HB := n1_; have BK116 := n2_; have GW116 := n3_; have GE116 := n4_; have NB115_116 := n5_; have NB116_115 := n6_; clear n0_ n1_ n2_ n3_ n4_ n5_ n6_; clear hb hbox hg; have hnb7 := NB115_116.out; have hnc7 := NB116_115.out; have hcz8_0 : w6.cell? ⟨gb115, 0, none⟩ = some (.slice A0_0 l0_0.length c0_0) := (blk_cell BK115.out 0).trans rfl; have hcz8_1 : w6.cell? ⟨gb115, 1, none⟩ = some (.slice A0_1 l0_1.length c0_1) := (blk_cell BK115.out 1).trans rfl; have hfz8_0 := blk_frozen BK115.out 0; have hfz8_1 := blk_frozen BK115.out 1; have hcz9_0 : w6.cell? ⟨gb116, 0, none⟩ = some (.int .i64 a2_0) := (blk_cell BK116.out 0).trans rfl; have hcz9_1 : w6.cell? ⟨gb116, 1, none⟩ = some (.int .i64 a2_1) := (blk_cell BK116.out 1).trans rfl; have hfz9_0 := blk_frozen BK116.out 0; have hfz9_1 := blk_frozen BK116.out 1) | ((with_reducible refine gate_callee (f := 71) rfl ?_); refine goesL_ (some 11) rfl rfl Tryd.func71 (by kernel_rfl) rfl #[.slice A0_0 l0_0.length c0_0, .int .i64 a1, .agg #[.int .i64 a2_0, .int .i64 a2_1]] rfl (by (try simp only [List.map_toArray, List.map_cons, List.map_nil]); first | done | rfl | (simp only [List.length_drop, List.length_take]; rfl)) ?_; (with_reducible refine (levels_within.calls _ _ l0_0 a1 a2_0 a2_1 t117 _ ?tabk ?side1 ?side2 A4.out).mono ?_); (case tabk => exact TK_.out.step (by repeat (first | (with_reducible first | exact HB.out | apply below_alloc | apply pw_below_drewN | apply below_drew1 | refine below_set ?_ GE115.out | refine below_set ?_ GE116.out) | exact HB.out))); (case side1 => repeat (first | exact (Kd.C_below HR0_0.out HB.out) | (with_reducible refine Kd.C_alloc ?_ _) | (with_reducible refine Kd.C_drewN ?_ _) | (with_reducible refine Kd.C_drew ?_))); (case side2 => exact HC0_0.out); rintro e w10 ⟨v118, rfl, ho0, hb⟩; refine ⟨_, rfl, ?_⟩; have n0_ := Aside0.mk (Kd.R_lower ho0 (below_size (by repeat (first | (with_reducible first | exact HB.out | apply below_alloc | apply pw_below_drewN | apply below_drew1 | refine below_set ?_ GE115.out | refine below_set ?_ GE116.out) | exact HB.out)))); have n1_ := Aside0.mk (blk_below (g := gb115) (o := .cells #[.slice A0_0 l0_0.length c0_0, .slice A0_1 l0_1.length c0_1] 48 (0, 0)) (by (with_reducible repeat (first | refine blk_drewN ?_ _ | refine blk_drew ?_ | refine blk_alloc ?_ _)); exact BK115.out) hb); have n2_ := Aside0.mk (blk_below (g := gb116) (o := .cells #[.int .i64 a2_0, .int .i64 a2_1] 26 (0, 0)) (by (with_reducible repeat (first | refine blk_drewN ?_ _ | refine blk_drew ?_ | refine blk_alloc ?_ _)); exact BK116.out) hb); have n3_ := Aside0.mk (below_step (by repeat (first | (with_reducible first | exact HB.out | apply below_alloc | apply pw_below_drewN | apply below_drew1 | refine below_set ?_ GE115.out | refine below_set ?_ GE116.out) | exact HB.out)) hb); clear BK115; clear BK116; clear HB; have HO119 := n0_; have BK115 := n1_; have BK116 := n2_; have HB := n3_; clear n0_ n1_ n2_ n3_; (try clear hb); (try clear hb2); (try clear hk); (try clear hi); (try clear ho0)))
  go_ret
  exact ⟨_, by first | rfl | (simp [errW_none, errW_some] <;> rfl) | (simp [*, errW_none, errW_some] <;> rfl), by (with_reducible repeat (first | apply Kd.R_alloc | apply Kd.R_drewN | apply Kd.R_drew)); exact HO119.out, by repeat (first | (with_reducible first | exact HB.out | apply below_alloc | apply pw_below_drewN | apply below_drew1 | refine below_set ?_ GE115.out | refine below_set ?_ GE116.out) | exact HB.out)⟩

def levels_Commas.f (l0_0 : List (S34)) (l0_1 : List (S34)) (a1 : Int) (a2_0 : Int) (a2_1 : Int) : Option (List Int) := (levels_within.f l0_1 a1 a2_0 a2_1).bind fun t122 => (some t122)
set_option maxHeartbeats 8000000 in
set_option maxRecDepth 100000 in
theorem levels_Commas.calls (A0_0 : Option Addr) (c0_0 : Nat) (l0_0 : List (S34)) (A0_1 : Option Addr) (c0_1 : Nat) (l0_1 : List (S34)) (a1 : Int) (a2_0 : Int) (a2_1 : Int) (r : List Int) (w : World) (hT : TabOk w) (hr0_0 : Kd.C k34 w A0_0 l0_0.length l0_0) (hc0_0 : l0_0.length ≤ c0_0) (hr0_1 : Kd.C k34 w A0_1 l0_1.length l0_1) (hc0_1 : l0_1.length ≤ c0_1) (h : levels_Commas.f l0_0 l0_1 a1 a2_0 a2_1 = some r) :
    Calls Tryd.prog 34 #[.agg #[.slice A0_0 l0_0.length c0_0, .slice A0_1 l0_1.length c0_1], .int .i64 a1, .agg #[.int .i64 a2_0, .int .i64 a2_1]] w fun e w' => ∃ v0_ : Value, e = .returned (v0_) ∧ Kd.R (Kd.int .i64) 3 w' w.heap.size (fun _ => True) v0_ r ∧ Below w.heap.size w w' := by
  have TK_ := Aside0.mk hT
  clear hT
  have hu48 := Tryd.underlying48
  have hu26 := Tryd.underlying26
  have HR0_0 := Aside0.mk hr0_0
  have HC0_0 := Aside0.mk hc0_0
  clear hr0_0 hc0_0
  have HR0_1 := Aside0.mk hr0_1
  have HC0_1 := Aside0.mk hc0_1
  clear hr0_1 hc0_1
  have HB := Aside0.mk (Below.refl w.heap.size w)
  have H : ((levels_within.f l0_1 a1 a2_0 a2_1).bind fun t122 => (some t122)) = some r := h
  clear h
  replace H := Option.bind_eq_some_iff.mp H
  obtain ⟨t122, A40, H⟩ := H
  replace H : (some t122) = some r := H
  have A4 := Aside0.mk A40
  clear A40
  obtain rfl := Option.some.inj H
  go_enter Tryd.func34, Tryd.ntmps34
  go_wp2_with (first | ((with_reducible refine gate_dst (N := 3) rfl ?_); refine box_event ?hg (N := 3) ?hd (cs := #[.slice A0_0 l0_0.length c0_0, .slice A0_1 l0_1.length c0_1]) (t := 48) ?hr ?_; (case hd => rfl); (case hg => rfl); (case hr => first | (go_simp; done) | (go_simp; rfl)); intro gb120 hg w5 hbox hb; have n0_ := Aside0.mk (below_step (by repeat (first | (with_reducible first | exact HB.out | apply below_alloc | apply pw_below_drewN | apply below_drew1) | exact HB.out)) hb); have n1_ := Aside0.mk (hbox); have n2_ := Aside0.mk ((by rw [hg]; exact (below_size (by repeat (first | (with_reducible first | exact HB.out | apply below_alloc | apply pw_below_drewN | apply below_drew1) | exact HB.out))) : w.heap.size ≤ gb120)); have n3_ := Aside0.mk ((by rw [hg]; exact (below_size (by repeat (first | (with_reducible first | exact HB.out | apply below_alloc | apply pw_below_drewN | apply below_drew1) | exact HB.out))) : w.heap.size ≤ gb120)); clear HB; have HB := n0_; have BK120 := n1_; have GW120 := n2_; have GE120 := n3_; clear n0_ n1_ n2_ n3_; clear hb hbox hg) | ((with_reducible refine gate_dst (N := 5) rfl ?_); refine box_event ?hg (N := 5) ?hd (cs := #[.int .i64 a2_0, .int .i64 a2_1]) (t := 26) ?hr ?_; (case hd => rfl); (case hg => rfl); (case hr => first | (go_simp; done) | (go_simp; rfl)); intro gb121 hg w6 hbox hb; have n0_ := Aside0.mk (blk_below (g := gb120) (o := .cells #[.slice A0_0 l0_0.length c0_0, .slice A0_1 l0_1.length c0_1] 48 (0, 0)) (by (with_reducible repeat (first | refine blk_drewN ?_ _ | refine blk_drew ?_ | refine blk_alloc ?_ _)); exact BK120.out) hb); have n1_ := Aside0.mk (below_step (by repeat (first | (with_reducible first | exact HB.out | apply below_alloc | apply pw_below_drewN | apply below_drew1 | refine below_set ?_ GE120.out) | exact HB.out)) hb); have n2_ := Aside0.mk (hbox); have n3_ := Aside0.mk ((by rw [hg]; exact (below_size (by repeat (first | (with_reducible first | exact HB.out | apply below_alloc | apply pw_below_drewN | apply below_drew1 | refine below_set ?_ GE120.out) | exact HB.out))) : w.heap.size ≤ gb121)); have n4_ := Aside0.mk ((by rw [hg]; exact (below_size (by repeat (first | (with_reducible first | exact HB.out | apply below_alloc | apply pw_below_drewN | apply below_drew1 | refine below_set ?_ GE120.out) | exact HB.out))) : w.heap.size ≤ gb121)); have n5_ := Aside0.mk ((by rw [hg]; exact Nat.ne_of_lt (blk_lt (g := gb120) (o := .cells #[.slice A0_0 l0_0.length c0_0, .slice A0_1 l0_1.length c0_1] 48 (0, 0)) (by (with_reducible repeat (first | refine blk_drewN ?_ _ | refine blk_drew ?_ | refine blk_alloc ?_ _)); exact BK120.out)) : gb120 ≠ gb121)); have n6_ := Aside0.mk ((by rw [hg]; exact Nat.ne_of_gt (blk_lt (g := gb120) (o := .cells #[.slice A0_0 l0_0.length c0_0, .slice A0_1 l0_1.length c0_1] 48 (0, 0)) (by (with_reducible repeat (first | refine blk_drewN ?_ _ | refine blk_drew ?_ | refine blk_alloc ?_ _)); exact BK120.out)) : gb121 ≠ gb120)); clear BK120; clear HB; have BK120 := n0_; have HB := n1_; have BK121 := n2_; have GW121 := n3_; have GE121 := n4_; have NB120_121 := n5_; have NB121_120 := n6_; clear n0_ n1_ n2_ n3_ n4_ n5_ n6_; clear hb hbox hg; have hnb7 := NB120_121.out; have hnc7 := NB121_120.out; have hcz8_0 : w6.cell? ⟨gb120, 0, none⟩ = some (.slice A0_0 l0_0.length c0_0) := (blk_cell BK120.out 0).trans rfl; have hcz8_1 : w6.cell? ⟨gb120, 1, none⟩ = some (.slice A0_1 l0_1.length c0_1) := (blk_cell BK120.out 1).trans rfl; have hfz8_0 := blk_frozen BK120.out 0; have hfz8_1 := blk_frozen BK120.out 1; have hcz9_0 : w6.cell? ⟨gb121, 0, none⟩ = some (.int .i64 a2_0) := (blk_cell BK121.out 0).trans rfl; have hcz9_1 : w6.cell? ⟨gb121, 1, none⟩ = some (.int .i64 a2_1) := (blk_cell BK121.out 1).trans rfl; have hfz9_0 := blk_frozen BK121.out 0; have hfz9_1 := blk_frozen BK121.out 1) | ((with_reducible refine gate_callee (f := 71) rfl ?_); refine goesL_ (some 11) rfl rfl Tryd.func71 (by kernel_rfl) rfl #[.slice A0_1 l0_1.length c0_1, .int .i64 a1, .agg #[.int .i64 a2_0, .int .i64 a2_1]] rfl (by (try simp only [List.map_toArray, List.map_cons, List.map_nil]); first | done | rfl | (simp only [List.length_drop, List.length_take]; rfl)) ?_; (with_reducible refine (levels_within.calls _ _ l0_1 a1 a2_0 a2_1 t122 _ ?tabk ?side1 ?side2 A4.out).mono ?_); (case tabk => exact TK_.out.step (by repeat (first | (with_reducible first | exact HB.out | apply below_alloc | apply pw_below_drewN | apply below_drew1 | refine below_set ?_ GE120.out | refine below_set ?_ GE121.out) | exact HB.out))); (case side1 => repeat (first | exact (Kd.C_below HR0_1.out HB.out) | (with_reducible refine Kd.C_alloc ?_ _) | (with_reducible refine Kd.C_drewN ?_ _) | (with_reducible refine Kd.C_drew ?_))); (case side2 => exact HC0_1.out); rintro e w10 ⟨v123, rfl, ho0, hb⟩; refine ⟨_, rfl, ?_⟩; have n0_ := Aside0.mk (Kd.R_lower ho0 (below_size (by repeat (first | (with_reducible first | exact HB.out | apply below_alloc | apply pw_below_drewN | apply below_drew1 | refine below_set ?_ GE120.out | refine below_set ?_ GE121.out) | exact HB.out)))); have n1_ := Aside0.mk (blk_below (g := gb120) (o := .cells #[.slice A0_0 l0_0.length c0_0, .slice A0_1 l0_1.length c0_1] 48 (0, 0)) (by (with_reducible repeat (first | refine blk_drewN ?_ _ | refine blk_drew ?_ | refine blk_alloc ?_ _)); exact BK120.out) hb); have n2_ := Aside0.mk (blk_below (g := gb121) (o := .cells #[.int .i64 a2_0, .int .i64 a2_1] 26 (0, 0)) (by (with_reducible repeat (first | refine blk_drewN ?_ _ | refine blk_drew ?_ | refine blk_alloc ?_ _)); exact BK121.out) hb); have n3_ := Aside0.mk (below_step (by repeat (first | (with_reducible first | exact HB.out | apply below_alloc | apply pw_below_drewN | apply below_drew1 | refine below_set ?_ GE120.out | refine below_set ?_ GE121.out) | exact HB.out)) hb); clear BK120; clear BK121; clear HB; have HO124 := n0_; have BK120 := n1_; have BK121 := n2_; have HB := n3_; clear n0_ n1_ n2_ n3_; (try clear hb); (try clear hb2); (try clear hk); (try clear hi); (try clear ho0)))
  go_ret
  exact ⟨_, by first | rfl | (simp [errW_none, errW_some] <;> rfl) | (simp [*, errW_none, errW_some] <;> rfl), by (with_reducible repeat (first | apply Kd.R_alloc | apply Kd.R_drewN | apply Kd.R_drew)); exact HO124.out, by repeat (first | (with_reducible first | exact HB.out | apply below_alloc | apply pw_below_drewN | apply below_drew1 | refine below_set ?_ GE120.out | refine below_set ?_ GE121.out) | exact HB.out)⟩

end Go.Proofs.YtgddljealeklkaaDoor.PL
end
