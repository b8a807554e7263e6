-- Written by a program (myprint.py, over the kit's print) for this claim. Not trusted: Lean checks it.
import Derived.Test.YtifpahkgielocaaPTx0
import Derived.Test.YtifpahkgielocaaPTx2
namespace Go.Proofs.Ytifpahkgielocaa.PT
open Go.RowKit Go.Proofs.YtifpahkgielocaaW.PrintWords Go.Proofs.YtifpahkgielocaaW.PrintLast Go.Proofs.YtifpahkgielocaaW.PrintMore
attribute [local go_sem] max2_int min2_int max_two min_two max_three min_three max_four min_four   -- for this text's walks alone
set_option linter.unusedVariables false
set_option linter.unusedSimpArgs false

/-! ### block_Blocks_1: function 65 -/
section
open Go.Proofs.YtifpahkgielocaaQ Go.Proofs.YtifpahkgielocaaM Go.Shelf
attribute [local go_sem] Oper.semAt_some
/-- What Blocks tells of the k-th block. -/
def blkEnc (s : ByteArray) (pad : Int) (k : Nat) : Array Value := #[.int .i64 (64 * (k : Int)), .agg (blkA (cutF s (64 * (k : Int)) pad))]
set_option maxHeartbeats 4000000 in
set_option maxRecDepth 100000 in
theorem block_Blocks_1.walk (F : Fence) (HF : Aside0 (F = Fence.wide)) (n : Nat) (hn : 3 ≤ n) (l g1 g2 : Nat) (s : ByteArray) (pad : Int) (hs : s.size ≤ 281474976702464) (J Jx : List (Fin (nwords s.size)) → World → Prop) (W0 : World)
    (hJ : ∀ pre A B, J pre A → Below A.heap.size A B → J pre B)
    (hY : ∀ pre x W, J pre W → pre.length < nwords s.size → YieldAt F (n - 1) Try.prog l (blkEnc s pad x.val) W fun e W' =>
      (e = .returned (.bool true) ∧ J (pre ++ [x]) W' ∧ Keep2 g1 g2 W W') ∨ (e = .returned (.bool false) ∧ Jx (pre ++ [x]) W'))
    (B1 : Blk W0 g1 #[.string s] 9) (B2 : Blk W0 g2 #[.int .u8 pad] 5) (h0 : J [] W0) :
    CallsIn F n Try.prog 65 #[.func (.yield l) #[] #[], .pointer (some ⟨g1, 0, none⟩), .pointer (some ⟨g2, 0, none⟩)] W0 fun e W' => (∃ v, e = .returned v) ∧
      ((∃ ys, ys = List.finRange (nwords s.size) ∧ J ys W') ∨ (∃ pre, pre <+: List.finRange (nwords s.size) ∧ Jx pre W')) := by
  have HJ := Aside0.mk hJ
  have HY := Aside0.mk hY
  have HJ0 := Aside0.mk h0
  clear hJ hY h0
  have f0 := wide_fn HF 66
  have n1 : 1 ≤ n := by omega
  have n2 : 1 ≤ n - 1 := by omega
  have hro := wide_round HF
  refine callsIn_of_wp Try.func65 rfl (wide_fn HF _) ?_ (wide_round HF)
  simp only [Try.ntmps65, List.size_toArray, List.length_cons, List.length_nil, Nat.reduceAdd, Nat.reduceSub, Array.replicate_succ, Array.replicate_zero, List.push_toArray, List.append_toArray, List.nil_append, List.cons_append]
  gi_wp2
  gi_loopw [4] (fun v wr => ∃ k : Nat, v = .int .i64 (64 * (k : Int)) ∧ Aside0 (k ≤ nwords s.size) ∧ Aside0 (J ((List.finRange (nwords s.size)).take k) wr) ∧ Blk wr g1 #[.string s] 9 ∧ Blk wr g2 #[.int .u8 pad] 5) (fun v _ => 64 * nwords s.size - (intOf v).toNat)
  case atStart => exact ⟨0, rfl, ⟨Nat.zero_le _⟩, HJ0, B1, B2⟩
  case round =>
    clear B1 B2 HJ0
    obtain ⟨k, rfl, HK, HJk, B1, B2⟩ := hrel
    have c1 := B1.cell (i := 0) rfl
    have c2 := B2.cell (i := 0) rfl
    have HB := BelowH.refl wr
    by_cases hlt : 64 * (k : Int) < s.size
    · have K1 : Aside0 (64 * (k : Int) < s.size) := ⟨hlt⟩
      have KN : Aside0 (k < nwords s.size) := ⟨by unfold nwords; omega⟩
      have KT := Aside0.mk (finRange_take (nwords s.size) k KN.out)
      gi_wp2_with (first
        | (gi_at_call 66; refine (callsIn_of HF (block_Cut.calls s (64 * (k : Int)) pad _ hs)).mono ?_; rintro e w3 ⟨rfl, hb3⟩; have D1 := B1.below hb3; have D2 := B2.below hb3; have HB3 := HB.step hb3; clear hb3)
        | ((with_reducible refine gate_dstIn (N := 5) rfl ?_); refine ev_allocIn HB3 rfl rfl (blkA fun _ => 0) 80 ?hr ?_; (case hr => (rw [← blkA_zero]; go_simp; rfl)); intro g5 w4 G_g5 GE_g5 B_g5 HB4 K_g5 KO5; have E1 := D1.below K_g5.out; have E2 := D2.below K_g5.out)
        | ((with_reducible refine gate_In (Op.store 80 (.tmp 5) (.tmp 18)) rfl ?_); refine ev_storeIn HB4 B_g5 GE_g5 rfl 80 _ _ rfl rfl rfl (size64' _) (by rw [blkA_size, blkA_size]) (blkA_one _) ?_; intro w5 B5 HB5 K_w5 KO_w5; have N1 := Aside0.mk (show g1 ≠ g5 by have := D1.lt; have := G_g5.out; omega); have N2 := Aside0.mk (show g2 ≠ g5 by have := D2.lt; have := G_g5.out; omega); have F1 := E1.other K_w5 N1.out; have F2 := E2.other K_w5 N2.out)
        | ((with_reducible refine gate_dstIn (N := 22) rfl ?_); refine ev_loadIn B5 rfl 80 _ rfl rfl Try.underlying80 (size64' _) ?_; have HJ5 := Aside0.mk (HJ.out _ _ _ HJk.out HB5.out); obtain ⟨fn, tmps, assign, body, hy, hR⟩ := HY.out ((List.finRange (nwords s.size)).take k) ⟨k, KN.out⟩ _ HJ5.out (by rw [List.length_take, List.length_finRange]; have := KN.out; omega); have HR := Aside0.mk hR; clear hR; dsimp only [blkEnc] at hy))
      refine HR.out.mono ?_
      rintro e W6 (⟨rfl, hJ6, hk6⟩ | ⟨rfl, hJx6⟩)
      · have G1 : Blk W6 g1 #[.string s] 9 := ⟨hk6.1.trans F1.out⟩
        have G2 : Blk W6 g2 #[.int .u8 pad] 5 := ⟨hk6.2.1.trans F2.out⟩
        have HJ6 := Aside0.mk (show J ((List.finRange (nwords s.size)).take (k + 1)) W6 by rw [KT.out]; exact hJ6)
        clear hJ6 hk6
        gi_wp2
        go_roundw
        case rel => exact ⟨k + 1, by simp; omega, ⟨by unfold nwords; have := K1.out; omega⟩, HJ6, G1, G2⟩
        case measure => simp [intOf, nwords]; have := K1.out; omega
      · have HJ6 := Aside0.mk hJx6
        clear hJx6
        gi_wp2
        refine bodyPost_ret (results_none rfl _ _ _) rfl ?_
        refine ⟨⟨_, rfl⟩, .inr ⟨_, ?_, HJ6.out⟩⟩
        rw [← KT.out]
        exact List.take_prefix _ _
    · have EK : k = nwords s.size := by
        have h1 := HK.out
        unfold nwords at *
        omega
      have HE := Aside0.mk EK
      clear EK
      gi_wp2
      go_end0
      have h := HJk.out
      rw [HE.out, List.take_of_length_le (by rw [List.length_finRange]; exact Nat.le_refl _)] at h
      exact ⟨⟨_, rfl⟩, .inl h⟩
/-- What Blocks hands back tells the blocks, in order. -/
theorem block_Blocks_1.stops (F : Fence) (HF : Aside0 (F = Fence.wide)) (n : Nat) (hn : 3 ≤ n) (g1 g2 : Nat) (s : ByteArray) (pad : Int) (hs : s.size ≤ 281474976702464) (w : World)
    (B1 : Blk w g1 #[.string s] 9) (B2 : Blk w g2 #[.int .u8 pad] 5) :
    SeqStopsK F n Try.prog 65 #[.pointer (some ⟨g1, 0, none⟩), .pointer (some ⟨g2, 0, none⟩)] (fun x : Fin (nwords s.size) => blkEnc s pad x.val) (Keep2 g1 g2) (fun ys => ys = List.finRange (nwords s.size)) (fun pre => pre <+: List.finRange (nwords s.size)) (nwords s.size) w := by
  intro l J Jx W hW hJ _ hY h0
  exact block_Blocks_1.walk F HF n hn l g1 g2 s pad hs J Jx W
    (fun pre A B hA hb => hJ pre A B none hA ⟨hb.os, hb.tape, hb.output, hb.size, fun k hk _ => hb.block k hk⟩ (fun r e => by cases e))
    hY (B1.below hW) (B2.below hW) h0
end


/-! ### escape_Escaped: function 47 -/
section
open Go.Proofs.YtifpahkgielocaaQ Go.Proofs.YtifpahkgielocaaM Go.Shelf
theorem words_Escaped.tells (q : Nat → Bool) (c : Bool) : words_Escaped.f (iv (word q)) c = some (iv (word (escW q c)), escW q c 64) := by
  have e1 : (12297829382473034410 : Int) = iv oddsW := by decide
  have e2 : (1 : Int) = iv 1#64 := by decide
  have e3 : (0 : Int) = iv 0#64 := by decide
  have e4 : ∀ v : BitVec 64, iv v / (9223372036854775808 : Int) = iv (v >>> 63) := fun v => shr_iv v 63
  have e5 : ∀ v : BitVec 64, IntKind.u64.wrap (iv v * 2) = iv (v <<< 1) := fun v => wrap_shl v 1
  have e6 : ∀ v w : BitVec 64, (iv v != iv w) = (v != w) := fun v w => by
    rw [Bool.eq_iff_iff, bne_iff_ne, bne_iff_ne, ne_eq, ne_eq, iv_inj]
  have h1 := escaped_word q c
  have h2 := escaped_carry q c
  unfold words_Escaped.f
  cases c
  · simp only [Bool.false_eq_true, if_false] at h1 h2 ⊢
    rw [e1, e3, bits_andNot, e5, bits_or, wrap_sub, bits_xor, bits_or, bits_xor, bits_and, e4, e6, h1, h2]
  · simp only [if_true] at h1 h2 ⊢
    rw [e1, e2, e3, bits_andNot, e5, bits_or, wrap_sub, bits_xor, bits_or, bits_xor, bits_and, e4, e6, h1, h2]

attribute [local go_sem] Oper.semAt_some
/-- Between two blocks. -/
structure EscI (s : ByteArray) (w : World) (L : List (Nat × Array Value × Nat)) (m g3 g4 : Nat) {n : Nat} (pre : List (Fin n)) (W : World) : Prop where mk ::
  bs : Blks L W
  b4 : Blk W g4 #[.bool (foldE s pre).1] 4
  row : ∃ v, Blk W g3 #[.int .i64 s.size, v] 55 ∧ W.ownsRow w.heap.size 81 1 v pre.length ((foldE s pre).2.map (Value.int .u64))
  hb : BelowH w W
  sz : m ≤ W.heap.size
theorem EscI.kept {s : ByteArray} {w W W' : World} {L : List (Nat × Array Value × Nat)} {m g3 g4 n : Nat} {pre : List (Fin n)} (h : EscI s w L m g3 g4 pre W) {B : Nat} (hB : w.heap.size ≤ B) {row : Option Nat} (hg : W.grownBy W' row) (hr : ∀ r, row = some r → B ≤ r ∧ ∃ o : Obj, W.heap[r]? = some o ∧ o.isCells = false) : EscI s w L m g3 g4 pre W' := by
  have hr' : ∀ r, row = some r → ∃ o : Obj, W.heap[r]? = some o ∧ o.isCells = false := fun r e => (hr r e).2
  obtain ⟨v, b3, hrow⟩ := h.row
  exact ⟨h.bs.kept hg hr', h.b4.kept hg hr', ⟨v, b3.kept hg hr', row_kept hrow hg hr'⟩, h.hb.kept hg hB (fun r e => (hr r e).1), Nat.le_trans h.sz hg.size⟩
def escape_Escaped.f (a0 : ByteArray) : Option (Int × List Int) := if a0.size ≤ 281474976702464 then some ((a0.size : Int), wordsOf a0.size (esc a0 false)) else none
set_option maxHeartbeats 4000000 in
set_option maxRecDepth 100000 in
theorem escape_Escaped.walk (s : ByteArray) (w : World) (hs : s.size ≤ 281474976702464) :
    Calls Try.prog 47 #[.string s] w fun e w' => ∃ v1_ : Value, e = .returned (.agg #[.int .i64 s.size, v1_]) ∧ w'.ownsRow w.heap.size 81 1 v1_ (nwords s.size) ((wordsOf s.size (esc s false)).map (Value.int .u64)) ∧ Below w.heap.size w w' := by
  obtain ⟨F, hF⟩ : ∃ F, F = Fence.wide := ⟨_, rfl⟩
  have HF := Aside0.mk hF
  refine (callsIn_wide (n := 9)).1 ?_
  rw [← hF]
  clear hF
  have hro := wide_round HF
  have HB := BelowH.refl w
  have f1 := wide_fn HF 48
  have f2 := wide_fn HF 65
  have f3 := wide_fn HF 49
  have f4 := wide_fn HF 64
  refine callsIn_of_wp_marks Try.func47 rfl (wide_fn HF _) ?_ hro
  simp only [Try.ntmps47, List.size_toArray, List.length_cons, List.length_nil, Nat.reduceAdd, Nat.reduceSub, Array.replicate_succ, Array.replicate_zero, List.push_toArray, List.append_toArray, List.nil_append, List.cons_append]
  gi_wp2_with (first
    | ((with_reducible refine gate_dstIn (N := 1) rfl ?_); refine ev_allocIn HB rfl rfl (#[.string s]) 9 ?hr ?_; (case hr => first | (go_simp; done) | (go_simp; rfl)); intro g1 w1 G_g1 GE_g1 B_g1 HBn K_g1 KO_w1; clear HB; have HB := HBn; clear HBn)
    | ((with_reducible refine gate_dstIn (N := 2) rfl ?_); refine ev_allocIn HB rfl rfl (#[.int .i64 0, .slice none 0 0]) 55 ?hr ?_; (case hr => first | (go_simp; done) | (go_simp; rfl)); intro g2 w2 G_g2 GE_g2 B_g2 HBn K_g2 KO_w2; clear HB; have HB := HBn; clear HBn))
  refine wpIn_scope HF ?_
  have c1 := (B_g1.below K_g2.out).cell (i := 0) rfl
  gi_wp2_with (first
    | ((with_reducible refine gate_dstIn (N := 3) rfl ?_); refine ev_allocIn HB rfl rfl (#[.int .i64 0, .slice none 0 0]) 55 ?hr ?_; (case hr => first | (go_simp; done) | (go_simp; rfl)); intro g3 w3 G_g3 GE_g3 B_g3 HBn K_g3 KO_w3; clear HB; have HB := HBn; clear HBn)
    | ((with_reducible refine gate_In (Op.store 55 (.tmp 3) (.tmp 12)) rfl ?_); refine ev_storeIn HB B_g3 GE_g3 rfl 55 _ _ rfl rfl rfl (by kernel_rfl) rfl (by simp [Value.oneCell']) ?_; intro w4 B3 HBn K_w4 KO_w4; clear HB; have HB := HBn; clear HBn)
    | ((with_reducible refine gate_dstIn (N := 4) rfl ?_); refine ev_allocIn HB rfl rfl (#[.bool false]) 4 ?hr ?_; (case hr => first | (go_simp; done) | (go_simp; rfl)); intro g4 w5 G_g4 GE_g4 B_g4 HBn K_g4 KO_w5; clear HB; have HB := HBn; clear HBn)
    | ((with_reducible refine gate_In (Op.store 4 (.tmp 4) (.const (.bool false))) rfl ?_); refine ev_store1In (i := 0) HB B_g4 GE_g4 rfl 4 _ _ rfl rfl (.bool false) rfl (by simp) (by kernel_rfl) rfl ?_; intro w6 B4 HBn K_w6 KO_w6; clear HB; have HB := HBn; clear HBn))
  refine wpIn_label ?_
  have N13 := Aside0.mk (show g1 < g3 by have := B_g1.lt; have := G_g2.out; have := G_g3.out; have := B_g2.lt; omega)
  have N23 := Aside0.mk (show g2 < g3 by have := G_g3.out; have := B_g2.lt; omega)
  have N34 := Aside0.mk (show g3 < g4 by have := G_g4.out; have := B3.lt; omega)
  have B1 := ((((B_g1.below K_g2.out).below K_g3.out).other K_w4 (Nat.ne_of_lt N13.out)).below K_g4.out).other K_w6 (Nat.ne_of_lt (Nat.lt_trans N13.out N34.out))
  have B2 := (((B_g2.below K_g3.out).other K_w4 (Nat.ne_of_lt N23.out)).below K_g4.out).other K_w6 (Nat.ne_of_lt (Nat.lt_trans N23.out N34.out))
  have D3 := (B3.below K_g4.out).other K_w6 (Nat.ne_of_lt N34.out)
  clear c1 B_g1 B_g2 B_g3 B_g4 B3 K_g1 K_g2 K_g3 K_g4 K_w4 K_w6 KO_w1 KO_w2 KO_w3 KO_w4 KO_w5 KO_w6
  have c1 := B1.cell (i := 0) rfl
  gi_wp2_with (first
    | (gi_at_call 48; refine (callsIn_of HF (block_Blocks.calls s 32 _)).mono ?_; rintro e w7 ⟨h1, h2, rfl, GE1, GE2, A1, A2, HB7⟩))
  obtain ⟨L, hL⟩ : ∃ L : List (Nat × Array Value × Nat), L = [(g1, #[.string s], 9), (g2, #[.int .i64 0, .slice none 0 0], 55), (h1, #[.string s], 9), (h2, #[.int .u8 32], 5)] := ⟨_, rfl⟩
  have CL : Blks L w7 := ⟨by
    rw [hL]
    intro b m
    simp at m
    rcases m with rfl | rfl | rfl | rfl
    · exact B1.below HB7.out
    · exact B2.below HB7.out
    · exact A1
    · exact A2⟩
  have C3 := D3.below HB7.out
  have C4 := B4.below HB7.out
  have L3 := C3.lt
  have L4 := C4.lt
  have LL : ∀ b ∈ L, b.1 < w7.heap.size := fun b m => (CL.out b m).lt
  have LT : ∀ b ∈ L, b.2.2 ≠ 81 := by
    rw [hL]
    intro b m
    simp at m
    rcases m with rfl | rfl | rfl | rfl <;> (dsimp only; decide)
  have LN3 : ∀ b ∈ L, b.1 ≠ g3 := by
    have := D3.lt
    have := N13.out
    have := N23.out
    rw [hL]
    intro b m
    simp at m
    rcases m with rfl | rfl | rfl | rfl <;> (dsimp only; omega)
  have LN4 : ∀ b ∈ L, b.1 ≠ g4 := by
    have := B4.lt
    have := N13.out
    have := N23.out
    have := N34.out
    rw [hL]
    intro b m
    simp at m
    rcases m with rfl | rfl | rfl | rfl <;> (dsimp only; omega)
  have M1 : (g1, #[.string s], 9) ∈ L := by rw [hL]; simp
  have M2 : (g2, #[.int .i64 0, .slice none 0 0], 55) ∈ L := by rw [hL]; simp
  have M3 : (h1, #[.string s], 9) ∈ L := by rw [hL]; simp
  have M4 : (h2, #[.int .u8 32], 5) ∈ L := by rw [hL]; simp
  have HBW := HB.step HB7.out
  have LH1 := A1.lt
  have LH2 := A2.lt
  have N34' := N34.out
  have PL := Aside0.mk (And.intro LL (And.intro LT (And.intro LN3 LN4)))
  have PM := Aside0.mk (And.intro M1 (And.intro M2 (And.intro M3 M4)))
  clear B1 B2 D3 B4 HB7 HB c1 f1 hL LL LT LN3 LN4 M1 M2 M3 M4 N13 N23 N34
  refine wpIn_rangeFunc_ownH hro (by decide) (gf := 65) (lb := #[.pointer (some ⟨h1, 0, none⟩), .pointer (some ⟨h2, 0, none⟩)]) rfl f2 (enters_of Try.func65 (by kernel_rfl) rfl)
    (block_Blocks_1.stops F HF (9 - 1) (by decide) h1 h2 s 32 hs w7 A1 A2) Keep2.trans (fun W l o o' hl ho hc hw => Keep2.putObj LH1 LH2 W l o o' hl ho hc hw) (Below.refl _ _) (fun _ => rfl)
    (EscI s w L w7.heap.size g3 g4) (fun _ _ _ => False)
    (fun pre A B row hs hg hr => hs.kept HBW.le hg hr)
    (fun _ _ _ _ _ hs _ _ => hs)
    ⟨CL, C4, ⟨_, C3, World.ownsRow_nil _ _ _ _⟩, HBW, Nat.le_refl _⟩
    (fun x a' W => ∃ gb, w7.heap.size ≤ gb ∧ Blk W gb (blkA (cutF s (64 * ((x.val : Nat) : Int)) 32)) 80 ∧ a' = { tmps := #[.string s, .pointer (some ⟨g1, 0, none⟩), .pointer (some ⟨g2, 0, none⟩), .pointer (some ⟨g3, 0, none⟩), .pointer (some ⟨g4, 0, none⟩), .int .i64 (64 * ((x.val : Nat) : Int)), .pointer (some ⟨gb, 0, none⟩), undef, undef, undef, .string s, .int .i64 s.size, .agg #[.int .i64 s.size, .slice none 0 0], .string s, .func (.func 65) #[] #[.pointer (some ⟨h1, 0, none⟩), .pointer (some ⟨h2, 0, none⟩)], .int .i64 (64 * ((x.val : Nat) : Int)), .agg (blkA (cutF s (64 * ((x.val : Nat) : Int)) 32)), undef, undef, undef, undef, undef, undef, undef, undef, undef, undef, undef, undef, undef, undef, undef, undef, undef, undef, undef, undef, undef, undef, undef, undef, undef, undef, undef, undef, undef, undef, undef, undef, undef, undef, undef, undef, undef], defers := [] })
    (fun x a' pre A B row hs hg hr => by
      obtain ⟨gb, h1, h2, h3⟩ := hs
      exact ⟨gb, h1, h2.kept hg (fun r e => (hr r e).2), h3⟩)
    ?assign ?body ?done ?stop
  case assign =>
    intro l pre x W K hI hK
    have HB := hI.hb
    have SZ := Aside0.mk hI.sz
    dsimp only [blkEnc]
    gi_wp2_with (first
      | ((with_reducible refine gate_dstIn (N := 6) rfl ?_); refine ev_allocIn HB rfl rfl (blkA fun _ => 0) 80 ?hr ?_; (case hr => (rw [← blkA_zero]; go_simp; rfl)); intro gb w8 G_gb GE_gb B_gb HBn K_gb KO_w8; clear HB; have HB := HBn; clear HBn)
      | ((with_reducible refine gate_In (Op.store 80 (.tmp 6) (.tmp 16)) rfl ?_); refine ev_storeIn HB B_gb GE_gb rfl 80 _ _ rfl rfl rfl (size64' _) (by rw [blkA_size, blkA_size]) (blkA_one _) ?_; intro w9 B9 HBn K_w9 KO_w9; clear HB; have HB := HBn; clear HBn))
    have hKO := KO_w8.out.trans KO_w9.out
    refine hK _ _ (hKO.from _) ?_ ?_ ⟨gb, Nat.le_trans SZ.out G_gb.out, B9, rfl⟩
    · exact (Keep2.below K_gb.out (by have := SZ.out; omega) (by have := SZ.out; omega)).trans (Keep2.other K_w9 (by have := SZ.out; have := G_gb.out; omega) (by have := SZ.out; have := G_gb.out; omega))
    · have N : ∀ g, g < w7.heap.size → g ≠ gb := fun g h => by have := SZ.out; have := G_gb.out; omega
      obtain ⟨v, b3, hrow⟩ := hI.row
      exact ⟨(hI.bs.below K_gb.out).other K_w9 (fun b m => N _ (PL.out.1 b m)), (hI.b4.below K_gb.out).other K_w9 (N _ L4), ⟨v, (b3.below K_gb.out).other K_w9 (N _ L3), row_other (row_below hrow K_gb.out) B_gb (by decide) K_w9⟩, HB, Nat.le_trans SZ.out (Nat.le_trans K_gb.out.size K_w9.out.1)⟩
  case body =>
    rintro l pre x a' W hl ⟨r, hr⟩ hI ⟨gb, hgb, BX, rfl⟩ hlt
    have HB := hI.hb
    obtain ⟨v, b3, hrow⟩ := hI.row
    have RB := Aside0.mk hr
    clear hr
    have hx : 64 * x.val < s.size := by have := x.isLt; unfold nwords at this; omega
    obtain ⟨q, hq⟩ : ∃ q : Nat → Bool, q = fun j => decide (cutF s (64 * ((x.val : Nat) : Int)) 32 j = 92) := ⟨_, rfl⟩
    obtain ⟨c, hc⟩ : ∃ c, c = (foldE s pre).1 := ⟨_, rfl⟩
    have EQ : ∀ w, Calls Try.prog 49 #[.agg (blkA (cutF s (64 * ((x.val : Nat) : Int)) 32)), .int .u8 92] w fun e w' => e = .returned (.int .u64 (iv (word q))) ∧ Below w.heap.size w w' := fun w => by
      rw [hq]
      exact block_Equal.calls _ (fun i => cutF_range s _ 32 (by decide) i) 92 (by decide) (by decide) w
    have b4 := hI.b4
    rw [← hc] at b4
    have HQ := Aside0.mk hq
    have HC := Aside0.mk hc
    have HX := Aside0.mk hx
    have HL : Aside0 ((pre.length + 1) * 8 ≤ 140737488355328) := ⟨by have := nwords_room hs; omega⟩
    clear hq hc hx hlt
    by_cases h0 : iv (word q) = 0 ∧ c = false
    · obtain ⟨h0, rfl⟩ := h0
      have c4 := b4.cell (i := 0) rfl
      have hz : (iv (word q) == 0) = true := by rw [h0]; rfl
      have H0 := Aside0.mk h0
      clear h0
      have c31 := b3.cell (i := 1) rfl
      gi_wp2_with (first
        | ((with_reducible refine gate_dstIn (N := 17) rfl ?_); refine ev_loadIn BX rfl 80 _ rfl rfl Try.underlying80 (size64' _) ?_)
        | (gi_at_call 49; refine (CallsIn.inRound l (callsIn_of HF (EQ _))).mono ?_; rintro e w8 ⟨rfl, hb8⟩; have HK8 := Aside0.mk hb8; have d4 := b4.below hb8; have d3 := b3.below hb8; have e4 := d4.cell (i := 0) rfl; have e31 := d3.cell (i := 1) rfl; have hrow8 := row_below hrow hb8; have HB8 := HB.step hb8; clear hb8)
        | ((with_reducible refine gate_dstIn (N := 27) rfl ?_); refine ev_lit1In HB8 rfl rfl (.int .u64 0) 81 ?hr ?_; (case hr => first | (go_simp; done) | (go_simp; rfl)); intro gl w9 G_gl B_gl HB9 K_gl KO9; have hrow9 := row_below hrow8 K_gl.out; have d3' := d3.below K_gl.out)
        | ((with_reducible refine gate_dstIn (N := 28) rfl ?_); refine ev_append1In HB9 rfl _ _ 53 81 (.int .u64 0) 8 rfl Try.underlying53 (by kernel_rfl) rfl (by decide) v pre.length _ rfl hrow9 gl (.int .u64 0) rfl B_gl rfl HL.out ?_; intro v1 w10 hrow10 HB10 K10 KO10 FV1; obtain ⟨g', cap', rfl⟩ := FV1.out; have f3' := d3'.appended (by decide) hrow9 K10)
        | ((with_reducible refine gate_In (Op.store 53 (.tmp 29) (.tmp 28)) rfl ?_); refine ev_store1In (i := 1) HB10 f3' GE_g3 rfl 53 _ _ rfl rfl _ rfl (by simp) (by kernel_rfl) rfl ?_; intro w11 B11 HB11 K11 KO11))
      have E8 := hI.bs.below HK8.out
      have E9 := E8.below K_gl.out
      have E10 := E9.appended PL.out.2.1 hrow9 K10
      have E11 := E10.other K11 PL.out.2.2.1
      have d49 := d4.below K_gl.out
      have d410 := d49.appended (by decide) hrow9 K10
      have d411 := d410.other K11 (Nat.ne_of_gt N34')
      have hsz : W.heap.size ≤ w11.heap.size := Nat.le_trans HK8.out.size (Nat.le_trans K_gl.out.size (Nat.le_trans K10.out.1 K11.out.1))
      refine ⟨(((keepsOthers_below HK8.out).trans KO9.out).trans (KO10.out.trans KO11.out)).from _, Keep2.of_blk (hI.bs.out _ PM.out.2.2.1) (hI.bs.out _ PM.out.2.2.2) (E11.out _ PM.out.2.2.1) (E11.out _ PM.out.2.2.2) hsz, E11, ?_, ⟨_, B11, ?_⟩, HB11, Nat.le_trans hI.sz hsz⟩
      · rw [foldE_snoc, (zero_step s _ x.val HQ.out H0.out HC.out.symm).1]
        exact d411
      · rw [foldE_snoc, (zero_step s _ x.val HQ.out H0.out HC.out.symm).2, List.length_append, List.map_append]
        exact row_other hrow10 f3' (by decide) K11
    · have hz : ((iv (word q) == 0) && !c) = false := by
        cases c
        · simp at h0
          simp [h0]
        · simp
      have c4 := b4.cell (i := 0) rfl
      have c31 := b3.cell (i := 1) rfl
      have c1 := (hI.bs.out _ PM.out.1).cell (i := 0) rfl
      clear h0
      have WE := Aside0.mk (words_Escaped.tells q c)
      have hs1 : (s.size : Int) ≤ 281474976702464 := by omega
      have HX' := HX.out
      have hx1 : 64 * ((x.val : Nat) : Int) < s.size := by omega
      have LD : ∀ w, (Calls Try.prog 64 #[.int .u64 (iv (word q)), .bool c] w fun e w' => e = .returned (.tuple #[.int .u64 (iv (word (escW q c))), .bool (escW q c 64)]) ∧ Drawn0 w w') := fun w => words_Escaped.calls _ _ _ _ w WE.out
      obtain ⟨cc, hcc⟩ : ∃ cc, cc = escW q c 64 := ⟨_, rfl⟩
      obtain ⟨ww, hww⟩ : ∃ ww, ww = iv (word (escW q c)) := ⟨_, rfl⟩
      rw [← hcc, ← hww] at LD
      have HCC := Aside0.mk hcc
      have HWW := Aside0.mk hww
      clear hcc hww HX' WE
      have LDh := Aside0.mk LD
      clear LD
      have key : (∃ z, (iv (word q) == 0) = z ∧ (z = true → c = true)) := ⟨_, rfl, fun h => by
        cases c
        · simp [h] at hz
        · rfl⟩
      clear hz
      obtain ⟨z, hz0, hzc⟩ := key
      have HZC := Aside0.mk hzc
      clear hzc
      by_cases hfull : (s.size : Int) - 64 * ((x.val : Nat) : Int) < 64
      · have STEP := Aside0.mk (part_step s (foldE s pre) x.val HQ.out HC.out HX.out (by omega))
        rw [← HWW.out] at STEP
        cases z
        · gi_wp2_with (first
            | ((with_reducible refine gate_dstIn (N := 17) rfl ?_); refine ev_loadIn BX rfl 80 _ rfl rfl Try.underlying80 (size64' _) ?_)
            | (gi_at_call 49; refine (CallsIn.inRound l (callsIn_of HF (EQ _))).mono ?_; rintro e w8 ⟨rfl, hb8⟩; have HK8 := Aside0.mk hb8; have E8 := hI.bs.below hb8; have e1 := (E8.out _ PM.out.1).cell (i := 0) rfl; have d4 := b4.below hb8; have d3 := b3.below hb8; have e4 := d4.cell (i := 0) rfl; have e31 := d3.cell (i := 1) rfl; have hrow8 := row_below hrow hb8; have HB8 := HB.step hb8; clear hb8)
            | (gi_at_call 64; refine (CallsIn.inRound l (callsIn_of HF (LDh.out _))).mono ?_; rintro e w9 ⟨rfl, ⟨nd, rfl⟩⟩; have d4n := d4.drewN nd; have HB9 := HB8.drewN nd; have E9 := E8.drewN nd; have d3n := d3.drewN nd; have hrow9 := row_drewN hrow8 nd)
            | ((with_reducible refine gate_In (Op.store 4 (.tmp 4) (.tmp 35)) rfl ?_); refine ev_store1In (i := 0) HB9 d4n GE_g4 rfl 4 _ _ rfl rfl _ rfl (by simp) (by kernel_rfl) rfl ?_; intro w10 B10 HB10 K10 KO10; have E10 := E9.other K10 PL.out.2.2.2; have d310 := d3n.other K10 (Nat.ne_of_lt N34'); have hrow10 := row_other hrow9 d4n (by decide) K10; have e1 := (E10.out _ PM.out.1).cell (i := 0) rfl; have e31 := d310.cell (i := 1) rfl)
            | ((with_reducible refine gate_dstIn (N := 50) rfl ?_); refine ev_lit1In HB10 rfl rfl (.int .u64 (bits BinOp.and IntKind.u64 ww (IntKind.u64.wrap (IntKind.u64.wrap (2 ^ (s.size - 64 * x.val)) - 1)))) 81 ?hr ?_; (case hr => first | (go_simp; done) | (go_simp; rfl)); intro gl w11 G_gl B_gl HB11 K_gl KO11; have E11 := E10.below K_gl.out; have d311 := d310.below K_gl.out; have d411 := B10.below K_gl.out; have hrow11 := row_below hrow10 K_gl.out)
            | ((with_reducible refine gate_dstIn (N := 51) rfl ?_); refine ev_append1In HB11 rfl _ _ 53 81 (.int .u64 0) 8 rfl Try.underlying53 (by kernel_rfl) rfl (by decide) v pre.length _ rfl hrow11 gl (.int .u64 (bits BinOp.and IntKind.u64 ww (IntKind.u64.wrap (IntKind.u64.wrap (2 ^ (s.size - 64 * x.val)) - 1)))) rfl B_gl rfl HL.out ?_; intro v1 w12 hrow12 HB12 K12 KO12 FV1; obtain ⟨g', cap', rfl⟩ := FV1.out; have d312 := d311.appended (by decide) hrow11 K12; have d412 := d411.appended (by decide) hrow11 K12; have E12 := E11.appended PL.out.2.1 hrow11 K12)
            | ((with_reducible refine gate_In (Op.store 53 (.tmp 52) (.tmp 51)) rfl ?_); refine ev_store1In (i := 1) HB12 d312 GE_g3 rfl 53 _ _ rfl rfl _ rfl (by simp) (by kernel_rfl) rfl ?_; intro w13 B13 HB13 K13 KO13; have E13 := E12.other K13 PL.out.2.2.1; have d413 := d412.other K13 (Nat.ne_of_gt N34')))
          have hsz : W.heap.size ≤ w13.heap.size := Nat.le_trans HK8.out.size (Nat.le_trans K10.out.1 (Nat.le_trans K_gl.out.size (Nat.le_trans K12.out.1 K13.out.1)))
          refine ⟨(((((keepsOthers_below HK8.out).trans (keepsOthers_drewN _ nd)).trans KO10.out).trans KO11.out).trans (KO12.out.trans KO13.out)).from _, Keep2.of_blk (hI.bs.out _ PM.out.2.2.1) (hI.bs.out _ PM.out.2.2.2) (E13.out _ PM.out.2.2.1) (E13.out _ PM.out.2.2.2) hsz, E13, ?_, ⟨_, B13, ?_⟩, HB13, Nat.le_trans hI.sz hsz⟩
          · rw [foldE_snoc, STEP.out, ← HCC.out]
            exact d413
          · rw [foldE_snoc, STEP.out, List.length_append, List.map_append]
            exact row_other hrow12 d312 (by decide) K13
        · obtain rfl : c = true := HZC.out rfl
          gi_wp2_with (first
            | ((with_reducible refine gate_dstIn (N := 17) rfl ?_); refine ev_loadIn BX rfl 80 _ rfl rfl Try.underlying80 (size64' _) ?_)
            | (gi_at_call 49; refine (CallsIn.inRound l (callsIn_of HF (EQ _))).mono ?_; rintro e w8 ⟨rfl, hb8⟩; have HK8 := Aside0.mk hb8; have E8 := hI.bs.below hb8; have e1 := (E8.out _ PM.out.1).cell (i := 0) rfl; have d4 := b4.below hb8; have d3 := b3.below hb8; have e4 := d4.cell (i := 0) rfl; have e31 := d3.cell (i := 1) rfl; have hrow8 := row_below hrow hb8; have HB8 := HB.step hb8; clear hb8)
            | (gi_at_call 64; refine (CallsIn.inRound l (callsIn_of HF (LDh.out _))).mono ?_; rintro e w9 ⟨rfl, ⟨nd, rfl⟩⟩; have d4n := d4.drewN nd; have HB9 := HB8.drewN nd; have E9 := E8.drewN nd; have d3n := d3.drewN nd; have hrow9 := row_drewN hrow8 nd)
            | ((with_reducible refine gate_In (Op.store 4 (.tmp 4) (.tmp 35)) rfl ?_); refine ev_store1In (i := 0) HB9 d4n GE_g4 rfl 4 _ _ rfl rfl _ rfl (by simp) (by kernel_rfl) rfl ?_; intro w10 B10 HB10 K10 KO10; have E10 := E9.other K10 PL.out.2.2.2; have d310 := d3n.other K10 (Nat.ne_of_lt N34'); have hrow10 := row_other hrow9 d4n (by decide) K10; have e1 := (E10.out _ PM.out.1).cell (i := 0) rfl; have e31 := d310.cell (i := 1) rfl)
            | ((with_reducible refine gate_dstIn (N := 50) rfl ?_); refine ev_lit1In HB10 rfl rfl (.int .u64 (bits BinOp.and IntKind.u64 ww (IntKind.u64.wrap (IntKind.u64.wrap (2 ^ (s.size - 64 * x.val)) - 1)))) 81 ?hr ?_; (case hr => first | (go_simp; done) | (go_simp; rfl)); intro gl w11 G_gl B_gl HB11 K_gl KO11; have E11 := E10.below K_gl.out; have d311 := d310.below K_gl.out; have d411 := B10.below K_gl.out; have hrow11 := row_below hrow10 K_gl.out)
            | ((with_reducible refine gate_dstIn (N := 51) rfl ?_); refine ev_append1In HB11 rfl _ _ 53 81 (.int .u64 0) 8 rfl Try.underlying53 (by kernel_rfl) rfl (by decide) v pre.length _ rfl hrow11 gl (.int .u64 (bits BinOp.and IntKind.u64 ww (IntKind.u64.wrap (IntKind.u64.wrap (2 ^ (s.size - 64 * x.val)) - 1)))) rfl B_gl rfl HL.out ?_; intro v1 w12 hrow12 HB12 K12 KO12 FV1; obtain ⟨g', cap', rfl⟩ := FV1.out; have d312 := d311.appended (by decide) hrow11 K12; have d412 := d411.appended (by decide) hrow11 K12; have E12 := E11.appended PL.out.2.1 hrow11 K12)
            | ((with_reducible refine gate_In (Op.store 53 (.tmp 52) (.tmp 51)) rfl ?_); refine ev_store1In (i := 1) HB12 d312 GE_g3 rfl 53 _ _ rfl rfl _ rfl (by simp) (by kernel_rfl) rfl ?_; intro w13 B13 HB13 K13 KO13; have E13 := E12.other K13 PL.out.2.2.1; have d413 := d412.other K13 (Nat.ne_of_gt N34')))
          have hsz : W.heap.size ≤ w13.heap.size := Nat.le_trans HK8.out.size (Nat.le_trans K10.out.1 (Nat.le_trans K_gl.out.size (Nat.le_trans K12.out.1 K13.out.1)))
          refine ⟨(((((keepsOthers_below HK8.out).trans (keepsOthers_drewN _ nd)).trans KO10.out).trans KO11.out).trans (KO12.out.trans KO13.out)).from _, Keep2.of_blk (hI.bs.out _ PM.out.2.2.1) (hI.bs.out _ PM.out.2.2.2) (E13.out _ PM.out.2.2.1) (E13.out _ PM.out.2.2.2) hsz, E13, ?_, ⟨_, B13, ?_⟩, HB13, Nat.le_trans hI.sz hsz⟩
          · rw [foldE_snoc, STEP.out, ← HCC.out]
            exact d413
          · rw [foldE_snoc, STEP.out, List.length_append, List.map_append]
            exact row_other hrow12 d312 (by decide) K13
      · have STEP := Aside0.mk (full_step s (foldE s pre) x.val HQ.out HC.out (by omega))
        rw [← HWW.out] at STEP
        cases z
        · gi_wp2_with (first
            | ((with_reducible refine gate_dstIn (N := 17) rfl ?_); refine ev_loadIn BX rfl 80 _ rfl rfl Try.underlying80 (size64' _) ?_)
            | (gi_at_call 49; refine (CallsIn.inRound l (callsIn_of HF (EQ _))).mono ?_; rintro e w8 ⟨rfl, hb8⟩; have HK8 := Aside0.mk hb8; have E8 := hI.bs.below hb8; have e1 := (E8.out _ PM.out.1).cell (i := 0) rfl; have d4 := b4.below hb8; have d3 := b3.below hb8; have e4 := d4.cell (i := 0) rfl; have e31 := d3.cell (i := 1) rfl; have hrow8 := row_below hrow hb8; have HB8 := HB.step hb8; clear hb8)
            | (gi_at_call 64; refine (CallsIn.inRound l (callsIn_of HF (LDh.out _))).mono ?_; rintro e w9 ⟨rfl, ⟨nd, rfl⟩⟩; have d4n := d4.drewN nd; have HB9 := HB8.drewN nd; have E9 := E8.drewN nd; have d3n := d3.drewN nd; have hrow9 := row_drewN hrow8 nd)
            | ((with_reducible refine gate_In (Op.store 4 (.tmp 4) (.tmp 35)) rfl ?_); refine ev_store1In (i := 0) HB9 d4n GE_g4 rfl 4 _ _ rfl rfl _ rfl (by simp) (by kernel_rfl) rfl ?_; intro w10 B10 HB10 K10 KO10; have E10 := E9.other K10 PL.out.2.2.2; have d310 := d3n.other K10 (Nat.ne_of_lt N34'); have hrow10 := row_other hrow9 d4n (by decide) K10; have e1 := (E10.out _ PM.out.1).cell (i := 0) rfl; have e31 := d310.cell (i := 1) rfl)
            | ((with_reducible refine gate_dstIn (N := 50) rfl ?_); refine ev_lit1In HB10 rfl rfl (.int .u64 (ww)) 81 ?hr ?_; (case hr => first | (go_simp; done) | (go_simp; rfl)); intro gl w11 G_gl B_gl HB11 K_gl KO11; have E11 := E10.below K_gl.out; have d311 := d310.below K_gl.out; have d411 := B10.below K_gl.out; have hrow11 := row_below hrow10 K_gl.out)
            | ((with_reducible refine gate_dstIn (N := 51) rfl ?_); refine ev_append1In HB11 rfl _ _ 53 81 (.int .u64 0) 8 rfl Try.underlying53 (by kernel_rfl) rfl (by decide) v pre.length _ rfl hrow11 gl (.int .u64 (ww)) rfl B_gl rfl HL.out ?_; intro v1 w12 hrow12 HB12 K12 KO12 FV1; obtain ⟨g', cap', rfl⟩ := FV1.out; have d312 := d311.appended (by decide) hrow11 K12; have d412 := d411.appended (by decide) hrow11 K12; have E12 := E11.appended PL.out.2.1 hrow11 K12)
            | ((with_reducible refine gate_In (Op.store 53 (.tmp 52) (.tmp 51)) rfl ?_); refine ev_store1In (i := 1) HB12 d312 GE_g3 rfl 53 _ _ rfl rfl _ rfl (by simp) (by kernel_rfl) rfl ?_; intro w13 B13 HB13 K13 KO13; have E13 := E12.other K13 PL.out.2.2.1; have d413 := d412.other K13 (Nat.ne_of_gt N34')))
          have hsz : W.heap.size ≤ w13.heap.size := Nat.le_trans HK8.out.size (Nat.le_trans K10.out.1 (Nat.le_trans K_gl.out.size (Nat.le_trans K12.out.1 K13.out.1)))
          refine ⟨(((((keepsOthers_below HK8.out).trans (keepsOthers_drewN _ nd)).trans KO10.out).trans KO11.out).trans (KO12.out.trans KO13.out)).from _, Keep2.of_blk (hI.bs.out _ PM.out.2.2.1) (hI.bs.out _ PM.out.2.2.2) (E13.out _ PM.out.2.2.1) (E13.out _ PM.out.2.2.2) hsz, E13, ?_, ⟨_, B13, ?_⟩, HB13, Nat.le_trans hI.sz hsz⟩
          · rw [foldE_snoc, STEP.out, ← HCC.out]
            exact d413
          · rw [foldE_snoc, STEP.out, List.length_append, List.map_append]
            exact row_other hrow12 d312 (by decide) K13
        · obtain rfl : c = true := HZC.out rfl
          gi_wp2_with (first
            | ((with_reducible refine gate_dstIn (N := 17) rfl ?_); refine ev_loadIn BX rfl 80 _ rfl rfl Try.underlying80 (size64' _) ?_)
            | (gi_at_call 49; refine (CallsIn.inRound l (callsIn_of HF (EQ _))).mono ?_; rintro e w8 ⟨rfl, hb8⟩; have HK8 := Aside0.mk hb8; have E8 := hI.bs.below hb8; have e1 := (E8.out _ PM.out.1).cell (i := 0) rfl; have d4 := b4.below hb8; have d3 := b3.below hb8; have e4 := d4.cell (i := 0) rfl; have e31 := d3.cell (i := 1) rfl; have hrow8 := row_below hrow hb8; have HB8 := HB.step hb8; clear hb8)
            | (gi_at_call 64; refine (CallsIn.inRound l (callsIn_of HF (LDh.out _))).mono ?_; rintro e w9 ⟨rfl, ⟨nd, rfl⟩⟩; have d4n := d4.drewN nd; have HB9 := HB8.drewN nd; have E9 := E8.drewN nd; have d3n := d3.drewN nd; have hrow9 := row_drewN hrow8 nd)
            | ((with_reducible refine gate_In (Op.store 4 (.tmp 4) (.tmp 35)) rfl ?_); refine ev_store1In (i := 0) HB9 d4n GE_g4 rfl 4 _ _ rfl rfl _ rfl (by simp) (by kernel_rfl) rfl ?_; intro w10 B10 HB10 K10 KO10; have E10 := E9.other K10 PL.out.2.2.2; have d310 := d3n.other K10 (Nat.ne_of_lt N34'); have hrow10 := row_other hrow9 d4n (by decide) K10; have e1 := (E10.out _ PM.out.1).cell (i := 0) rfl; have e31 := d310.cell (i := 1) rfl)
            | ((with_reducible refine gate_dstIn (N := 50) rfl ?_); refine ev_lit1In HB10 rfl rfl (.int .u64 (ww)) 81 ?hr ?_; (case hr => first | (go_simp; done) | (go_simp; rfl)); intro gl w11 G_gl B_gl HB11 K_gl KO11; have E11 := E10.below K_gl.out; have d311 := d310.below K_gl.out; have d411 := B10.below K_gl.out; have hrow11 := row_below hrow10 K_gl.out)
            | ((with_reducible refine gate_dstIn (N := 51) rfl ?_); refine ev_append1In HB11 rfl _ _ 53 81 (.int .u64 0) 8 rfl Try.underlying53 (by kernel_rfl) rfl (by decide) v pre.length _ rfl hrow11 gl (.int .u64 (ww)) rfl B_gl rfl HL.out ?_; intro v1 w12 hrow12 HB12 K12 KO12 FV1; obtain ⟨g', cap', rfl⟩ := FV1.out; have d312 := d311.appended (by decide) hrow11 K12; have d412 := d411.appended (by decide) hrow11 K12; have E12 := E11.appended PL.out.2.1 hrow11 K12)
            | ((with_reducible refine gate_In (Op.store 53 (.tmp 52) (.tmp 51)) rfl ?_); refine ev_store1In (i := 1) HB12 d312 GE_g3 rfl 53 _ _ rfl rfl _ rfl (by simp) (by kernel_rfl) rfl ?_; intro w13 B13 HB13 K13 KO13; have E13 := E12.other K13 PL.out.2.2.1; have d413 := d412.other K13 (Nat.ne_of_gt N34')))
          have hsz : W.heap.size ≤ w13.heap.size := Nat.le_trans HK8.out.size (Nat.le_trans K10.out.1 (Nat.le_trans K_gl.out.size (Nat.le_trans K12.out.1 K13.out.1)))
          refine ⟨(((((keepsOthers_below HK8.out).trans (keepsOthers_drewN _ nd)).trans KO10.out).trans KO11.out).trans (KO12.out.trans KO13.out)).from _, Keep2.of_blk (hI.bs.out _ PM.out.2.2.1) (hI.bs.out _ PM.out.2.2.2) (E13.out _ PM.out.2.2.1) (E13.out _ PM.out.2.2.2) hsz, E13, ?_, ⟨_, B13, ?_⟩, HB13, Nat.le_trans hI.sz hsz⟩
          · rw [foldE_snoc, STEP.out, ← HCC.out]
            exact d413
          · rw [foldE_snoc, STEP.out, List.length_append, List.map_append]
            exact row_other hrow12 d312 (by decide) K13
  case done =>
    rintro D ys W hD rfl hI hK
    obtain ⟨v, b3, hrow⟩ := hI.row
    have b2 := hI.bs.out _ PM.out.2.1
    have HB := hI.hb
    have V1 := Aside0.mk (row_one hrow)
    have HD := Aside0.mk hD
    have HKD := Aside0.mk hK
    clear hK hD
    gi_wp2_with (first
      | ((with_reducible refine gate_dstIn (N := 53) rfl ?_); refine ev_loadSIn b3 rfl 55 _ rfl rfl Try.underlying55 rfl (by kernel_rfl) ?_)
      | ((with_reducible refine gate_In (Op.store 55 (.tmp 2) (.tmp 53)) rfl ?_); refine ev_storeIn HB b2 GE_g2 rfl 55 _ _ rfl rfl rfl (by kernel_rfl) rfl (by simp [Value.oneCell']; exact V1.out) ?_; intro w8 B8 HB8 K8 KO8))
    have HK8 := KO8.out.same D _ HKD.out rfl
    have hrow8 := row_other hrow b2 (by decide) K8
    have hg := grownBy_putObj' w8 D (.deferred none)
    have hr : ∀ r, some D = some r → ∃ o : Obj, w8.heap[r]? = some o ∧ o.isCells = false := fun r e => by
      cases e
      exact ⟨_, HK8, rfl⟩
    have hle : w.heap.size ≤ D := Nat.le_trans HBW.le HD.out
    refine ⟨by simp, .inl ⟨_, _, rfl, run_takeDeferred HK8, ?_⟩⟩
    refine ⟨_, results_cell_row rfl _ _ g2 55 _ (0, 0) _ rfl (B8.kept hg hr).out Try.underlying55 rfl (by kernel_rfl), v, rfl, ?_, (HB8.kept hg hle (fun r e => by cases e; exact Nat.le_refl _)).out⟩
    have h1 := row_kept hrow8 hg hr
    rw [foldE_all, List.length_finRange] at h1
    exact h1
  case stop =>
    rintro D c pre W _ _ h _
    exact h.elim
theorem escape_Escaped.calls (a0 : ByteArray) (r1 : Int) (r2 : List Int) (w : World) (h : escape_Escaped.f a0 = some (r1, r2)) :
    Calls Try.prog 47 #[.string a0] w fun e w' => ∃ v1_ : Value, e = .returned (.agg #[.int .i64 r1, v1_]) ∧ Kd.R (Kd.int .u64) 81 w' w.heap.size (fun _ => True) v1_ r2 ∧ Below w.heap.size w w' := by
  unfold escape_Escaped.f at h
  by_cases hs : a0.size ≤ 281474976702464
  case neg => rw [if_neg hs] at h; cases h
  rw [if_pos hs] at h
  simp only [Option.some.injEq, Prod.mk.injEq] at h
  obtain ⟨rfl, rfl⟩ := h
  refine (escape_Escaped.walk a0 w hs).mono ?_
  rintro e w' ⟨v, rfl, hrow, hb⟩
  refine ⟨v, rfl, Kd.R_of_own ?_ (fun _ _ => trivial), hb⟩
  rw [wordsOf_length]
  exact hrow
end


/-! ### quotes_Marks: function 32 -/
section
open Go.Proofs.YtifpahkgielocaaQ Go.Proofs.YtifpahkgielocaaM Go.Shelf
attribute [local go_sem] Oper.semAt_some
/-- Between two blocks. -/
structure MarksI (s : ByteArray) (w : World) (L : List (Nat × Array Value × Nat)) (m : Nat) (v1 : Value) {n : Nat} (pre : List (Fin n)) (W : World) : Prop where mk ::
  bs : Blks L W
  row : W.ownsRow w.heap.size 81 1 v1 (nwords s.size) ((foldM s pre).map (Value.int .u64))
  hb : BelowH w W
  sz : m ≤ W.heap.size
theorem MarksI.kept {s : ByteArray} {w W W' : World} {L : List (Nat × Array Value × Nat)} {m : Nat} {v1 : Value} {n : Nat} {pre : List (Fin n)} (h : MarksI s w L m v1 pre W) {B : Nat} (hB : w.heap.size ≤ B) {row : Option Nat} (hg : W.grownBy W' row) (hr : ∀ r, row = some r → B ≤ r ∧ ∃ o : Obj, W.heap[r]? = some o ∧ o.isCells = false) : MarksI s w L m v1 pre W' := by
  have hr' : ∀ r, row = some r → ∃ o : Obj, W.heap[r]? = some o ∧ o.isCells = false := fun r e => (hr r e).2
  exact ⟨h.bs.kept hg hr', row_kept h.row hg hr', h.hb.kept hg hB (fun r e => (hr r e).1), Nat.le_trans h.sz hg.size⟩
theorem MarksI.below {s : ByteArray} {w W W' : World} {L : List (Nat × Array Value × Nat)} {m : Nat} {v1 : Value} {n : Nat} {pre : List (Fin n)} (h : MarksI s w L m v1 pre W) (hb : Below W.heap.size W W') : MarksI s w L m v1 pre W' :=
  ⟨h.bs.below hb, row_below h.row hb, h.hb.step hb, Nat.le_trans h.sz hb.size⟩
def quotes_Marks.f (a0 : ByteArray) : Option (Int × List Int) := if a0.size ≤ 281474976702464 then some ((a0.size : Int), wordsOf a0.size (mkq a0)) else none
set_option maxHeartbeats 4000000 in
set_option maxRecDepth 100000 in
theorem quotes_Marks.walk (s : ByteArray) (w : World) (hs : s.size ≤ 281474976702464) :
    Calls Try.prog 32 #[.string s] w fun e w' => ∃ v1_ : Value, e = .returned (.agg #[.int .i64 s.size, v1_]) ∧ w'.ownsRow w.heap.size 81 1 v1_ (nwords s.size) ((wordsOf s.size (mkq s)).map (Value.int .u64)) ∧ Below w.heap.size w w' := by
  obtain ⟨F, hF⟩ : ∃ F, F = Fence.wide := ⟨_, rfl⟩
  have HF := Aside0.mk hF
  refine (callsIn_wide (n := 9)).1 ?_
  rw [← hF]
  clear hF
  have hro := wide_round HF
  have HB := BelowH.refl w
  have f1 := wide_fn HF 48
  have f2 := wide_fn HF 65
  have f3 := wide_fn HF 49
  have f4 := wide_fn HF 47
  refine callsIn_of_wp_marks Try.func32 rfl (wide_fn HF _) ?_ hro
  simp only [Try.ntmps32, List.size_toArray, List.length_cons, List.length_nil, Nat.reduceAdd, Nat.reduceSub, Array.replicate_succ, Array.replicate_zero, List.push_toArray, List.append_toArray, List.nil_append, List.cons_append]
  gi_upto_region 2 with (first
    | ((with_reducible refine gate_dstIn (N := 2) rfl ?_); refine ev_allocIn HB rfl rfl (#[.int .i64 0, .slice none 0 0]) 55 ?hr ?_; (case hr => first | (go_simp; done) | (go_simp; rfl)); intro g2 w2 G_g2 GE_g2 B_g2 HBn K_g2 KO_w2; clear HB; have HB := HBn; clear HBn)
    | (gi_at_call 47; refine (callsIn_of HF (escape_Escaped.walk s _ hs)).mono ?_; rintro e w3 ⟨v1, rfl, hrow, hb3⟩; have R3 := Aside0.mk (row_mono hrow HB.le); have V1 := Aside0.mk (row_one hrow); have HK3 := Aside0.mk hb3; have HBn := HB.step hb3; clear HB hb3 hrow; have HB := HBn; clear HBn)
    | ((with_reducible refine gate_dstIn (N := 3) rfl ?_); refine ev_allocIn HB rfl rfl (#[.int .i64 0, .slice none 0 0]) 55 ?hr ?_; (case hr => first | (go_simp; done) | (go_simp; rfl)); intro g3 w4 G_g3 GE_g3 B_g3 HBn K_g3 KO_w4; clear HB; have HB := HBn; clear HBn)
    | ((with_reducible refine gate_In (Op.store 55 (.tmp 3) (.tmp 7)) rfl ?_); refine ev_storeIn HB B_g3 GE_g3 rfl 55 _ _ rfl rfl rfl (by kernel_rfl) rfl (by simp [Value.oneCell']; exact V1.out) ?_; intro w5 B3 HBn K_w5 KO_w5; clear HB; have HB := HBn; clear HBn))
  have N23 := Aside0.mk (show g2 < g3 by have := G_g3.out; have := B_g2.lt; have := HK3.out.size; omega)
  have B2 := ((B_g2.below HK3.out).below K_g3.out).other K_w5 (Nat.ne_of_lt N23.out)
  have R5 := row_other (row_below R3.out K_g3.out) B_g3 (by decide) K_w5
  clear B_g2 B_g3 K_g2 K_g3 K_w5 KO_w2 KO_w4 KO_w5 R3 HK3 G_g2 G_g3
  gi_wp2_with (first
    | (gi_at_call 48; refine (callsIn_of HF (block_Blocks.calls s 0 _)).mono ?_; rintro e w7 ⟨h1, h2, rfl, GE1, GE2, A1, A2, HB7⟩))
  obtain ⟨L, hL⟩ : ∃ L : List (Nat × Array Value × Nat), L = [(g3, #[.int .i64 s.size, v1], 55), (g2, #[.int .i64 0, .slice none 0 0], 55), (h1, #[.string s], 9), (h2, #[.int .u8 0], 5)] := ⟨_, rfl⟩
  have CL : Blks L w7 := ⟨by
    rw [hL]
    intro b m
    simp at m
    rcases m with rfl | rfl | rfl | rfl
    · exact B3.below HB7.out
    · exact B2.below HB7.out
    · exact A1
    · exact A2⟩
  have C7 := row_below R5 HB7.out
  have LL : ∀ b ∈ L, b.1 < w7.heap.size := fun b m => (CL.out b m).lt
  have LT : ∀ b ∈ L, b.2.2 ≠ 81 := by
    rw [hL]
    intro b m
    simp at m
    rcases m with rfl | rfl | rfl | rfl <;> (dsimp only; decide)
  have M3 : (g3, #[.int .i64 s.size, v1], 55) ∈ L := by rw [hL]; simp
  have M2 : (g2, #[.int .i64 0, .slice none 0 0], 55) ∈ L := by rw [hL]; simp
  have M4 : (h1, #[.string s], 9) ∈ L := by rw [hL]; simp
  have M5 : (h2, #[.int .u8 0], 5) ∈ L := by rw [hL]; simp
  have HBW := HB.step HB7.out
  have LH1 := A1.lt
  have LH2 := A2.lt
  have PL := Aside0.mk (And.intro LL LT)
  have PM := Aside0.mk (And.intro M3 (And.intro M2 (And.intro M4 M5)))
  clear B2 B3 R5 HB7 HB f1 hL LL LT M2 M3 M4 M5 N23
  refine wpIn_rangeFunc_ownH hro (by decide) (gf := 65) (lb := #[.pointer (some ⟨h1, 0, none⟩), .pointer (some ⟨h2, 0, none⟩)]) rfl f2 (enters_of Try.func65 (by kernel_rfl) rfl)
    (block_Blocks_1.stops F HF (9 - 1) (by decide) h1 h2 s 0 hs w7 A1 A2) Keep2.trans (fun W l o o' hl ho hc hw => Keep2.putObj LH1 LH2 W l o o' hl ho hc hw) (Below.refl _ _) (fun _ => rfl)
    (MarksI s w L w7.heap.size v1) (fun _ _ _ => False)
    (fun pre A B row hs hg hr => hs.kept HBW.le hg hr)
    (fun _ _ _ _ _ hs _ _ => hs)
    ⟨CL, C7, HBW, Nat.le_refl _⟩
    (fun x a' W => ∃ gb, w7.heap.size ≤ gb ∧ Blk W gb (blkA (cutF s (64 * ((x.val : Nat) : Int)) 0)) 80 ∧ a' = { tmps := #[.string s, undef, .pointer (some ⟨g2, 0, none⟩), .pointer (some ⟨g3, 0, none⟩), .int .i64 (64 * ((x.val : Nat) : Int)), .pointer (some ⟨gb, 0, none⟩), .string s, .agg #[.int .i64 s.size, v1], .string s, .func (.func 65) #[] #[.pointer (some ⟨h1, 0, none⟩), .pointer (some ⟨h2, 0, none⟩)], .int .i64 (64 * ((x.val : Nat) : Int)), .agg (blkA (cutF s (64 * ((x.val : Nat) : Int)) 0)), undef, undef, undef, undef, undef, undef, undef, undef, undef, undef, undef, undef, undef, undef, undef], defers := [] })
    (fun x a' pre A B row hs hg hr => by
      obtain ⟨gb, h1, h2, h3⟩ := hs
      exact ⟨gb, h1, h2.kept hg (fun r e => (hr r e).2), h3⟩)
    ?assign ?body ?done ?stop
  case assign =>
    intro l pre x W K hI hK
    have HB := hI.hb
    have SZ := Aside0.mk hI.sz
    dsimp only [blkEnc]
    gi_wp2_with (first
      | ((with_reducible refine gate_dstIn (N := 5) rfl ?_); refine ev_allocIn HB rfl rfl (blkA fun _ => 0) 80 ?hr ?_; (case hr => (rw [← blkA_zero]; go_simp; rfl)); intro gb w8 G_gb GE_gb B_gb HBn K_gb KO_w8; clear HB; have HB := HBn; clear HBn)
      | ((with_reducible refine gate_In (Op.store 80 (.tmp 5) (.tmp 11)) rfl ?_); refine ev_storeIn HB B_gb GE_gb rfl 80 _ _ rfl rfl rfl (size64' _) (by rw [blkA_size, blkA_size]) (blkA_one _) ?_; intro w9 B9 HBn K_w9 KO_w9; clear HB; have HB := HBn; clear HBn))
    have hKO := KO_w8.out.trans KO_w9.out
    refine hK _ _ (hKO.from _) ?_ ?_ ⟨gb, Nat.le_trans SZ.out G_gb.out, B9, rfl⟩
    · exact (Keep2.below K_gb.out (by have := SZ.out; omega) (by have := SZ.out; omega)).trans (Keep2.other K_w9 (by have := SZ.out; have := G_gb.out; omega) (by have := SZ.out; have := G_gb.out; omega))
    · have N : ∀ g, g < w7.heap.size → g ≠ gb := fun g h => by have := SZ.out; have := G_gb.out; omega
      exact ⟨(hI.bs.below K_gb.out).other K_w9 (fun b m => N _ (PL.out.1 b m)), row_other (row_below hI.row K_gb.out) B_gb (by decide) K_w9, HB, Nat.le_trans SZ.out (Nat.le_trans K_gb.out.size K_w9.out.1)⟩
  case body =>
    rintro l pre x a' W hl ⟨r, hr⟩ hI ⟨gb, hgb, BX, rfl⟩ hlt
    clear hr hlt
    obtain ⟨hrl, (⟨_, hn0⟩ | ⟨g, cap, cur, rfl, hbg, BG, hnc, hcm, hcs, HA⟩)⟩ := row_open hI.row
    · have := x.isLt; omega
    obtain ⟨old, hold⟩ : ∃ old, old = (foldM s pre).getD x.val 0 := ⟨_, rfl⟩
    obtain ⟨A, hA⟩ : ∃ A, A = iv (word fun j => decide (cutF s (64 * ((x.val : Nat) : Int)) 0 j = 34)) := ⟨_, rfl⟩
    have hget : ((foldM s pre).map (Value.int .u64))[x.val]? = some (.int .u64 old) := by
      have hl : x.val < (foldM s pre).length := by rw [foldM_length]; exact x.isLt
      rw [List.getElem?_map, hold, List.getD_eq_getElem?_getD, List.getElem?_eq_getElem hl]
      rfl
    have EQ : Aside0 (∀ w, Calls Try.prog 49 #[.agg (blkA (cutF s (64 * ((x.val : Nat) : Int)) 0)), .int .u8 34] w fun e w' => e = .returned (.int .u64 A) ∧ Below w.heap.size w w') := ⟨fun w => by
      rw [hA]
      exact block_Equal.calls _ (fun i => cutF_range s _ 0 (by decide) i) 34 (by decide) (by decide) w⟩
    have HG := Aside0.mk (HA.get hget)
    have HXI := Aside0.mk (show x.val < cur.size by have := x.isLt; omega)
    have HN := Aside0.mk (And.intro hrl (And.intro hbg (And.intro hnc (And.intro hcm hcs))))
    have HAA := Aside0.mk HA
    have HOA := Aside0.mk (And.intro hold hA)
    have hq1 : 64 * ((x.val : Nat) : Int) / 64 = ((x.val : Nat) : Int) := by omega
    have hq2 : Int.tdiv (64 * ((x.val : Nat) : Int)) 64 = ((x.val : Nat) : Int) := by rw [Int.tdiv_eq_ediv_of_nonneg (by omega)]; omega
    have hq3 : (0 : Int) ≤ ((x.val : Nat) : Int) := by omega
    have hq4 : ((x.val : Nat) : Int) < ((nwords s.size : Nat) : Int) := by have := x.isLt; omega
    have hq5 : ((x.val : Nat) : Int) ≤ 4398046511104 := by have := x.isLt; unfold nwords at this; omega
    have hq6 : IntKind.i64.wrap ((x.val : Nat) : Int) = ((x.val : Nat) : Int) := by rw [i64_w]; unfold wrap64; omega
    have hbd : Aside0 (Below W.heap.size W W.drew) := ⟨below_drew (Below.refl _ _)⟩
    have HI := Aside0.mk hI
    have I' := hI.below hbd.out
    have BX' := BX.below hbd.out
    have BG' := BG.below hbd.out
    have KO' := Aside0.mk (keepsOthers_below hbd.out)
    have HZ' := Aside0.mk hbd.out.size
    clear hrl hbg BG hnc hcm hcs HA hold hA hget BX hI
    gi_upto_region 5 with (fail)
    refine wpIn_region_last_drew HF (S := fun W' => Blk W' g3 #[.int .i64 s.size, .slice (some ⟨g, 0, none⟩) (nwords s.size) cap] 55 ∧ Blk W' gb (blkA (cutF s (64 * ((x.val : Nat) : Int)) 0)) 80 ∧ Blk W' g cur 81) (ds := [14]) (by kernel_rfl) (by kernel_rfl) ⟨I'.bs.out _ PM.out.1, BX', BG'⟩ (fun hS => ?_)
    refine' wpAnyLast_take (i := 0) (oi := Oper.mk _ _ _ _ _ _) rfl (by kernel_rfl) (by kernel_rfl) (by kernel_rfl) (by kernel_rfl) (by kernel_rfl) (fun _ _ _ h => h) (Or.inl ⟨by rfl, ?hy1⟩) hS ?rest1
    case hy1 => (intro w hSw; (try dsimp only at hSw); first | (go_simp; done) | (go_simp; with_reducible rfl))
    try simp only [Act.put, List.setIfInBounds_toArray, List.set_cons_zero, List.set_cons_succ]
    refine wpAnyLast_take (i := 1) (oi := Oper.mk _ _ _ _ _ _) rfl (by kernel_rfl) (by kernel_rfl) (by kernel_rfl) (by kernel_rfl) (by kernel_rfl) (fun _ _ _ h => h) (rg_load1 (by rfl) (fun _ hS => hS.1.cell (i := 1) rfl) 53 _ rfl rfl (fun _ => by simp [isAgg, run_underlying Try.underlying53])) hS ?_
    try simp only [Act.put, List.setIfInBounds_toArray, List.set_cons_zero, List.set_cons_succ]
    refine' wpAnyLast_take (i := 2) (oi := Oper.mk _ _ _ _ _ _) rfl (by kernel_rfl) (by kernel_rfl) (by kernel_rfl) (by kernel_rfl) (by kernel_rfl) (fun _ _ _ h => h) (Or.inl ⟨by rfl, ?hy2⟩) hS ?rest2
    case hy2 => (intro w hSw; (try dsimp only at hSw); first | (go_simp; done) | (go_simp; with_reducible rfl))
    try simp only [Act.put, List.setIfInBounds_toArray, List.set_cons_zero, List.set_cons_succ]
    refine' wpAnyLast_take (i := 3) (oi := Oper.mk _ _ _ _ _ _) rfl (by kernel_rfl) (by kernel_rfl) (by kernel_rfl) (by kernel_rfl) (by kernel_rfl) (fun _ _ _ h => h) (Or.inl ⟨by rfl, ?hy3⟩) hS ?rest3
    case hy3 => (intro w hSw; (try dsimp only at hSw); first | (go_simp; done) | (go_simp; with_reducible rfl))
    try simp only [Act.put, List.setIfInBounds_toArray, List.set_cons_zero, List.set_cons_succ]
    refine wpAnyLast_take (i := 4) (oi := Oper.mk _ _ _ _ _ _) rfl (by kernel_rfl) (by kernel_rfl) (by kernel_rfl) (by kernel_rfl) (by kernel_rfl) (fun _ _ _ h => h) (rg_load (by rfl) (fun _ hS => hS.2.1) 80 _ rfl rfl Try.underlying80 rfl (size64' _)) hS ?_
    try simp only [Act.put, List.setIfInBounds_toArray, List.set_cons_zero, List.set_cons_succ]
    refine' wpAnyLast_take (i := 6) (oi := Oper.mk _ _ _ _ _ _) rfl (by kernel_rfl) (by kernel_rfl) (by kernel_rfl) (by kernel_rfl) (by kernel_rfl) (fun _ _ _ h => h) (Or.inl ⟨by rfl, ?hy4⟩) hS ?rest4
    case hy4 => (intro w hSw; (try dsimp only at hSw); first | (go_simp; done) | (go_simp; with_reducible rfl))
    try simp only [Act.put, List.setIfInBounds_toArray, List.set_cons_zero, List.set_cons_succ]
    refine wpAnyLast_take (i := 7) (oi := Oper.mk _ _ _ _ _ _) rfl (by kernel_rfl) (by kernel_rfl) (by kernel_rfl) (by kernel_rfl) (by kernel_rfl) (fun _ _ _ h => h) (rg_load1 (by rfl) (fun _ hS => hS.1.cell (i := 1) rfl) 53 _ rfl rfl (fun _ => by simp [isAgg, run_underlying Try.underlying53])) hS ?_
    try simp only [Act.put, List.setIfInBounds_toArray, List.set_cons_zero, List.set_cons_succ]
    refine' wpAnyLast_take (i := 8) (oi := Oper.mk _ _ _ _ _ _) rfl (by kernel_rfl) (by kernel_rfl) (by kernel_rfl) (by kernel_rfl) (by kernel_rfl) (fun _ _ _ h => h) (Or.inl ⟨by rfl, ?hy5⟩) hS ?rest5
    case hy5 => (intro w hSw; (try dsimp only at hSw); first | (go_simp; done) | (go_simp; with_reducible rfl))
    try simp only [Act.put, List.setIfInBounds_toArray, List.set_cons_zero, List.set_cons_succ]
    refine' wpAnyLast_take (i := 9) (oi := Oper.mk _ _ _ _ _ _) rfl (by kernel_rfl) (by kernel_rfl) (by kernel_rfl) (by kernel_rfl) (by kernel_rfl) (fun _ _ _ h => h) (Or.inl ⟨by rfl, ?hy6⟩) hS ?rest6
    case hy6 => (intro w hSw; (try dsimp only at hSw); first | (go_simp; done) | (go_simp; with_reducible rfl))
    try simp only [Act.put, List.setIfInBounds_toArray, List.set_cons_zero, List.set_cons_succ]
    refine' wpAnyLast_take (i := 10) (oi := Oper.mk _ _ _ _ _ _) rfl (by kernel_rfl) (by kernel_rfl) (by kernel_rfl) (by kernel_rfl) (by kernel_rfl) (fun _ _ _ h => h) (Or.inl ⟨by rfl, ?hy7⟩) hS ?rest7
    case hy7 => (intro w hSw; (try dsimp only at hSw); first | (go_simp; done) | (go_simp; with_reducible rfl))
    try simp only [Act.put, List.setIfInBounds_toArray, List.set_cons_zero, List.set_cons_succ]
    refine wpAnyLast_take (i := 11) (oi := Oper.mk _ _ _ _ _ _) rfl (by kernel_rfl) (by kernel_rfl) (by kernel_rfl) (by kernel_rfl) (by kernel_rfl) (fun _ _ _ h => h) (rg_load1 (by rfl) (fun _ hS => hS.2.2.cell HG.out) 81 _ rfl rfl (fun _ => by simp [isAgg, run_underlying Try.underlying81])) hS ?_
    try simp only [Act.put, List.setIfInBounds_toArray, List.set_cons_zero, List.set_cons_succ]
    refine wpAnyLast_ready (rs := [5]) (by kernel_rfl) (by simp) ?_
    refine AllReadyL.cons (o := Oper.mk _ _ _ _ _ _) rfl (by decide) (fun K hK => ?_) ?_
    · refine rg_call (by rfl) _ _ (.int .u64 A) (by first | (go_simp; done) | (go_simp; rfl)) (EQ.out _) ?_
      intro W' hb
      have I2 := I'.below hb.out
      have BX2 := BX'.below hb.out
      have BG2 := BG'.below hb.out
      have KO2 := Aside0.mk (KO'.out.trans (keepsOthers_below hb.out))
      have HZ2 := Aside0.mk (Nat.le_trans HZ'.out hb.out.size)
      clear I' BX' BG' KO' HZ'
      refine hK.out _ _ ⟨I2.bs.out _ PM.out.1, BX2, BG2⟩ (fun hS => ?_)
      clear hK K
      try simp only [Act.put, List.setIfInBounds_toArray, List.set_cons_zero, List.set_cons_succ]
      refine' wpAnyLast_take (i := 12) (oi := Oper.mk _ _ _ _ _ _) rfl (by kernel_rfl) (by kernel_rfl) (by kernel_rfl) (by kernel_rfl) (by kernel_rfl) (fun _ _ _ h => h) (Or.inl ⟨by rfl, ?hy8⟩) hS ?rest8
      case hy8 => (intro w hSw; (try dsimp only at hSw); first | (go_simp; done) | (go_simp; with_reducible rfl))
      try simp only [Act.put, List.setIfInBounds_toArray, List.set_cons_zero, List.set_cons_succ]
      refine' wpAnyLast_take (i := 13) (oi := Oper.mk _ _ _ _ _ _) rfl (by kernel_rfl) (by kernel_rfl) (by kernel_rfl) (by kernel_rfl) (by kernel_rfl) (fun _ _ _ h => h) (Or.inl ⟨by rfl, ?hy9⟩) hS ?rest9
      case hy9 => (intro w hSw; (try dsimp only at hSw); first | (go_simp; done) | (go_simp; with_reducible rfl))
      try simp only [Act.put, List.setIfInBounds_toArray, List.set_cons_zero, List.set_cons_succ]
      refine wpAnyLast_ready (rs := [14]) (by kernel_rfl) (by simp) ?_
      refine AllReadyL.cons_last (o := Oper.mk _ _ _ _ _ _) rfl (by decide) (fun K hK => ?_) ?_
      · refine rg_store1 I2.hb (by rfl) BG2 (Aside0.mk HN.out.2.1) 81 _ _ rfl rfl _ rfl HXI.out (by kernel_rfl) rfl ?_
        intro w3 B3 HB3 K3
        have E3 := I2.bs.other K3 (fun b m => (I2.bs.out b m).ne BG2 (PL.out.2 b m))
        have KO3 := Aside0.mk (KO2.out.trans (keepsOthers_other BG2 K3))
        have HZ3 := Aside0.mk (Nat.le_trans HZ2.out K3.out.1)
        refine hK.out _ _ ?_
        clear hK K
        try simp only [Act.put, List.setIfInBounds_toArray, List.set_cons_zero, List.set_cons_succ]
        refine wpAnyLast_done (by kernel_rfl) ?_ _
        refine Straight.normal ?_
        gi_wp2
        refine ⟨KO3.out.from _, Keep2.of_blk (HI.out.bs.out _ PM.out.2.2.1) (HI.out.bs.out _ PM.out.2.2.2) (E3.out _ PM.out.2.2.1) (E3.out _ PM.out.2.2.2) HZ3.out, E3, ?_, HB3, Nat.le_trans HI.out.sz HZ3.out⟩
        obtain ⟨hrl, hbg, hnc, hcm, hcs⟩ := HN.out
        obtain ⟨hold, hA⟩ := HOA.out
        refine row_shut hbg B3 hnc hcm (by rw [Array.size_setIfInBounds]; exact hcs) (by rw [List.length_map, foldM_length]) ?_
        rw [foldM_snoc]
        unfold stepM
        rw [List.map_set, ← hold, ← hA]
        exact HAA.out.set _ _
      exact AllReadyL.nil
    exact AllReadyL.nil
  case done =>
    rintro D ys W hD rfl hI hK
    have b3 := hI.bs.out _ PM.out.1
    have b2 := hI.bs.out _ PM.out.2.1
    have hrow := hI.row
    have HB := hI.hb
    have HD := Aside0.mk hD
    have HKD := Aside0.mk hK
    clear hK hD
    gi_wp2_with (first
      | ((with_reducible refine gate_dstIn (N := 26) rfl ?_); refine ev_loadSIn b3 rfl 55 _ rfl rfl Try.underlying55 rfl (by kernel_rfl) ?_)
      | ((with_reducible refine gate_In (Op.store 55 (.tmp 2) (.tmp 26)) rfl ?_); refine ev_storeIn HB b2 GE_g2 rfl 55 _ _ rfl rfl rfl (by kernel_rfl) rfl (by simp [Value.oneCell']; exact V1.out) ?_; intro w8 B8 HB8 K8 KO8))
    have HK8 := KO8.out.same D _ HKD.out rfl
    have hrow8 := row_other hrow b2 (by decide) K8
    have hg := grownBy_putObj' w8 D (.deferred none)
    have hr : ∀ r, some D = some r → ∃ o : Obj, w8.heap[r]? = some o ∧ o.isCells = false := fun r e => by
      cases e
      exact ⟨_, HK8, rfl⟩
    have hle : w.heap.size ≤ D := Nat.le_trans HBW.le HD.out
    refine ⟨by simp, .inl ⟨_, _, rfl, run_takeDeferred HK8, ?_⟩⟩
    refine ⟨_, results_cell_row rfl _ _ g2 55 _ (0, 0) _ rfl (B8.kept hg hr).out Try.underlying55 rfl (by kernel_rfl), v1, rfl, ?_, (HB8.kept hg hle (fun r e => by cases e; exact Nat.le_refl _)).out⟩
    have h1 := row_kept hrow8 hg hr
    rw [foldM_all] at h1
    exact h1
  case stop =>
    rintro D c pre W _ _ h _
    exact h.elim
theorem quotes_Marks.calls (a0 : ByteArray) (r1 : Int) (r2 : List Int) (w : World) (h : quotes_Marks.f a0 = some (r1, r2)) :
    Calls Try.prog 32 #[.string a0] w fun e w' => ∃ v1_ : Value, e = .returned (.agg #[.int .i64 r1, v1_]) ∧ Kd.R (Kd.int .u64) 81 w' w.heap.size (fun _ => True) v1_ r2 ∧ Below w.heap.size w w' := by
  unfold quotes_Marks.f at h
  by_cases hs : a0.size ≤ 281474976702464
  case neg => rw [if_neg hs] at h; cases h
  rw [if_pos hs] at h
  simp only [Option.some.injEq, Prod.mk.injEq] at h
  obtain ⟨rfl, rfl⟩ := h
  refine (quotes_Marks.walk a0 w hs).mono ?_
  rintro e w' ⟨v, rfl, hrow, hb⟩
  refine ⟨v, rfl, Kd.R_of_own ?_ (fun _ _ => trivial), hb⟩
  rw [wordsOf_length]
  exact hrow
end


/-! ### quotes_Open: function 17 -/
def quotes_Open.f (k : Nat) (a0 : ByteArray) : Option (Bool) := (quotes_Marks.f a0).bind fun bt119 => ((bitmap_Count.f k bt119.1 bt119.2 0 (a0.size : Int)).bind fun t123 => (some ((Int.tmod t123 2) == 1)))
theorem quotes_Open.mono : ∀ a0 k, LeO (quotes_Open.f k a0) (quotes_Open.f (k + 1) a0) := by
  intro a0 k
  unfold quotes_Open.f
  repeat' first
      | (with_reducible exact bitmap_Count.mono _ _ _ _ _)
      | (with_reducible exact LeO.refl _)
      | (with_reducible exact LeO.none _)
      | (with_reducible refine LeO.ite ?_ ?_)
      | (with_reducible refine LeO.bind ?_ (fun _ => ?_))
      | exact bitmap_Count.mono _ _ _ _ _
      | exact LeO.none _
      | refine LeO.ite ?_ ?_
      | refine LeO.bind ?_ (fun _ => ?_)
set_option maxHeartbeats 8000000 in
set_option maxRecDepth 100000 in
theorem quotes_Open.calls (k : Nat) (a0 : ByteArray) (r : Bool) (w : World) (h : quotes_Open.f k a0 = some r) :
    Calls Try.prog 17 #[.string a0] w fun e w' => e = .returned (.bool r) ∧ Below w.heap.size w w' := by
  have HB := Aside0.mk (Below.refl w.heap.size w)
  have H : ((quotes_Marks.f a0).bind fun bt119 => ((bitmap_Count.f k bt119.1 bt119.2 0 (a0.size : Int)).bind fun t123 => (some ((Int.tmod t123 2) == 1)))) = some r := h
  clear h
  replace H := Option.bind_eq_some_iff.mp H
  obtain ⟨⟨t119, t120⟩, A20, H⟩ := H
  replace H : ((bitmap_Count.f k t119 t120 0 (a0.size : Int)).bind fun t123 => (some ((Int.tmod t123 2) == 1))) = some r := H
  have A2 := Aside0.mk A20
  clear A20
  replace H := Option.bind_eq_some_iff.mp H
  obtain ⟨t123, A30, H⟩ := H
  replace H : (some ((Int.tmod t123 2) == 1)) = some r := H
  have A3 := Aside0.mk A30
  clear A30
  obtain rfl := Option.some.inj H
  go_enter Try.func17, Try.ntmps17
  go_wp2_with (first | ((with_reducible refine gate_callee (f := 32) rfl ?_); refine goesL_ (some 4) rfl rfl Try.func32 (by kernel_rfl) rfl #[.string a0] rfl (by (try simp only [List.map_toArray, List.map_cons, List.map_nil]); first | done | rfl | (simp only [List.length_drop, List.length_take]; rfl)) ?_; (with_reducible refine (quotes_Marks.calls a0 t119 t120 _ A2.out).mono ?_); rintro e w4 ⟨v121, rfl, ho0, hb⟩; refine ⟨_, rfl, ?_⟩; have n0_ := Aside0.mk (Kd.R_lower ho0 (below_size (by repeat (first | (with_reducible first | exact HB.out | apply below_alloc | apply pw_below_drewN | apply below_drew1) | exact HB.out)))); have n1_ := Aside0.mk (below_step (by repeat (first | (with_reducible first | exact HB.out | apply below_alloc | apply pw_below_drewN | apply below_drew1) | exact HB.out)) hb); clear HB; have HO122 := n0_; have HB := n1_; clear n0_ n1_; (try clear hb); (try clear hb2); (try clear hk); (try clear hi); (try clear ho0); obtain ⟨Ao5, co5, eo5⟩ := Kd.R_slice HO122.out; subst eo5) | ((with_reducible refine gate_callee (f := 31) rfl ?_); refine goesL_ (some 7) rfl rfl Try.func31 (by kernel_rfl) rfl #[.agg #[.int .i64 t119, .slice Ao5 t120.length co5], .int .i64 0, .int .i64 (a0.size : Int)] rfl (by (try simp only [List.map_toArray, List.map_cons, List.map_nil]); first | done | rfl | (simp only [List.length_drop, List.length_take]; rfl)) ?_; (with_reducible refine (bitmap_Count.calls k t119 _ _ t120 0 (a0.size : Int) t123 _ ?side1 ?side2 A3.out).mono ?_); (case side1 => repeat (first | exact (Kd.R_reads' HO122.out).2.2 | (with_reducible refine Kd.C_alloc ?_ _) | (with_reducible refine Kd.C_drewN ?_ _) | (with_reducible refine Kd.C_drew ?_))); (case side2 => exact (Kd.R_reads' HO122.out).2.1); rintro e w6 ⟨rfl, hb⟩; refine ⟨_, rfl, ?_⟩; have n0_ := Aside0.mk (Kd.R_below (by (with_reducible repeat (first | apply Kd.R_alloc | apply Kd.R_drewN | apply Kd.R_drew)); exact HO122.out) hb); have n1_ := Aside0.mk (below_step (by repeat (first | (with_reducible first | exact HB.out | apply below_alloc | apply pw_below_drewN | apply below_drew1) | exact HB.out)) hb); clear HO122; clear HB; have HO122 := n0_; have HB := n1_; clear n0_ n1_; (try clear hb); (try clear hb2); (try clear hk); (try clear hi)))
  go_ret
  exact ⟨by first | rfl | (simp [errW_none, errW_some] <;> rfl) | (simp [*, errW_none, errW_some] <;> rfl), by repeat (first | (with_reducible first | exact HB.out | apply below_alloc | apply pw_below_drewN | apply below_drew1) | exact HB.out)⟩

end Go.Proofs.Ytifpahkgielocaa.PT
