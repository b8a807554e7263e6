/- Parts of a claim (TC), packed by a program (pack.py) out of the texts that it names. -/
import Derived.Test.YtfihkkjkifkemaaDoorTC2
-- PSx6
section
namespace Go.Proofs.YtfihkkjkifkemaaDoor.PS
open Go.RowKit Go.Proofs.YtfihkkjkifkemaaDoorW.PrintWords Go.Proofs.YtfihkkjkifkemaaDoorW.PrintLast Go.Proofs.YtfihkkjkifkemaaDoorW.PrintMore
attribute [local go_sem] max2_int min2_int max_two min_two max_three min_three max_four min_four   -- for this text's walks alone
set_option linter.unusedVariables false
set_option linter.unusedSimpArgs false

section
open Go.Proofs.YtfihkkjkifkemaaDoorQ Go.Proofs.YtfihkkjkifkemaaDoorM Go.Shelf
attribute [local go_sem] Oper.semAt_some
namespace TxF
theorem size_eq (n : Nat) (h : n ≤ 281474976710656) : bitmap_size.f (n : Int) = some ((nwords n : Nat) : Int) := by
  unfold bitmap_size.f
  have e1 : Int.tmod (n : Int) 64 = ((n % 64 : Nat) : Int) := rfl
  have e2 : Int.tdiv (n : Int) 64 = ((n / 64 : Nat) : Int) := rfl
  have e3 : wrap64 ((n / 64 : Nat) : Int) = ((n / 64 : Nat) : Int) := by unfold wrap64; omega
  rw [e1, e2, e3]
  have e4 : wrap64 (((n / 64 : Nat) : Int) + 1) = ((n / 64 : Nat) : Int) + 1 := by unfold wrap64; omega
  rw [e4]
  unfold nwords
  by_cases h : n % 64 = 0
  · rw [if_pos (by omega)]; congr 1; omega
  · rw [if_neg (by omega)]; congr 1; omega
/-- The bits that the last word of a row may have. -/
def tailW (n : Nat) : BitVec 64 := if n % 64 = 0 then 18446744073709551615#64 else BitVec.ofNat 64 (2 ^ (n % 64) - 1)
theorem shl_one (m : Nat) (h : m < 64) : shl .u64 1 (m : Int) = ((2 ^ m : Nat) : Int) := by
  have : ∀ m : Fin 64, shl .u64 1 ((m.val : Nat) : Int) = ((2 ^ m.val : Nat) : Int) := by decide
  exact this ⟨m, h⟩
theorem tail_eq (n : Nat) : bitmap_tail.f (n : Int) = some (iv (tailW n)) := by
  unfold bitmap_tail.f tailW
  have e1 : Int.tmod (n : Int) 64 = ((n % 64 : Nat) : Int) := rfl
  rw [e1]
  by_cases h : n % 64 = 0
  · rw [if_pos (by omega), if_pos h]; rfl
  · rw [if_neg (by omega), if_neg h, if_pos (by omega), shl_one _ (by omega)]
    have hp : 0 < 2 ^ (n % 64) := Nat.pow_pos (by decide)
    have hq : 2 ^ (n % 64) < 2 ^ 64 := Nat.pow_lt_pow_right (by decide) (by omega)
    have : ((2 ^ (n % 64) : Nat) : Int) - 1 = ((2 ^ (n % 64) - 1 : Nat) : Int) := by omega
    rw [this, wrap_nat]
    unfold iv
    rw [BitVec.toNat_ofNat]
theorem rd_words (n : Nat) (p : Nat → Bool) (k : Nat) (h : k < nwords n) : rd (wordsOf n p) (k : Int) = iv (wordAt n p k) := by
  unfold rd
  rw [Int.toNat_natCast]
  exact wordsOf_get n p k h
/-- What is told of a row of bits is well formed. -/
theorem formed_eq (n : Nat) (p : Nat → Bool) (h : n ≤ 281474976710656) : bitmap_Formed.f (n : Int) (wordsOf n p) = some true := by
  unfold bitmap_Formed.f
  rw [if_neg (by omega), size_eq n h, Option.bind_some, wordsOf_length, if_pos rfl]
  by_cases h0 : n = 0
  · rw [if_pos (by omega)]
  · have hw : 0 < nwords n := by unfold nwords; omega
    have hb : nwords n ≤ 281474976710656 := by unfold nwords; omega
    have e : wrap64 (((nwords n : Nat) : Int) - 1) = ((nwords n - 1 : Nat) : Int) := by unfold wrap64; omega
    rw [if_neg (by omega), e, if_pos (by omega), if_pos (by omega), tail_eq, Option.bind_some, rd_words n p _ (by omega), bits_andNot]
    have hz : wordAt n p (nwords n - 1) &&& ~~~tailW n = 0#64 := by
      refine BitVec.eq_of_getLsbD_eq fun i hi => ?_
      rw [BitVec.getLsbD_and, BitVec.getLsbD_not]
      unfold wordAt
      rw [word_bit]
      unfold tailW
      have hn : nwords n = (n + 63) / 64 := rfl
      by_cases g : n % 64 = 0
      · rw [if_pos g]
        have : (18446744073709551615#64).getLsbD i = true := by
          have : ∀ i : Fin 64, (18446744073709551615#64).getLsbD i.val = true := by decide
          exact this ⟨i, hi⟩
        rw [this]; simp
      · rw [if_neg g, BitVec.getLsbD_ofNat, Nat.testBit_two_pow_sub_one]
        by_cases g2 : i < n % 64
        · simp [g2, hi]
        · have : ¬ (64 * (nwords n - 1) + i < n) := by omega
          simp [this]
    rw [hz]
    rfl
end TxF
/-- Between two marks. -/
structure TxI (J : List Nat → List (Nat × Nat) → World → Prop) (X : List Nat) (gy gf g1 : Nat) (l : Nat) (s : ByteArray) {n : Nat} {q : Nat → Bool} (m : Nat) (pre : List (SetP n q)) (W : World) : Prop where mk ::
  j : J X (foldT (pre.map (·.val))).1 W
  by_ : Blk W gy #[.func (.yield l) #[] #[]] 89
  bf : Blk W gf #[.int .i64 (fromI (foldT (pre.map (·.val))).2)] 3
  bs : Blk W g1 #[.string s] 9
  ht : TabOk W
  sz : m ≤ W.heap.size
theorem TxI.kept {J : List Nat → List (Nat × Nat) → World → Prop} {X : List Nat} {gy gf g1 : Nat} {l : Nat} {s : ByteArray} {n : Nat} {q : Nat → Bool} {m : Nat} {pre : List (SetP n q)} {W W' : World}
    (h : TxI J X gy gf g1 l s m pre W) {b : Nat} (hJ : OwnFrom b (J X)) (hm : b ≤ m) {row : Option Nat} (hg : W.grownBy W' row) (hr : ∀ r, row = some r → m ≤ r ∧ ∃ o : Obj, W.heap[r]? = some o ∧ o.isCells = false) : TxI J X gy gf g1 l s m pre W' := by
  have hr' : ∀ r, row = some r → ∃ o : Obj, W.heap[r]? = some o ∧ o.isCells = false := fun r e => (hr r e).2
  exact ⟨hJ _ _ _ _ h.j hg (fun r e => ⟨Nat.le_trans hm (hr r e).1, (hr r e).2⟩), h.by_.kept hg hr', h.bf.kept hg hr', h.bs.kept hg hr', h.ht.kept hg hr', Nat.le_trans h.sz hg.size⟩
theorem marks_set (s : ByteArray) : (setP (64 * (wordsOf s.size (mkq s)).length) (bitL (wordsOf s.size (mkq s))) (64 * (wordsOf s.size (mkq s)).length)).map (·.val) = marksP s := by
  rw [setP_val, wordsOf_length]
  have e : (List.range (64 * nwords s.size)).filter (fun k => decide (k < 64 * nwords s.size) && bitL (wordsOf s.size (mkq s)) k) = (List.range (64 * nwords s.size)).filter (fun k => decide (k < s.size) && mkq s k) := List.filter_congr fun j hj => by
    have hj' := List.mem_range.1 hj
    rw [decide_eq_true hj', Bool.true_and]
    exact wordsOf_bit s.size (mkq s) j hj'
  rw [e]
  exact range_filter_le _ _ _ (by unfold nwords; omega)
/-- The encoding of a span. -/
def spanEnc (x : Nat × Nat) : Array Value := #[.agg #[.int .i64 (x.1 : Int), .int .i64 (x.2 : Int)]]
set_option maxHeartbeats 4000000 in
set_option maxRecDepth 100000 in
theorem quotes_Texts_1.stops (F : Fence) (HF : Aside0 (F = Fence.wide)) (n : Nat) (hn : 7 ≤ n) (g3 g1 : Nat) (s : ByteArray) (hs : s.size ≤ 1099511627776) (A : Option Addr) (cap : Nat) (w : World)
    (B3 : Blk w g3 #[.int .i64 s.size, .slice A (wordsOf s.size (mkq s)).length cap] 95) (hC : Kd.C (Kd.int .u64) w A (wordsOf s.size (mkq s)).length (wordsOf s.size (mkq s))) (hcap : (wordsOf s.size (mkq s)).length ≤ cap) (B1 : Blk w g1 #[.string s] 9) (hT : TabOk w) :
    SeqO F n Tryd.prog 48 #[.pointer (some ⟨g3, 0, none⟩), .pointer (some ⟨g1, 0, none⟩)] spanEnc (Keep2 0 g1) (fun ys => ys = textsL s) (fun pre => pre <+: textsL s) w := by
  intro l J Jx W0 hW hJo hJxo hE hAb hY h0
  obtain ⟨R0, hR0⟩ : ∃ R0 : Ending → World → Prop, R0 = fun e W' => (∃ v, e = .returned v) ∧ ((∃ xs X, xs = textsL s ∧ (∀ k ∈ X, W0.heap.size ≤ k ∧ k < W'.heap.size) ∧ J X xs W') ∨ (∃ pre, pre <+: textsL s ∧ Jx pre W')) := ⟨_, rfl⟩
  rw [← hR0]
  have HR0 := Aside0.mk hR0
  clear hR0
  have HAB := Aside0.mk hAb
  clear hAb
  have HY := Aside0.mk hY
  have HJ0 := Aside0.mk h0
  have HT := Aside0.mk (hT.step hW)
  have HJO := Aside0.mk hJo
  have HJXO := Aside0.mk hJxo
  have HE := Aside0.mk hE
  have HS := Aside0.mk hs
  obtain ⟨L, hL⟩ : ∃ L, L = wordsOf s.size (mkq s) := ⟨_, rfl⟩
  rw [← hL] at B3 hC hcap
  have HLL := Aside0.mk hL
  have C3 := B3.below hW
  have D1 := B1.below hW
  have HC := Aside0.mk (Kd.C_below hC hW)
  have HCP := Aside0.mk hcap
  have HLN : Aside0 (L.length = nwords s.size) := ⟨by rw [hL, wordsOf_length]⟩
  have HL8 : Aside0 (L.length ≤ 17592186044416) := ⟨by rw [HLN.out]; unfold nwords; omega⟩
  have HRG : Aside0 (∀ x ∈ L, 0 ≤ x ∧ x < 18446744073709551616) := ⟨fun x hx => by
    rw [hL] at hx
    unfold wordsOf at hx
    obtain ⟨k, _, rfl⟩ := List.mem_map.1 hx
    exact ⟨iv_nonneg _, iv_lt _⟩⟩
  have HFM : Aside0 (bitmap_Formed.f (s.size : Int) L = some true) := ⟨by rw [hL]; exact TxF.formed_eq s.size (mkq s) (by omega)⟩
  have HMS : Aside0 ((setP (64 * L.length) (bitL L) (64 * L.length)).map (·.val) = marksP s) := ⟨by rw [hL]; exact marks_set s⟩
  clear hJo hJxo hE hY h0 hT hW hs hL B3 B1 hC hcap
  have f0 := wide_fn HF 49
  have f2 := wide_fn HF 63
  have n1 : 1 ≤ n := by omega
  have n2 : 1 ≤ n - 1 := by omega
  have n3 : 1 ≤ n - 1 - 1 := by omega
  have hro := wide_round HF
  have HB := BelowH.refl W0
  have c30 := C3.cell (i := 0) rfl
  refine callsIn_of_wp_marks Tryd.func48 rfl (wide_fn HF _) ?_ hro
  simp only [Tryd.ntmps48, List.size_toArray, List.length_cons, List.length_nil, Nat.reduceAdd, Nat.reduceSub, Array.replicate_succ, Array.replicate_zero, List.push_toArray, List.append_toArray, List.nil_append, List.cons_append]
  gi_upto_region 2 with (first
    | ((with_reducible refine gate_dstIn (N := 3) rfl ?_); refine ev_allocIn HB rfl rfl (#[.func (.yield l) #[] #[]]) 89 ?hr ?_; (case hr => first | (go_simp; done) | (go_simp; rfl)); intro gy w3 G_gy GE_gy B_gy HBn K_gy KO_w3; clear HB; have HB := HBn; clear HBn)
    | ((with_reducible refine gate_dstIn (N := 4) rfl ?_); refine ev_allocIn HB rfl rfl (#[.int .i64 0]) 3 ?hr ?_; (case hr => first | (go_simp; done) | (go_simp; rfl)); intro gf w4 G_gf GE_gf B_gf HBn K_gf KO_w4; clear HB; have HB := HBn; clear HBn)
    | ((with_reducible refine gate_In (Op.store 3 (.tmp 4) (.const (.int .i64 (-1)))) rfl ?_); refine ev_store1In (i := 0) HB B_gf GE_gf rfl 3 _ _ rfl rfl (.int .i64 (-1)) rfl (by simp) (by kernel_rfl) rfl ?_; intro w5 B5 HBn K_w5 KO_w5; clear HB; have HB := HBn; clear HBn))
  have HBW := HB
  have Nyf : gy ≠ gf := by have := B_gy.lt; have := G_gf.out; omega
  have Y5 := (B_gy.below K_gf.out).other K_w5 Nyf
  have HC5 := Aside0.mk (Kd.C_below HC.out HB.out)
  have E3 := C3.below HB.out
  have EC := Aside0.mk (bitmap_Each.calls (s.size : Int) A cap L true w5 HC5.out HCP.out (by have := HL8.out; omega) HFM.out)
  clear C3 c30
  gi_wp2_with (first
    | ((with_reducible refine gate_dstIn (N := 6) rfl ?_); refine ev_loadSIn E3 rfl 95 _ rfl rfl Tryd.underlying95 rfl (by kernel_rfl) ?_)
    | (gi_at_call 49; refine (callsIn_of HF EC.out).mono ?_; rintro e w6 ⟨ge, rfl, hO⟩; have HO := Aside0.mk hO; clear hO))
  obtain ⟨⟨gr, vr, GEe, GEr, Lr, BE, RV⟩, HB6⟩ := HO.out
  have HBW := HB.step HB6.out
  have Y6 := Y5.below HB6.out
  have F6 := B5.below HB6.out
  have S6 := D1.below HBW.out
  have T6 := HT.out.step HBW.out
  have X0 : Aside0 (∀ k ∈ [gr, gf, gy], W0.heap.size ≤ k ∧ k < w6.heap.size) := ⟨fun k hk => by
    have z1 := GE_gy.out
    have z2 := GE_gf.out
    have z3 := Y6.lt
    have z4 := F6.lt
    have z5 := HB.le
    simp only [List.mem_cons, List.not_mem_nil, or_false] at hk
    rcases hk with rfl | rfl | rfl <;> omega⟩
  have J6 := HJO.out [gr, gf, gy] [] W0 w6 none (HE.out _ _ _ gr (HE.out _ _ _ gf (HE.out _ _ _ gy HJ0.out GE_gy.out) GE_gf.out) (X0.out gr (List.mem_cons_self ..)).1) ⟨HBW.out.os, HBW.out.tape, HBW.out.output, HBW.out.size, fun k hk _ => HBW.out.block k hk⟩ (fun r e => by cases e)
  have NN := Aside0.mk (And.intro Nyf HBW.le)
  have NX : Aside0 (gr ≠ gf ∧ gf < w6.heap.size ∧ 0 < gf ∧ g1 < W0.heap.size ∧ gy < w6.heap.size ∧ W0.heap.size ≤ gf) := ⟨by
    have := F6.lt
    have := GE_gf.out
    have := HT.out.pos
    have := D1.lt
    have := Y6.lt
    have := B5.lt
    omega⟩
  have P0 := T6.pos
  clear HC5 EC HO GEe GEr HB6 HB E3 Y5 B5 B_gy B_gf K_gy K_gf K_w5 KO_w3 KO_w4 KO_w5 G_gy G_gf HBW D1 Nyf
  refine wpIn_rangeFunc_O hro n1 (gf := 63) (lb := #[.pointer (some ⟨ge, 0, none⟩)]) rfl f2 (enters_of Tryd.func63 (by kernel_rfl) rfl)
    (bitmap_Each_1.stops F HF (n - 1) (by omega) ge gr vr L HRG.out HL8.out w6 BE RV Lr T6) Keep2.trans (fun W l o o' hl ho hc hw => Keep2.putObj P0 Lr W l o o' hl ho hc hw) (Below.refl _ _) (fun _ => rfl)
    (fun X => TxI J (X ++ [gr, gf, gy]) gy gf g1 l s w6.heap.size)
    (fun c pre W => c = .ret ∧ ∃ ts, ts <+: textsL s ∧ Jx ts W)
    (fun _ pre A B row hs hg hr => hs.kept (HJO.out _) NN.out.2 hg hr)
    (fun c pre A B row hs hg hr => ⟨hs.1, hs.2.imp fun ts h => ⟨h.1, HJXO.out _ _ _ _ h.2 hg (fun r e => ⟨Nat.le_trans NN.out.2 (hr r e).1, (hr r e).2⟩)⟩⟩)
    (fun X pre A k h hk => ⟨HE.out _ _ _ k h.j hk, h.by_, h.bf, h.bs, h.ht, h.sz⟩)
    (fun X pre A C hX h ht => by
      have z1 := NX.out
      have z2 := NN.out.2
      have z3 := h.sz
      have z4 := h.ht.pos
      have hXA : ∀ k ∈ X ++ [gr, gf, gy], W0.heap.size ≤ k := fun k hk => by
        rcases List.mem_append.1 hk with hk | hk
        · have := hX k hk
          omega
        · exact (X0.out k hk).1
      exact ⟨HAB.out _ _ _ _ hXA h.j (ht.mono fun k hk => List.mem_append_left _ hk), h.by_.turned ht (not_mem_above hX (by omega)), h.bf.turned ht (not_mem_above hX (by omega)), h.bs.turned ht (not_mem_above hX (by omega)), h.ht.heap (ht.block 0 z4 (not_mem_above hX (by omega))), Nat.le_trans h.sz ht.size⟩)
    ⟨J6, Y6, F6, S6, T6, Nat.le_refl _⟩
    (fun y a' W => ∃ u6, a' = { tmps := #[.func (.yield l) #[] #[], .pointer (some ⟨g3, 0, none⟩), .pointer (some ⟨g1, 0, none⟩), .pointer (some ⟨gy, 0, none⟩), .pointer (some ⟨gf, 0, none⟩), .int .i64 ((y.val : Nat) : Int), u6, .func (.func 63) #[] #[.pointer (some ⟨ge, 0, none⟩)], .int .i64 ((y.val : Nat) : Int), undef, undef, undef, undef, undef, undef, undef, undef, undef, undef, undef, undef, undef, undef, undef, undef, undef, undef], defers := [] })
    (fun x a' pre A B row hs hg hr => hs)
    ?assign ?body ?done ?stop
  case assign =>
    intro X' l' pre y W K' hX' hI hsp hK'
    dsimp only
    gi_wp2
    exact hK' _ _ ((KeepsOthers.refl _).from _) (fun _ _ => rfl) ⟨rfl, rfl, Nat.le_refl _⟩ hI ⟨_, rfl⟩
  case body =>
    rintro X' l' pre y a' W' hX' hl ⟨r, hr⟩ hI ⟨u6, rfl⟩ hsp
    clear hr
    obtain ⟨st, hst⟩ : ∃ st, st = foldT (pre.map (·.val)) := ⟨_, rfl⟩
    have hst2 : foldT ((pre ++ [y]).map (·.val)) = stepQ st y.val := by
      rw [List.map_append, hst]
      exact foldT_snoc _ _
    have hpx : (stepQ st y.val).1 <+: textsL s := by
      rw [← hst2]
      refine (foldT_prefix ?_).trans (endT_prefix _ _)
      rw [← HMS.out]
      exact hsp.map _
    have hXr : ∀ k ∈ X' ++ [gr, gf, gy], W0.heap.size ≤ k ∧ k < W'.heap.size := fun k hk => by
      have z3 := hI.sz
      have z2 := NN.out.2
      rcases List.mem_append.1 hk with hk | hk
      · have := hX' k hk
        omega
      · have := X0.out k hk
        omega
    have hIj := hI.j
    have hIf := hI.bf
    rw [← hst] at hIj hIf
    have HI := Aside0.mk hI
    have HX := Aside0.mk hX'
    have HXR := Aside0.mk hXr
    have HS2 := Aside0.mk hst2
    have cy := hI.by_.cell (i := 0) rfl
    have hyb : ((y.val : Nat) : Int) ≤ 1125899906842624 := by have := y.2.1; have := HL8.out; omega
    have hw1 : wrap64 (((y.val : Nat) : Int) + 1) = ((y.val : Nat) : Int) + 1 := by unfold wrap64; omega
    clear hI hX' hXr hst2 hsp hl
    obtain ⟨ts, o⟩ := st
    cases o with
    | none =>
      obtain ⟨wc, HBc, hwc⟩ := below_cut W' gf (Nat.le_of_lt hIf.lt)
      have GEc : Aside0 (wc.heap.size ≤ gf) := ⟨Nat.le_of_eq hwc⟩
      have HIJ := Aside0.mk hIj
      have cf := hIf.cell (i := 0) rfl
      dsimp only [fromI] at cf
      clear hIj hpx hst hwc
      gi_wp2_with (first
        | ((with_reducible refine gate_In (Op.store 3 (.tmp 4) (.tmp 12)) rfl ?_); refine ev_store1In (i := 0) HBc hIf GEc rfl 3 _ _ rfl rfl (.int .i64 (((y.val : Nat) : Int) + 1)) rfl (by simp) (by kernel_rfl) rfl ?_; intro w8 B8 HB8 K_w8 KO_w8))
      have NXo := NX.out
      have NT : Turned (X' ++ [gr, gf, gy]) W' w8 := ⟨HB8.out.os.trans HBc.out.os.symm, HB8.out.tape.trans HBc.out.tape.symm, HB8.out.output.trans HBc.out.output.symm, K_w8.out.1, fun k hk hn => K_w8.out.2 k fun c => hn (c ▸ List.mem_append_right _ (by simp))⟩
      have J8 := HAB.out _ _ _ _ (fun k hk => (HXR.out k hk).1) HIJ.out NT
      refine ⟨KO_w8.out.from _, fun k hk => K_w8.out.2 k (fun c => by have := HX.out k hk; omega), ⟨K_w8.out.2 0 (by omega), K_w8.out.2 gr (by omega), K_w8.out.1⟩, ?_, HI.out.by_.other K_w8 NN.out.1, ?_, HI.out.bs.other K_w8 (by omega), HI.out.ht.other (by omega) K_w8, Nat.le_trans HI.out.sz K_w8.out.1⟩
      · rw [HS2.out]
        exact J8
      · rw [HS2.out]
        exact B8
    | some f =>
      have cf := hIf.cell (i := 0) rfl
      dsimp only [fromI] at cf
      obtain ⟨fn, tmps, assign, body, hy, hR⟩ := HY.out (X' ++ [gr, gf, gy]) ts (f, y.val) W' HXR.out hIj hpx
      dsimp only [spanEnc] at hy
      have HR := Aside0.mk hR
      have HPX : Aside0 (ts ++ [(f, y.val)] <+: textsL s) := ⟨hpx⟩
      have hf0 : decide ((f : Int) < 0) = false := decide_eq_false (by omega)
      clear hR hpx hst hIj
      gi_wp2
      refine (roundIn_wide HF HR.out).mono ?_
      rintro e W2 ⟨hkf, hx, (⟨rfl, hJ2, hk2⟩ | ⟨rfl, hJx2⟩)⟩
      · have Ry := hx gy (List.mem_append_right _ (by simp))
        have Rf := hx gf (List.mem_append_right _ (by simp))
        have Rr := hx gr (List.mem_append_right _ (by simp))
        have F2 : Blk W2 gf #[.int .i64 (f : Int)] 3 := ⟨Rf.trans hIf.out⟩
        obtain ⟨wc, HBc, hwc⟩ := below_cut W2 gf (Nat.le_of_lt F2.lt)
        have GEc : Aside0 (wc.heap.size ≤ gf) := ⟨Nat.le_of_eq hwc⟩
        have HJ2 := Aside0.mk hJ2
        have HK2 := Aside0.mk (And.intro hkf (And.intro hx hk2))
        clear hJ2 hkf hx hk2 hwc cf cy
        gi_wp2_with (first
          | ((with_reducible refine gate_In (Op.store 3 (.tmp 4) (.const (.int .i64 (-1)))) rfl ?_); refine ev_store1In (i := 0) HBc F2 GEc rfl 3 _ _ rfl rfl (.int .i64 (-1)) rfl (by simp) (by kernel_rfl) rfl ?_; intro w8 B8 HB8 K_w8 KO_w8))
        have NXo := NX.out
        obtain ⟨hkf, hx, hk2⟩ := HK2.out
        have NT : Turned (X' ++ [gr, gf, gy]) W2 w8 := ⟨HB8.out.os.trans HBc.out.os.symm, HB8.out.tape.trans HBc.out.tape.symm, HB8.out.output.trans HBc.out.output.symm, K_w8.out.1, fun k hk hn => K_w8.out.2 k fun c => hn (c ▸ List.mem_append_right _ (by simp))⟩
        have J8 := HAB.out _ _ _ _ (fun k hk => (HXR.out k hk).1) HJ2.out NT
        refine ⟨(KeepsFrom.up hkf NN.out.2).trans (KO_w8.out.from _), fun k hk => (K_w8.out.2 k (fun c => by have := HX.out k hk; omega)).trans (hx k (List.mem_append_left _ hk)), ⟨(K_w8.out.2 0 (by omega)).trans hk2.1, (K_w8.out.2 gr (by omega)).trans Rr, Nat.le_trans hkf.size K_w8.out.1⟩, ?_, ⟨(K_w8.out.2 gy NN.out.1).trans (Ry.trans HI.out.by_.out)⟩, ?_, ⟨(K_w8.out.2 g1 (by omega)).trans (hk2.2.1.trans HI.out.bs.out)⟩, (HI.out.ht.keep hk2).other (by omega) K_w8, Nat.le_trans HI.out.sz (Nat.le_trans hkf.size K_w8.out.1)⟩
        · rw [HS2.out]
          exact J8
        · rw [HS2.out]
          exact B8
      · have HJ2 := Aside0.mk hJx2
        have HK2 := Aside0.mk (And.intro hkf hx)
        clear hJx2 hkf hx
        gi_wp2
        refine ⟨KeepsFrom.up HK2.out.1 NN.out.2, fun k hk => HK2.out.2 k (List.mem_append_left _ hk), rfl, _, HPX.out, HJ2.out⟩
  case done =>
    rintro D X' ys W' hD hX' rfl hI hK'
    have HX := Aside0.mk hX'
    have hIj := hI.j
    have hIf := hI.bf
    rw [HMS.out] at hIj hIf
    obtain ⟨st, hst⟩ : ∃ st, st = foldT (marksP s) := ⟨_, rfl⟩
    rw [← hst] at hIj hIf
    have hTX : textsL s = endT st s.size := by rw [hst]; rfl
    have HTX := Aside0.mk hTX
    have HXR : Aside0 (∀ k ∈ X' ++ [gr, gf, gy], W0.heap.size ≤ k ∧ k < W'.heap.size) := ⟨fun k hk => by
      have z3 := hI.sz
      have z2 := NN.out.2
      rcases List.mem_append.1 hk with hk | hk
      · have := hX' k hk
        omega
      · have := X0.out k hk
        omega⟩
    have hD0 := Nat.le_trans NN.out.2 hD
    have cy := hI.by_.cell (i := 0) rfl
    have cs := hI.bs.cell (i := 0) rfl
    have cf := hIf.cell (i := 0) rfl
    have HM := Aside0.mk (Marks.cons (Marks.nil (W := W')) hD0 hK' (List.not_mem_nil))
    have hsz : (s.size : Int) ≤ 1099511627776 := by have := HS.out; omega
    clear hI hX' hK' hD hst hTX hD0
    obtain ⟨ts, o⟩ := st
    cases o with
    | none =>
      dsimp only [fromI] at cf
      have HIJ := Aside0.mk hIj
      clear hIj hIf cy cs
      gi_wp2
      refine leaves_marksS (S := fun A => J (X' ++ [gr, gf, gy]) ts A ∧ W'.heap.size ≤ A.heap.size) (fun A D' hs h1 h2 => ⟨(HJO.out _).putObj _ hs.1 h1 h2 rfl, by simpa using hs.2⟩) [D] W' ⟨HIJ.out, Nat.le_refl _⟩ HM.out fun A hA => ⟨_, results_none rfl _ _ _, by rw [HR0.out]; exact ⟨⟨_, rfl⟩, .inl ⟨_, X' ++ [gr, gf, gy], HTX.out.symm, fun k hk => by have := HXR.out k hk; have := hA.2; omega, hA.1⟩⟩⟩
    | some f =>
      dsimp only [fromI] at cf
      obtain ⟨fn, tmps, assign, body, hy, hR⟩ := HY.out (X' ++ [gr, gf, gy]) ts (f, s.size) W' HXR.out hIj (by rw [HTX.out]; exact List.prefix_rfl)
      dsimp only [spanEnc] at hy
      have HR := Aside0.mk hR
      have hf0 : decide (0 ≤ (f : Int)) = true := decide_eq_true (by omega)
      clear hR hIj hIf
      gi_wp2
      refine (roundIn_any HF HR.out).mono ?_
      rintro e W2 ⟨hkf, hx, (⟨rfl, hJ2, hk2⟩ | ⟨rfl, hJx2⟩)⟩
      · have HJ2 := Aside0.mk hJ2
        have HM2 := Aside0.mk (HM.out.keeps hkf (Nat.le_refl _))
        have HZ2 := Aside0.mk hkf.size
        clear hJ2 hkf hx hk2 cy cs cf
        gi_wp2
        refine leaves_marksS (S := fun A => J (X' ++ [gr, gf, gy]) (ts ++ [(f, s.size)]) A ∧ W2.heap.size ≤ A.heap.size) (fun A D' hs h1 h2 => ⟨(HJO.out _).putObj _ hs.1 h1 h2 rfl, by simpa using hs.2⟩) [D] W2 ⟨HJ2.out, Nat.le_refl _⟩ HM2.out fun A hA => ⟨_, results_none rfl _ _ _, by rw [HR0.out]; exact ⟨⟨_, rfl⟩, .inl ⟨_, X' ++ [gr, gf, gy], HTX.out.symm, fun k hk => by have := HXR.out k hk; have := hA.2; have := HZ2.out; omega, hA.1⟩⟩⟩
      · have HJ2 := Aside0.mk hJx2
        have HM2 := Aside0.mk (HM.out.keeps hkf (Nat.le_refl _))
        clear hJx2 hkf hx cy cs cf
        gi_wp2
        refine leaves_marksS (S := fun A => Jx (ts ++ [(f, s.size)]) A) (fun A D' hs h1 h2 => HJXO.out.putObj _ hs h1 h2 rfl) [D] W2 HJ2.out HM2.out fun A hA => ⟨_, results_none rfl _ _ _, by rw [HR0.out]; exact ⟨⟨_, rfl⟩, .inr ⟨_, by rw [HTX.out]; exact List.prefix_rfl, hA⟩⟩⟩
  case stop =>
    rintro D c pre W' hD hp ⟨rfl, ts, hts, hJ2⟩ hK'
    have hD0 := Nat.le_trans NN.out.2 hD
    have HM := Aside0.mk (Marks.cons (Marks.nil (W := W')) hD0 hK' (List.not_mem_nil))
    have HJ2 := Aside0.mk hJ2
    have HTS := Aside0.mk hts
    clear hp hJ2 hts hK' hD hD0
    gi_wp2
    exact leaves_marksS (S := fun A => Jx ts A) (fun A D' hs h1 h2 => HJXO.out.putObj _ hs h1 h2 rfl) [D] W' HJ2.out HM.out fun A hA => ⟨_, results_none rfl _ _ _, by rw [HR0.out]; exact ⟨⟨_, rfl⟩, .inr ⟨_, HTS.out, hA⟩⟩⟩
end


section
open Go.Proofs.YtfihkkjkifkemaaDoorQ Go.Proofs.YtfihkkjkifkemaaDoorM
/-- What quotes.Texts leaves: the marks, and the text, in variables. -/
structure TextsO (s : ByteArray) (w w' : World) (g3 g1 : Nat) : Prop where mk ::
  out : ∃ (A : Option Addr) (cap : Nat), Blk w' g3 #[.int .i64 s.size, .slice A (wordsOf s.size (mkq s)).length cap] 95 ∧ Kd.C (Kd.int .u64) w' A (wordsOf s.size (mkq s)).length (wordsOf s.size (mkq s)) ∧ (wordsOf s.size (mkq s)).length ≤ cap
  b1 : Blk w' g1 #[.string s] 9
  hb : BelowH w w'
set_option maxHeartbeats 4000000 in
set_option maxRecDepth 100000 in
theorem quotes_Texts.calls (s : ByteArray) (w : World) (hs : s.size ≤ 281474976702464) :
    Calls Tryd.prog 36 #[.string s] w fun e w' => ∃ g3 g1 : Nat, e = .returned (.func (.func 48) #[] #[.pointer (some ⟨g3, 0, none⟩), .pointer (some ⟨g1, 0, none⟩)]) ∧ TextsO s w w' g3 g1 := by
  have HB := BelowH.refl w
  have MK : Aside0 (∀ w, Calls Tryd.prog 47 #[.string s] w fun e w' => ∃ v1_ : Value, e = .returned (.agg #[.int .i64 s.size, v1_]) ∧ Kd.R (Kd.int .u64) 79 w' w.heap.size (fun _ => True) v1_ (wordsOf s.size (mkq s)) ∧ Below w.heap.size w w') := ⟨fun w => quotes_Marks.calls s _ _ w (by unfold quotes_Marks.f; rw [if_pos hs])⟩
  clear hs
  go_enter Tryd.func36, Tryd.ntmps36
  go_wp2_with (first
    | (((with_reducible refine gate_dst (N := 1) rfl ?_); refine ev_alloc HB rfl (#[.string s]) 9 ?hr ?_; (case hr => first | (go_simp; done) | (go_simp; rfl)); intro g1 w1 G_g1 GE_g1 B_g1 HBn K_g1; clear HB; have HB := HBn; clear HBn); have c1 := B_g1.cell (i := 0) rfl)
    | (go_at_call 47; refine (MK.out _).mono ?_; rintro e w4 ⟨v, rfl, hR, hb4⟩; have HR4 := Aside0.mk hR; have D1 := B_g1.below hb4; have HBW := Aside0.mk (HB.step hb4); have HQ := BelowH.refl w4; clear HB; have HB := HQ; clear HQ hR hb4; obtain ⟨Ao, co, rfl⟩ := Kd.R_slice HR4.out)
    | ((with_reducible refine gate_dst (N := 3) rfl ?_); refine ev_alloc HB rfl (#[.int .i64 0, .slice none 0 0]) 95 ?hr ?_; (case hr => first | (go_simp; done) | (go_simp; rfl)); intro g3 w5 G_g3 GE_g3 B_g3 HBn K_g3; clear HB; have HB := HBn; clear HBn)
    | ((with_reducible refine gate_ (Op.store 95 (.tmp 3) (.tmp 5)) rfl ?_); refine ev_store HB B_g3 GE_g3 rfl 95 _ _ rfl rfl rfl (by kernel_rfl) rfl (by simp [Value.oneCell']) ?_; intro w6 B6 HB6 K_w6))
  go_ret
  have hC := Kd.R_reads' HR4.out
  exact ⟨g3, g1, rfl, ⟨_, _, B6, Kd.C_below hC.2.2 HB6.out, hC.2.1⟩, D1.below HB6.out, HBW.out.step HB6.out⟩
end


section
open Go.Proofs.YtfihkkjkifkemaaDoorQ Go.Proofs.YtfihkkjkifkemaaDoorM Go.Shelf Go.Maps
open Go.Proofs.YtfihkkjkifkemaaDoorW.PrintWords
attribute [local go_sem] Oper.semAt_some
theorem lawInt : Keyed Tryd.prog 3 := int_keyed Tryd.underlying3
/-- Between two stores into the map. -/
structure EnI (s : ByteArray) (w : World) (b g1 g3 m nn : Nat) (D : DataW Unit) (Ds : List Nat) (W : World) : Prop where mk ::
  b1 : Blk W g1 #[.string s] 9
  b3 : Blk W g3 #[.map (some b)] 56
  own : W.ownsMap Tryd.prog 3 (plainElem Tryd.prog 3) b nn D
  mk_ : Marks w.heap.size Ds W
  hb : BelowH w W
  bb : w.heap.size ≤ b ∧ b < m
  sz : m ≤ W.heap.size
section
variable {s : ByteArray} {w W W' : World} {b g1 g3 m nn : Nat} {D : DataW Unit} {Ds : List Nat}
theorem EnI.kept (h : EnI s w b g1 g3 m nn D Ds W) (hD : ∀ D ∈ Ds, D < m) {row : Option Nat} (hg : W.grownBy W' row) (hr : ∀ r, row = some r → m ≤ r ∧ ∃ o : Obj, W.heap[r]? = some o ∧ o.isCells = false) : EnI s w b g1 g3 m nn D Ds W' := by
  have hr' : ∀ r, row = some r → ∃ o : Obj, W.heap[r]? = some o ∧ o.isCells = false := fun r e => (hr r e).2
  have z := h.bb
  exact ⟨h.b1.kept hg hr', h.b3.kept hg hr', h.own.kept hg (fun e => by have := (hr b e.symm).1; omega), h.mk_.grown hg hD (fun r e => (hr r e).1), h.hb.kept hg (show w.heap.size ≤ m by omega) (fun r e => (hr r e).1), h.bb, Nat.le_trans h.sz hg.size⟩
theorem EnI.below (h : EnI s w b g1 g3 m nn D Ds W) (hb : Below W.heap.size W W') {m' : Nat} (hm : b < m') (hm' : m' ≤ W'.heap.size) : EnI s w b g1 g3 m' nn D Ds W' :=
  ⟨h.b1.below hb, h.b3.below hb, ownsMap_same h.own (hb.block b h.own.lt), h.mk_.below hb, h.hb.step hb, ⟨h.bb.1, hm⟩, hm'⟩
theorem EnI.turned (h : EnI s w b g1 g3 m nn D Ds W) {X : List Nat} (hX : ∀ k ∈ X, m ≤ k) (hD : ∀ D ∈ Ds, D < m) (h1 : g1 < m) (h3 : g3 < m) (ht : Turned X W W') : EnI s w b g1 g3 m nn D Ds W' :=
  ⟨h.b1.turned ht (not_mem_above hX h1), h.b3.turned ht (not_mem_above hX h3), ownsMap_same h.own (ht.block b h.own.lt (not_mem_above hX h.bb.2)), h.mk_.same (fun D hD' => ht.block D (h.mk_.lt hD') (not_mem_above hX (hD D hD'))), ⟨ht.below (fun k hk => by have := hX k hk; have := h.bb; omega) h.hb.le h.hb.out⟩, h.bb, Nat.le_trans h.sz ht.size⟩
/-- Behind a store into the map. -/
theorem EnI.put (h : EnI s w b g1 g3 m nn D Ds W) {nn' : Nat} {D' : DataW Unit} (ho : W'.ownsMap Tryd.prog 3 (plainElem Tryd.prog 3) b nn' D') (hg : W.grownBy W' (some b)) : EnI s w b g1 g3 m nn' D' Ds W' := by
  have n1 := ownsMap_ne h.own h.b1
  have n3 := ownsMap_ne h.own h.b3
  have nD : ∀ D ∈ Ds, D ≠ b := fun D hD e => by
    subst e
    obtain ⟨es, clock, hb, _⟩ := h.own
    rw [(h.mk_.at_ D hD).2] at hb
    cases hb
  exact ⟨⟨(hg.block g1 h.b1.lt (fun e => n1 (Option.some.inj e))).trans h.b1.out⟩, ⟨(hg.block g3 h.b3.lt (fun e => n3 (Option.some.inj e))).trans h.b3.out⟩, ho, h.mk_.same (fun D hD => hg.block D (h.mk_.lt hD) (fun e => nD D hD (Option.some.inj e))),
    ⟨⟨hg.os.trans h.hb.out.os, hg.tape.trans h.hb.out.tape, hg.output.trans h.hb.out.output, Nat.le_trans h.hb.out.size hg.size, fun k hk => (hg.block k (Nat.lt_of_lt_of_le hk h.hb.out.size) (fun e => by have := Option.some.inj e; have := h.bb; omega)).trans (h.hb.out.block k hk)⟩⟩, h.bb, Nat.le_trans h.sz hg.size⟩
theorem EnI.mark (h : EnI s w b g1 g3 m nn D Ds W) {d : Nat} (h1 : w.heap.size ≤ d) (h2 : W.heap[d]? = some (.deferred (some []))) (h3 : d ∉ Ds) : EnI s w b g1 g3 m nn D (d :: Ds) W :=
  ⟨h.b1, h.b3, h.own, h.mk_.cons h1 h2 h3, h.hb, h.bb, h.sz⟩
end
theorem spW_len8 (W : Nat → Bool) : ∀ (m : Nat) (o : Option Nat) (p : Nat), (spW W m o p).length ≤ m + 1
  | 0, o, p => by cases o <;> simp [spW]
  | m + 1, o, p => by
    simp only [spW]
    split
    · have := spW_len8 W m (some (o.getD p)) (p + 1)
      omega
    · have := spW_len8 W m none (p + 1)
      rw [List.length_append]
      cases o <;> simp <;> omega
theorem texts_len8 (s : ByteArray) : (textsL s).length ≤ s.size + 1 := by
  have h1 : ∀ (ps : List Nat) (st : List (Nat × Nat) × Option Nat), (ps.foldl stepQ st).1.length ≤ st.1.length + ps.length := fun ps => by
    induction ps with
    | nil => exact fun st => Nat.le_refl _
    | cons p ps ih =>
      intro st
      rw [List.foldl_cons, List.length_cons]
      have h2 := ih (stepQ st p)
      have h3 : (stepQ st p).1.length ≤ st.1.length + 1 := by
        unfold stepQ
        split
        · exact Nat.le_succ _
        · simp
      omega
  have h2 := h1 (marksP s) ([], none)
  have h3 : (marksP s).length ≤ s.size := by
    unfold marksP
    have := List.length_filter_le (mkq s) (List.range s.size)
    rwa [List.length_range] at this
  have h4 : (textsL s).length ≤ (foldT (marksP s)).1.length + 1 := by
    unfold textsL endT
    split <;> simp
  unfold foldT at h4
  simp only [List.length_nil, Nat.zero_add] at h2
  omega
theorem keysT_snoc (s : ByteArray) (l : List (Nat × Nat)) (x : Nat × Nat) : keysT s (l ++ [x]) = if x.2 < s.size then keysT s l ++ [(x.1 - 1, x.2 + 1)] else keysT s l := by
  unfold keysT
  rw [List.filter_append, List.map_append]
  by_cases h : x.2 < s.size
  · rw [if_pos h]
    simp [h]
  · rw [if_neg h]
    simp [h]
theorem wf_small {z : Int} (h0 : 0 ≤ z) (h1 : z ≤ 1125899906842624) : (Lit.int .i64 z).wf = true := WalkArith.wf_i64 (by omega)
theorem keepsFrom_map {W W' : World} {b B : Nat} (hg : W.grownBy W' (some b)) (hb : b < B) : KeepsFrom B W W' :=
  ⟨hg.size, fun k o hk hs _ => (hg.block k (Array.getElem?_eq_some_iff.1 hs).1 (fun e => by have := Option.some.inj e; omega)).trans hs⟩
theorem sub_one {z : Int} (h0 : 1 ≤ z) (h1 : z ≤ 1125899906842624) : wrap64 (z - 1) = z - 1 := by unfold wrap64; omega
theorem add_one {z : Int} (h0 : 0 ≤ z) (h1 : z ≤ 1125899906842624) : wrap64 (z + 1) = z + 1 := by unfold wrap64; omega
set_option maxHeartbeats 4000000 in
set_option maxRecDepth 100000 in
theorem stream_ends.walk (s : ByteArray) (hs : s.size ≤ 1048576) (w : World) (hT : TabOk w) :
    Calls Tryd.prog 25 #[.string s] w fun e w' => ∃ b nn : Nat, e = .returned (.map (some b)) ∧ w'.ownsMap Tryd.prog 3 (plainElem Tryd.prog 3) b nn (mapD (keysM s)) ∧ w.heap.size ≤ b ∧ Below w.heap.size w w' := by
  obtain ⟨F, hF⟩ : ∃ F, F = Fence.wide := ⟨_, rfl⟩
  have HF := Aside0.mk hF
  refine (callsIn_wide (n := 9)).1 ?_
  rw [← hF]
  clear hF
  have hro := wide_round HF
  have HB := BelowH.refl w
  have f1 := wide_fn HF 35
  have f2 := wide_fn HF 45
  have f3 := wide_fn HF 36
  have f4 := wide_fn HF 48
  have HT := Aside0.mk hT
  have HS := Aside0.mk hs
  have LW : Aside0 ((spansW s).length ≤ 1048577) := ⟨by have := spW_len8 (wrdQ s) s.size none 0; unfold spansW; omega⟩
  have LX : Aside0 ((textsL s).length ≤ 1048577) := ⟨by have := texts_len8 s; omega⟩
  clear hT hs
  refine callsIn_of_wp_marks Tryd.func25 rfl (wide_fn HF _) ?_ hro
  simp only [Tryd.ntmps25, List.size_toArray, List.length_cons, List.length_nil, Nat.reduceAdd, Nat.reduceSub, Array.replicate_succ, Array.replicate_zero, List.push_toArray, List.append_toArray, List.nil_append, List.cons_append]
  gi_upto_region 2 with (first
    | ((with_reducible refine gate_dstIn (N := 1) rfl ?_); refine ev_allocIn HB rfl rfl (#[.string s]) 9 ?hr ?_; (case hr => first | (go_simp; done) | (go_simp; rfl)); intro g1 w1 G_g1 GE_g1 B_g1 HBn K_g1 KO_w1; clear HB; have HB := HBn; clear HBn)
    | ((with_reducible refine gate_dstIn (N := 6) rfl ?_); refine ev_makeMapIn HB rfl 56 rfl 3 (plainElem Tryd.prog 3) ?_; intro b w2 G_b hown HBn K_b KO_w2; clear HB; have HB := HBn; clear HBn)
    | ((with_reducible refine gate_dstIn (N := 3) rfl ?_); refine ev_allocIn HB rfl rfl (#[.map none]) 56 ?hr ?_; (case hr => first | (go_simp; done) | (go_simp; rfl)); intro g3 w3 G_g3 GE_g3 B_g3 HBn K_g3 KO_w3; clear HB; have HB := HBn; clear HBn)
    | ((with_reducible refine gate_In (Op.store 56 (.tmp 3) (.tmp 6)) rfl ?_); refine ev_store1In (i := 0) HB B_g3 GE_g3 rfl 56 _ _ rfl rfl (.map (some b)) rfl (by simp) (by kernel_rfl) rfl ?_; intro w4 B4 HBn K_w4 KO_w4; clear HB; have HB := HBn; clear HBn))
  have B1 := ((B_g1.below K_b.out).below K_g3.out).other K_w4 (by have := B_g1.lt; have := K_b.out.size; have := G_g3.out; omega)
  have O4 : w4.ownsMap Tryd.prog 3 (plainElem Tryd.prog 3) b 0 (mapD []) := ownsMap_same (ownsMap_same hown (K_g3.out.block b hown.lt)) (K_w4.out.2 b (by have := hown.lt; have := G_g3.out; omega))
  have I4 : Aside0 (EnI s w b g1 g3 w4.heap.size 0 (mapD []) [] w4) := ⟨⟨B1, B4, O4, Marks.nil, HB, ⟨by have := G_b.out; have := K_g1.out.size; omega, O4.lt⟩, Nat.le_refl _⟩⟩
  have c1 := B1.cell (i := 0) rfl
  clear HB B_g1 B_g3 B4 B1 O4 hown K_b K_g1 K_g3 K_w4 KO_w1 KO_w2 KO_w3 KO_w4 G_b G_g1 G_g3 GE_g1 GE_g3
  gi_wp2_with (first
    | (gi_at_call 35; refine (callsIn_of HF (marks_Words.calls s _)).mono ?_; rintro e wA ⟨h1, rfl, GEh, A1, HBA⟩))
  have IA := I4.out.below HBA.out (m' := wA.heap.size) (by have := I4.out.bb; have := HBA.le; omega) (Nat.le_refl _)
  have TA := HT.out.stepH IA.hb
  have P0 := TA.pos
  have LH1 := A1.lt
  have PM : Aside0 (g1 < wA.heap.size ∧ g3 < wA.heap.size ∧ b ≠ h1 ∧ b ≠ 0 ∧ w.heap.size ≤ wA.heap.size) := ⟨⟨IA.b1.lt, IA.b3.lt, by have := I4.out.bb; omega, by have := I4.out.bb; have := HT.out.pos; omega, IA.hb.le⟩⟩
  clear c1 I4 HBA GEh
  refine wpIn_rangeFunc_O hro (by decide) (gf := 45) (lb := #[.pointer (some ⟨h1, 0, none⟩)]) rfl f2 (enters_of Tryd.func45 (by kernel_rfl) rfl)
    (marks_Words_1.stops F HF (9 - 1) (by decide) h1 s (by have := HS.out; omega) wA A1 TA) Keep2.trans (fun W l o o' hl ho hc hw => Keep2.putObj P0 LH1 W l o o' hl ho hc hw) (Below.refl _ _) (fun _ => rfl)
    (fun _ pre => EnI s w b g1 g3 wA.heap.size pre.length (mapD pre) []) (fun _ _ _ => False)
    (fun _ pre A B row hs hg hr => hs.kept (fun D hD => (List.not_mem_nil hD).elim) hg hr)
    (fun _ _ _ _ _ hs _ _ => hs)
    (fun X pre A k h hk => h)
    (fun X pre A C hX h ht => h.turned hX (fun D hD => (List.not_mem_nil hD).elim) PM.out.1 PM.out.2.1 ht)
    IA
    (fun x a' W => ∃ (gb : Nat) (z1 z2 : Int), wA.heap.size ≤ gb ∧ Aside0 (z1 = ((x.1 : Nat) : Int) ∧ z2 = ((x.2 : Nat) : Int)) ∧ Blk W gb #[.int .i64 z1, .int .i64 z2] 36 ∧ a' = { tmps := #[.string s, .pointer (some ⟨g1, 0, none⟩), .map none, .pointer (some ⟨g3, 0, none⟩), .pointer (some ⟨gb, 0, none⟩), undef, .map (some b), .string s, .func (.func 45) #[] #[.pointer (some ⟨h1, 0, none⟩)], .agg #[.int .i64 z1, .int .i64 z2], undef, undef, undef, undef, undef, undef, undef, undef, undef, undef, undef, undef, undef, undef, undef, undef, undef, undef, undef, undef, undef], defers := [] })
    (fun x a' pre A B row hs hg hr => by
      obtain ⟨gb, z1, z2, h1, h0, h2, h3⟩ := hs
      exact ⟨gb, z1, z2, h1, h0, h2.kept hg (fun r e => (hr r e).2), h3⟩)
    ?assign ?body ?done ?stop
  case assign =>
    intro X l pre x W K hX hI hsp hK
    have HB := hI.hb
    have HXA := Aside0.mk hX
    have HI := Aside0.mk hI
    clear hX hsp hI
    have hz : ∀ t : Array Value, (((#[9] : Array Tmp).zip (wEnc x)).foldl (fun t (p, v) => t.setIfInBounds p v) t) = t.setIfInBounds 9 (.agg #[.int .i64 ((x.1 : Nat) : Int), .int .i64 ((x.2 : Nat) : Int)]) := fun t => by simp [wEnc]
    rw [hz]
    simp only [List.setIfInBounds_toArray, List.set_cons_succ, List.set_cons_zero]
    clear hz
    obtain ⟨z1, hz1⟩ : ∃ z : Int, z = ((x.1 : Nat) : Int) := ⟨_, rfl⟩
    obtain ⟨z2, hz2⟩ : ∃ z : Int, z = ((x.2 : Nat) : Int) := ⟨_, rfl⟩
    rw [← hz1, ← hz2]
    have HZ := Aside0.mk (And.intro hz1 hz2)
    clear hz1 hz2
    gi_wp2_with (first
      | ((with_reducible refine gate_dstIn (N := 4) rfl ?_); refine ev_allocIn HB rfl rfl (#[.int .i64 0, .int .i64 0]) 36 ?hr ?_; (case hr => first | (go_simp; done) | (go_simp; rfl)); intro gb wB G_gb GE_gb B_gb HBn K_gb KO_wB; clear HB; have HB := HBn; clear HBn)
      | ((with_reducible refine gate_In (Op.store 36 (.tmp 4) (.tmp 9)) rfl ?_); refine ev_storeIn HB B_gb GE_gb rfl 36 _ _ rfl rfl rfl (by kernel_rfl) rfl (by simp [Value.oneCell']) ?_; intro wC B9 HBn K_wC KO_wC; clear HB; have HB := HBn; clear HBn))
    have hKO := KO_wB.out.trans KO_wC.out
    have NGB : ∀ g, g < W.heap.size → g ≠ gb := fun g h => by have := G_gb.out; omega
    have same : ∀ g, g < W.heap.size → wC.heap[g]? = W.heap[g]? := fun g h => (K_wC.out.2 g (NGB g h)).trans (K_gb.out.block g h)
    have Z := HI.out.sz
    have h := HI.out
    refine hK _ _ (hKO.from _) (fun k hk => same k (HXA.out k hk).2) ⟨same 0 (by omega), same h1 (by omega), Nat.le_trans K_gb.out.size K_wC.out.1⟩ ?_ ⟨gb, z1, z2, Nat.le_trans Z G_gb.out, HZ, B9, rfl⟩
    exact ⟨⟨(same g1 h.b1.lt).trans h.b1.out⟩, ⟨(same g3 h.b3.lt).trans h.b3.out⟩, ownsMap_same h.own (same b h.own.lt), h.mk_.same (fun D hD => same D (h.mk_.lt hD)), HB, h.bb, Nat.le_trans Z (Nat.le_trans K_gb.out.size K_wC.out.1)⟩
  case body =>
    rintro X l pre x a' W hX hl ⟨r, hr⟩ hI ⟨gb, z1, z2, hgb, HZ, BX, rfl⟩ hsp
    have HXA := Aside0.mk hX
    have HI := Aside0.mk hI
    have c3 := hI.b3.cell (i := 0) rfl
    have cx0 := BX.cell (i := 0) rfl
    have cx1 := BX.cell (i := 1) rfl
    have hmem := spans_mem (hsp.subset (List.mem_append_right _ (List.mem_singleton.2 rfl)))
    have hlen := hsp.length_le
    rw [List.length_append, List.length_singleton] at hlen
    have hown := hI.own
    have hnn : pre.length < maxLen := by have := LW.out; unfold maxLen; omega
    have w1_ : (Lit.int .i64 z1).wf = true := wf_small (by rw [HZ.out.1]; omega) (by rw [HZ.out.1]; have := HS.out; omega)
    have w2_ : (Lit.int .i64 z2).wf = true := wf_small (by rw [HZ.out.2]; omega) (by rw [HZ.out.2]; have := HS.out; omega)
    have HWF := Aside0.mk (And.intro w1_ (And.intro w2_ hnn))
    clear hX hl hr hI hsp hmem hlen w1_ w2_ hnn
    gi_wp2_with (first
      | (gi_at_mapUpdate; refine wpListIn_mapUpdate_own _ rfl _ _ _ 56 rfl 3 3 lawInt Tryd.underlying56 _ b pre.length _ rfl hown HWF.out.2.2 _ _ _ rfl rfl (keyOf_int_mk Tryd.underlying3 HWF.out.1) _ [] (plainElem_int Tryd.underlying3 HWF.out.2.1) ?_; intro w5 hown5 hgrow5))
    have I5 := HI.out.put hown5 hgrow5
    have q := PM.out
    have z := HI.out.bb
    refine ⟨keepsFrom_map hgrow5 z.2, fun k hk => hgrow5.block k (HXA.out k hk).2 (fun e => by have := Option.some.inj e; have := (HXA.out k hk).1; omega), ⟨hgrow5.block 0 (by have := HI.out.sz; omega) (fun e => q.2.2.2.1 (Option.some.inj e).symm), hgrow5.block h1 (by have := HI.out.sz; omega) (fun e => q.2.2.1 (Option.some.inj e).symm), hgrow5.size⟩, ?_⟩
    dsimp only
    rw [mapD_snoc, List.length_append, List.length_singleton, ← HZ.out.1, ← HZ.out.2]
    exact I5
  case done =>
    rintro D X ys W hD hX rfl hI hK
    have hDw : w.heap.size ≤ D := Nat.le_trans PM.out.2.2.2.2 hD
    have I6 := Aside0.mk (hI.mark hDw hK (List.not_mem_nil))
    have c1 := hI.b1.cell (i := 0) rfl
    clear hX hI hK IA TA P0 LH1 A1 hDw
    gi_wp2_with (first
      | (gi_at_call 36; refine (callsIn_of HF (quotes_Texts.calls s _ (by have := HS.out; omega))).mono ?_; rintro e wE ⟨j3, j1, rfl, hO⟩))
    have IE := I6.out.below hO.hb.out (m' := wE.heap.size) (by have := I6.out.bb; have := I6.out.sz; have := hO.hb.le; omega) (Nat.le_refl _)
    have TE := HT.out.stepH IE.hb
    obtain ⟨A, cap, hB3, hC, hcap⟩ := hO.out
    have hb1 := hO.b1
    have P0 := TE.pos
    have LJ1 := hb1.lt
    have PE : Aside0 ((g1 < wE.heap.size ∧ g3 < wE.heap.size) ∧ b ≠ j1 ∧ b ≠ 0 ∧ D < wE.heap.size) := ⟨⟨⟨IE.b1.lt, IE.b3.lt⟩, ownsMap_ne IE.own hb1 |>.symm, PM.out.2.2.2.1, IE.mk_.lt (List.mem_cons_self ..)⟩⟩
    have HDs : Aside0 (∀ d ∈ [D], d < wE.heap.size) := ⟨fun d hd => by rw [List.mem_singleton.1 hd]; exact PE.out.2.2.2⟩
    clear c1 I6 hO
    refine wpIn_rangeFunc_O hro (by decide) (gf := 48) (lb := #[.pointer (some ⟨j3, 0, none⟩), .pointer (some ⟨j1, 0, none⟩)]) rfl f4 (enters_of Tryd.func48 (by kernel_rfl) rfl)
      (quotes_Texts_1.stops F HF (9 - 1) (by decide) j3 j1 s (by have := HS.out; omega) A cap wE hB3 hC hcap hb1 TE) Keep2.trans (fun W l o o' hl ho hc hw => Keep2.putObj P0 LJ1 W l o o' hl ho hc hw) (Below.refl _ _) (fun _ => rfl)
      (fun _ pre => EnI s w b g1 g3 wE.heap.size ((spansW s).length + pre.length) (mapD (spansW s ++ keysT s pre)) [D]) (fun _ _ _ => False)
      (fun _ pre A B row hs hg hr => hs.kept HDs.out hg hr)
      (fun _ _ _ _ _ hs _ _ => hs)
      (fun X pre A k h hk => h)
      (fun X pre A C hX h ht => h.turned hX HDs.out PE.out.1.1 PE.out.1.2 ht)
      (by
        have e : keysT s [] = [] := rfl
        rw [e, List.append_nil]
        exact IE)
      (fun x a' W => ∃ (gb : Nat) (z1 z2 : Int), wE.heap.size ≤ gb ∧ Aside0 (z1 = ((x.1 : Nat) : Int) ∧ z2 = ((x.2 : Nat) : Int)) ∧ Blk W gb #[.int .i64 z1, .int .i64 z2] 36 ∧ ∃ u4 u9 : Value, a' = { tmps := #[.string s, .pointer (some ⟨g1, 0, none⟩), .map none, .pointer (some ⟨g3, 0, none⟩), u4, .pointer (some ⟨gb, 0, none⟩), .map (some b), .string s, .func (.func 45) #[] #[.pointer (some ⟨h1, 0, none⟩)], u9, undef, undef, undef, undef, undef, .string s, .func (.func 48) #[] #[.pointer (some ⟨j3, 0, none⟩), .pointer (some ⟨j1, 0, none⟩)], .agg #[.int .i64 z1, .int .i64 z2], undef, undef, undef, undef, undef, undef, undef, undef, undef, undef, undef, undef, undef], defers := [] })
      (fun x a' pre A B row hs hg hr => by
        obtain ⟨gb, z1, z2, h1, h0, h2, h3⟩ := hs
        exact ⟨gb, z1, z2, h1, h0, h2.kept hg (fun r e => (hr r e).2), h3⟩)
      ?assign2 ?body2 ?done2 ?stop2
    case assign2 =>
      intro X' l pre x W' K hX hI hsp hK
      have HB := hI.hb
      have HXA := Aside0.mk hX
      have HI := Aside0.mk hI
      clear hX hsp hI
      have hz : ∀ t : Array Value, (((#[17] : Array Tmp).zip (spanEnc x)).foldl (fun t (p, v) => t.setIfInBounds p v) t) = t.setIfInBounds 17 (.agg #[.int .i64 ((x.1 : Nat) : Int), .int .i64 ((x.2 : Nat) : Int)]) := fun t => by simp [spanEnc]
      rw [hz]
      simp only [List.setIfInBounds_toArray, List.set_cons_succ, List.set_cons_zero]
      clear hz
      obtain ⟨z1, hz1⟩ : ∃ z : Int, z = ((x.1 : Nat) : Int) := ⟨_, rfl⟩
      obtain ⟨z2, hz2⟩ : ∃ z : Int, z = ((x.2 : Nat) : Int) := ⟨_, rfl⟩
      rw [← hz1, ← hz2]
      have HZ := Aside0.mk (And.intro hz1 hz2)
      clear hz1 hz2
      gi_wp2_with (first
        | ((with_reducible refine gate_dstIn (N := 5) rfl ?_); refine ev_allocIn HB rfl rfl (#[.int .i64 0, .int .i64 0]) 36 ?hr ?_; (case hr => first | (go_simp; done) | (go_simp; rfl)); intro gb wB G_gb GE_gb B_gb HBn K_gb KO_wB; clear HB; have HB := HBn; clear HBn)
        | ((with_reducible refine gate_In (Op.store 36 (.tmp 5) (.tmp 17)) rfl ?_); refine ev_storeIn HB B_gb GE_gb rfl 36 _ _ rfl rfl rfl (by kernel_rfl) rfl (by simp [Value.oneCell']) ?_; intro wC B9 HBn K_wC KO_wC; clear HB; have HB := HBn; clear HBn))
      have hKO := KO_wB.out.trans KO_wC.out
      have NGB : ∀ g, g < W'.heap.size → g ≠ gb := fun g h => by have := G_gb.out; omega
      have same : ∀ g, g < W'.heap.size → wC.heap[g]? = W'.heap[g]? := fun g h => (K_wC.out.2 g (NGB g h)).trans (K_gb.out.block g h)
      have Z := HI.out.sz
      have h := HI.out
      refine hK _ _ (hKO.from _) (fun k hk => same k (HXA.out k hk).2) ⟨same 0 (by omega), same j1 (by omega), Nat.le_trans K_gb.out.size K_wC.out.1⟩ ?_ ⟨gb, z1, z2, Nat.le_trans Z G_gb.out, HZ, B9, _, _, rfl⟩
      exact ⟨⟨(same g1 h.b1.lt).trans h.b1.out⟩, ⟨(same g3 h.b3.lt).trans h.b3.out⟩, ownsMap_same h.own (same b h.own.lt), h.mk_.same (fun D hD => same D (h.mk_.lt hD)), HB, h.bb, Nat.le_trans Z (Nat.le_trans K_gb.out.size K_wC.out.1)⟩
    case body2 =>
      rintro X' l pre x a' W' hX hl ⟨r, hr⟩ hI ⟨gb, z1, z2, hgb, HZ, BX, u4, u9, rfl⟩ hsp
      have HXA := Aside0.mk hX
      have HI := Aside0.mk hI
      have c3 := hI.b3.cell (i := 0) rfl
      have c1 := hI.b1.cell (i := 0) rfl
      have cx0 := BX.cell (i := 0) rfl
      have cx1 := BX.cell (i := 1) rfl
      obtain ⟨a0, ok⟩ := texts_mem (hsp.subset (List.mem_append_right _ (List.mem_singleton.2 rfl)))
      have hlo := ok.lo
      have hle := ok.le
      have hhi := ok.hi
      have hlen := hsp.length_le
      rw [List.length_append, List.length_singleton] at hlen
      have hown := hI.own
      have hnn : (spansW s).length + pre.length < maxLen := by have := LW.out; have := LX.out; unfold maxLen; omega
      have hs8 := HS.out
      have hq1 : wrap64 (z1 - 1) = z1 - 1 := sub_one (by rw [HZ.out.1]; omega) (by rw [HZ.out.1]; omega)
      have hq2 : wrap64 (z2 + 1) = z2 + 1 := add_one (by rw [HZ.out.2]; omega) (by rw [HZ.out.2]; omega)
      have w1_ : (Lit.int .i64 (z1 - 1)).wf = true := wf_small (by rw [HZ.out.1]; omega) (by rw [HZ.out.1]; omega)
      have w2_ : (Lit.int .i64 (z2 + 1)).wf = true := wf_small (by rw [HZ.out.2]; omega) (by rw [HZ.out.2]; omega)
      have HWF := Aside0.mk (And.intro w1_ (And.intro w2_ hnn))
      have HEQ : Aside0 (z1 - 1 = (((x.1 - 1 : Nat)) : Int) ∧ z2 + 1 = ((x.2 + 1 : Nat) : Int)) := ⟨by rw [HZ.out.1, HZ.out.2]; omega⟩
      by_cases hlt : x.2 < s.size
      · have hd : decide (z2 < (s.size : Int)) = true := decide_eq_true (by rw [HZ.out.2]; omega)
        have HKT : Aside0 (keysT s (pre ++ [x]) = keysT s pre ++ [(x.1 - 1, x.2 + 1)]) := ⟨by rw [keysT_snoc, if_pos hlt]⟩
        clear hX hl hr hI hsp hlo hle hhi hlen w1_ w2_ hnn hs8 ok hlt
        gi_wp2_with (first
          | (gi_at_mapUpdate; refine wpListIn_mapUpdate_own _ rfl _ _ _ 56 rfl 3 3 lawInt Tryd.underlying56 _ b _ _ rfl hown HWF.out.2.2 _ _ _ rfl rfl (by first | exact keyOf_int_mk Tryd.underlying3 HWF.out.1 | (rw [hq1]; exact keyOf_int_mk Tryd.underlying3 HWF.out.1)) _ [] (by first | exact plainElem_int Tryd.underlying3 HWF.out.2.1 | (rw [hq2]; exact plainElem_int Tryd.underlying3 HWF.out.2.1)) ?_; intro w5 hown5 hgrow5))
        have I5 := HI.out.put hown5 hgrow5
        have q := PE.out
        have z := HI.out.bb
        refine ⟨keepsFrom_map hgrow5 z.2, fun k hk => hgrow5.block k (HXA.out k hk).2 (fun e => by have := Option.some.inj e; have := (HXA.out k hk).1; omega), ⟨hgrow5.block 0 (by have := HI.out.sz; omega) (fun e => q.2.2.1 (Option.some.inj e).symm), hgrow5.block j1 (by have := HI.out.sz; omega) (fun e => q.2.1 (Option.some.inj e).symm), hgrow5.size⟩, ?_⟩
        dsimp only
        rw [HKT.out, ← List.append_assoc, mapD_snoc, List.length_append, List.length_singleton, ← Nat.add_assoc]
        rw [← HEQ.out.1, ← HEQ.out.2]
        exact I5
      · have hd : decide (z2 < (s.size : Int)) = false := decide_eq_false (by rw [HZ.out.2]; omega)
        have HKT : Aside0 (keysT s (pre ++ [x]) = keysT s pre) := ⟨by rw [keysT_snoc, if_neg hlt]⟩
        clear hX hl hr hI hsp hlo hle hhi hlen w1_ w2_ hnn hs8 ok hlt
        gi_wp2
        refine ⟨(KeepsOthers.refl _).from _, fun _ _ => rfl, ⟨rfl, rfl, Nat.le_refl _⟩, ?_⟩
        dsimp only
        rw [HKT.out, List.length_append, List.length_singleton, ← Nat.add_assoc]
        have h := HI.out
        exact ⟨h.b1, h.b3, h.own.mono (Nat.le_succ _), h.mk_, h.hb, h.bb, h.sz⟩
    case done2 =>
      rintro D2 X' ys W' hD2 hX2 rfl hI hK2
      have c3 := hI.b3.cell (i := 0) rfl
      have hm := hI.mark (Nat.le_trans IE.hb.le hD2) hK2 (by rw [List.mem_singleton]; have := PE.out.2.2.2; omega)
      have HI := Aside0.mk hm
      clear hX2 hK2 hI hm hD2
      gi_wp2
      refine leaves_marksS (S := fun A => A.ownsMap Tryd.prog 3 (plainElem Tryd.prog 3) b ((spansW s).length + (textsL s).length) (mapD (keysM s)) ∧ BelowH w A) (fun A D' hs h1 h2 => ?_) [D2, D] W' ⟨HI.out.own, HI.out.hb⟩ HI.out.mk_ fun A hA => ⟨_, results_tmp rfl _ _ _, b, _, rfl, hA.1, HI.out.bb.1, hA.2.out⟩
      have hg := grownBy_putObj' A D' (.deferred none)
      refine ⟨hs.1.kept hg (fun e => ?_), hs.2.kept hg h1 (fun r e => by cases e; exact Nat.le_refl _)⟩
      obtain ⟨es, clock, hb, _⟩ := hs.1
      have e' := Option.some.inj e
      rw [← e', hb] at h2
      cases h2
    case stop2 =>
      intro D c pre W hD hp hf
      exact hf.elim
  case stop =>
    intro D c pre W hD hp hf
    exact hf.elim
end


def marks_rows_starts.f (a0_0 : Int) (a0_1 : Int) (a0_2 : Int) (a0_3 : Int) (a1 : Bool) : Option (Int) := if a1 = true then (some (Go.bits .andNot .u64 a0_3 (Go.bits .or .u64 (IntKind.u64.wrap (a0_3 * 2)) 1))) else (some (Go.bits .andNot .u64 a0_3 (IntKind.u64.wrap (a0_3 * 2))))
set_option maxHeartbeats 8000000 in
set_option maxRecDepth 100000 in
theorem marks_rows_starts.calls (a0_0 : Int) (a0_1 : Int) (a0_2 : Int) (a0_3 : Int) (a1 : Bool) (r : Int) (w : World) (h : marks_rows_starts.f a0_0 a0_1 a0_2 a0_3 a1 = some r) :
    Calls Tryd.prog 39 #[.agg #[.int .u64 a0_0, .int .u64 a0_1, .int .u64 a0_2, .int .u64 a0_3], .bool a1] w fun e w' => e = .returned (.int .u64 r) ∧ Below w.heap.size w w' := by
  have hu81 := Tryd.underlying81
  have HB := Aside0.mk (Below.refl w.heap.size w)
  have H : (if a1 = true then (some (Go.bits .andNot .u64 a0_3 (Go.bits .or .u64 (IntKind.u64.wrap (a0_3 * 2)) 1))) else (some (Go.bits .andNot .u64 a0_3 (IntKind.u64.wrap (a0_3 * 2))))) = some r := h
  clear h
  by_cases c3 : a1 = true
  · subst c3
    have H1 : (some (Go.bits .andNot .u64 a0_3 (Go.bits .or .u64 (IntKind.u64.wrap (a0_3 * 2)) 1))) = some r := by rw [if_pos rfl] at H; exact H
    clear H
    have H := H1
    clear H1
    obtain rfl := Option.some.inj H
    go_enter Tryd.func39, Tryd.ntmps39
    go_wp2_with (first | ((with_reducible refine gate_dst (N := 2) rfl ?_); refine box_event ?hg (N := 2) ?hd (cs := #[.int .u64 a0_0, .int .u64 a0_1, .int .u64 a0_2, .int .u64 a0_3]) (t := 81) ?hr ?_; (case hd => rfl); (case hg => rfl); (case hr => first | (go_simp; done) | (go_simp; rfl)); intro gb105 hg w4 hbox hb; have n0_ := Aside0.mk (below_step (by repeat (first | (with_reducible first | exact HB.out | apply below_alloc | apply pw_below_drewN | apply below_drew1) | exact HB.out)) hb); have n1_ := Aside0.mk (hbox); have n2_ := Aside0.mk ((by rw [hg]; exact (below_size (by repeat (first | (with_reducible first | exact HB.out | apply below_alloc | apply pw_below_drewN | apply below_drew1) | exact HB.out))) : w.heap.size ≤ gb105)); have n3_ := Aside0.mk ((by rw [hg]; exact (below_size (by repeat (first | (with_reducible first | exact HB.out | apply below_alloc | apply pw_below_drewN | apply below_drew1) | exact HB.out))) : w.heap.size ≤ gb105)); clear HB; have HB := n0_; have BK105 := n1_; have GW105 := n2_; have GE105 := n3_; clear n0_ n1_ n2_ n3_; clear hb hbox hg; have hcz5_0 : w4.cell? ⟨gb105, 0, none⟩ = some (.int .u64 a0_0) := (blk_cell BK105.out 0).trans rfl; have hcz5_1 : w4.cell? ⟨gb105, 1, none⟩ = some (.int .u64 a0_1) := (blk_cell BK105.out 1).trans rfl; have hcz5_2 : w4.cell? ⟨gb105, 2, none⟩ = some (.int .u64 a0_2) := (blk_cell BK105.out 2).trans rfl; have hcz5_3 : w4.cell? ⟨gb105, 3, none⟩ = some (.int .u64 a0_3) := (blk_cell BK105.out 3).trans rfl; have hfz5_0 := blk_frozen BK105.out 0; have hfz5_1 := blk_frozen BK105.out 1; have hfz5_2 := blk_frozen BK105.out 2; have hfz5_3 := blk_frozen BK105.out 3))
    go_ret
    exact ⟨by first | rfl | (simp [errW_none, errW_some] <;> rfl) | (simp [*, errW_none, errW_some] <;> rfl), by repeat (first | (with_reducible first | exact HB.out | apply below_alloc | apply pw_below_drewN | apply below_drew1 | refine below_set ?_ GE105.out) | exact HB.out)⟩
  · replace c3 := Bool.eq_false_iff.mpr c3
    subst c3
    have H1 : (some (Go.bits .andNot .u64 a0_3 (IntKind.u64.wrap (a0_3 * 2)))) = some r := by rw [if_neg (show ¬ (false = true) by decide)] at H; exact H
    clear H
    have H := H1
    clear H1
    obtain rfl := Option.some.inj H
    go_enter Tryd.func39, Tryd.ntmps39
    go_wp2_with (first | ((with_reducible refine gate_dst (N := 2) rfl ?_); refine box_event ?hg (N := 2) ?hd (cs := #[.int .u64 a0_0, .int .u64 a0_1, .int .u64 a0_2, .int .u64 a0_3]) (t := 81) ?hr ?_; (case hd => rfl); (case hg => rfl); (case hr => first | (go_simp; done) | (go_simp; rfl)); intro gb105 hg w6 hbox hb; have n0_ := Aside0.mk (below_step (by repeat (first | (with_reducible first | exact HB.out | apply below_alloc | apply pw_below_drewN | apply below_drew1) | exact HB.out)) hb); have n1_ := Aside0.mk (hbox); have n2_ := Aside0.mk ((by rw [hg]; exact (below_size (by repeat (first | (with_reducible first | exact HB.out | apply below_alloc | apply pw_below_drewN | apply below_drew1) | exact HB.out))) : w.heap.size ≤ gb105)); have n3_ := Aside0.mk ((by rw [hg]; exact (below_size (by repeat (first | (with_reducible first | exact HB.out | apply below_alloc | apply pw_below_drewN | apply below_drew1) | exact HB.out))) : w.heap.size ≤ gb105)); clear HB; have HB := n0_; have BK105 := n1_; have GW105 := n2_; have GE105 := n3_; clear n0_ n1_ n2_ n3_; clear hb hbox hg; have hcz7_0 : w6.cell? ⟨gb105, 0, none⟩ = some (.int .u64 a0_0) := (blk_cell BK105.out 0).trans rfl; have hcz7_1 : w6.cell? ⟨gb105, 1, none⟩ = some (.int .u64 a0_1) := (blk_cell BK105.out 1).trans rfl; have hcz7_2 : w6.cell? ⟨gb105, 2, none⟩ = some (.int .u64 a0_2) := (blk_cell BK105.out 2).trans rfl; have hcz7_3 : w6.cell? ⟨gb105, 3, none⟩ = some (.int .u64 a0_3) := (blk_cell BK105.out 3).trans rfl; have hfz7_0 := blk_frozen BK105.out 0; have hfz7_1 := blk_frozen BK105.out 1; have hfz7_2 := blk_frozen BK105.out 2; have hfz7_3 := blk_frozen BK105.out 3))
    go_ret
    exact ⟨by first | rfl | (simp [errW_none, errW_some] <;> rfl) | (simp [*, errW_none, errW_some] <;> rfl), by repeat (first | (with_reducible first | exact HB.out | apply below_alloc | apply pw_below_drewN | apply below_drew1 | refine below_set ?_ GE105.out) | exact HB.out)⟩

def marks_rows_ends.f (a0_0 : Int) (a0_1 : Int) (a0_2 : Int) (a0_3 : Int) : Option (Bool) := some ((a0_3 / 9223372036854775808) == 1)
set_option maxHeartbeats 8000000 in
set_option maxRecDepth 100000 in
theorem marks_rows_ends.calls (a0_0 : Int) (a0_1 : Int) (a0_2 : Int) (a0_3 : Int) (r : Bool) (w : World) (h : marks_rows_ends.f a0_0 a0_1 a0_2 a0_3 = some r) :
    Calls Tryd.prog 40 #[.agg #[.int .u64 a0_0, .int .u64 a0_1, .int .u64 a0_2, .int .u64 a0_3]] w fun e w' => e = .returned (.bool r) ∧ Below w.heap.size w w' := by
  have hu81 := Tryd.underlying81
  have HB := Aside0.mk (Below.refl w.heap.size w)
  have H : (some ((a0_3 / 9223372036854775808) == 1)) = some r := h
  clear h
  obtain rfl := Option.some.inj H
  go_enter Tryd.func40, Tryd.ntmps40
  go_wp2_with (first | ((with_reducible refine gate_dst (N := 1) rfl ?_); refine box_event ?hg (N := 1) ?hd (cs := #[.int .u64 a0_0, .int .u64 a0_1, .int .u64 a0_2, .int .u64 a0_3]) (t := 81) ?hr ?_; (case hd => rfl); (case hg => rfl); (case hr => first | (go_simp; done) | (go_simp; rfl)); intro gb106 hg w2 hbox hb; have n0_ := Aside0.mk (below_step (by repeat (first | (with_reducible first | exact HB.out | apply below_alloc | apply pw_below_drewN | apply below_drew1) | exact HB.out)) hb); have n1_ := Aside0.mk (hbox); have n2_ := Aside0.mk ((by rw [hg]; exact (below_size (by repeat (first | (with_reducible first | exact HB.out | apply below_alloc | apply pw_below_drewN | apply below_drew1) | exact HB.out))) : w.heap.size ≤ gb106)); have n3_ := Aside0.mk ((by rw [hg]; exact (below_size (by repeat (first | (with_reducible first | exact HB.out | apply below_alloc | apply pw_below_drewN | apply below_drew1) | exact HB.out))) : w.heap.size ≤ gb106)); clear HB; have HB := n0_; have BK106 := n1_; have GW106 := n2_; have GE106 := n3_; clear n0_ n1_ n2_ n3_; clear hb hbox hg; have hcz3_0 : w2.cell? ⟨gb106, 0, none⟩ = some (.int .u64 a0_0) := (blk_cell BK106.out 0).trans rfl; have hcz3_1 : w2.cell? ⟨gb106, 1, none⟩ = some (.int .u64 a0_1) := (blk_cell BK106.out 1).trans rfl; have hcz3_2 : w2.cell? ⟨gb106, 2, none⟩ = some (.int .u64 a0_2) := (blk_cell BK106.out 2).trans rfl; have hcz3_3 : w2.cell? ⟨gb106, 3, none⟩ = some (.int .u64 a0_3) := (blk_cell BK106.out 3).trans rfl; have hfz3_0 := blk_frozen BK106.out 0; have hfz3_1 := blk_frozen BK106.out 1; have hfz3_2 := blk_frozen BK106.out 2; have hfz3_3 := blk_frozen BK106.out 3))
  go_ret
  exact ⟨by first | rfl | (simp [errW_none, errW_some] <;> rfl) | (simp [*, errW_none, errW_some] <;> rfl), by repeat (first | (with_reducible first | exact HB.out | apply below_alloc | apply pw_below_drewN | apply below_drew1 | refine below_set ?_ GE106.out) | exact HB.out)⟩

section
open Go.Proofs.YtfihkkjkifkemaaDoorQ Go.Proofs.YtfihkkjkifkemaaDoorM Go.Shelf
attribute [local go_sem] Oper.semAt_some
/-- Where words begin in a block, as starts tells it. -/
theorem starts_word (s : ByteArray) (k : Nat) (x y z : Int) : marks_rows_starts.f x y z (iv (wordAt s.size (wdq s) k)) (carq s k) = some (iv (word (stW s k))) := by
  have e1 : IntKind.u64.wrap (iv (wordAt s.size (wdq s) k) * 2) = iv (wordAt s.size (wdq s) k <<< 1) := wrap_shl _ 1
  have e2 : (1 : Int) = iv 1#64 := rfl
  have h := st_word s k
  unfold marks_rows_starts.f
  cases hc : carq s k with
  | true =>
    rw [hc, if_pos rfl] at h
    rw [if_pos rfl, e1, e2, bits_or, bits_andNot, h]
  | false =>
    rw [hc, if_neg (by decide)] at h
    rw [if_neg (by decide), e1, bits_andNot, ← h]
    simp
theorem ends_word (s : ByteArray) (k : Nat) (a b c : Int) : marks_rows_ends.f a b c (iv (wordAt s.size (wdq s) k)) = some (decide (64 * k + 63 < s.size) && wdq s (64 * k + 63)) := by
  unfold marks_rows_ends.f wordAt
  rw [top_word]
  cases (decide (64 * k + 63 < s.size) && wdq s (64 * k + 63)) <;> rfl
/-- Between two places of one block. -/
structure IdxI (w : World) (g3 g5 g6 gr m : Nat) (r : List Value) (cur : Array Value) (k : Nat) (L0 : List Int) {q : Nat → Bool} (Ds : List Nat) (pre : List (SetP 64 q)) (W : World) : Prop where mk ::
  out : ∃ v, Blk W g3 #[v] 22 ∧ W.ownsRow w.heap.size 3 1 v (L0.length + pre.length) ((L0 ++ pre.map fun x => (64 * (k : Int) + ((x.val : Nat) : Int))).map (Value.int .i64)) ∧ v.ownBlock ≠ some g5
  b5 : Blk W g5 #[.int .i64 (k : Int)] 3
  b6 : Blk W g6 r.toArray 81
  br : Blk W gr cur 81
  ht : TabOk W
  mk_ : Marks w.heap.size Ds W
  hb : BelowH w W
  sz : m ≤ W.heap.size
theorem IdxI.kept {w : World} {g3 g5 g6 gr m : Nat} {r : List Value} {cur : Array Value} {k : Nat} {L0 : List Int} {q : Nat → Bool} {Ds : List Nat} {pre : List (SetP 64 q)} {W W' : World} (h : IdxI w g3 g5 g6 gr m r cur k L0 Ds pre W) (hm : w.heap.size ≤ m) (hD : ∀ D ∈ Ds, D < m) {row : Option Nat} (hg : W.grownBy W' row) (hr : ∀ r, row = some r → m ≤ r ∧ ∃ o : Obj, W.heap[r]? = some o ∧ o.isCells = false) : IdxI w g3 g5 g6 gr m r cur k L0 Ds pre W' := by
  have hr' : ∀ r, row = some r → ∃ o : Obj, W.heap[r]? = some o ∧ o.isCells = false := fun r e => (hr r e).2
  obtain ⟨v, b, ho, hn⟩ := h.out
  exact ⟨⟨v, b.kept hg hr', row_kept ho hg hr', hn⟩, h.b5.kept hg hr', h.b6.kept hg hr', h.br.kept hg hr', h.ht.kept hg hr', h.mk_.grown hg hD (fun r e => (hr r e).1), h.hb.kept hg hm (fun r e => (hr r e).1), Nat.le_trans h.sz hg.size⟩
theorem IdxI.below {w : World} {g3 g5 g6 gr m m' : Nat} {r : List Value} {cur : Array Value} {k : Nat} {L0 : List Int} {q : Nat → Bool} {Ds : List Nat} {pre : List (SetP 64 q)} {W W' : World} (h : IdxI w g3 g5 g6 gr m r cur k L0 Ds pre W) (hb : Below W.heap.size W W') (hm : m' ≤ W'.heap.size) : IdxI w g3 g5 g6 gr m' r cur k L0 Ds pre W' := by
  obtain ⟨v, b, ho, hn⟩ := h.out
  exact ⟨⟨v, b.below hb, row_below ho hb, hn⟩, h.b5.below hb, h.b6.below hb, h.br.below hb, h.ht.step hb, h.mk_.below hb, h.hb.step hb, hm⟩
theorem rows_get (s : ByteArray) (k j : Nat) (hj : j < 4) : ∀ n, k < n → ((List.range n).flatMap (rowN s))[k * 4 + j]? = (rowN s k)[j]?
  | 0, h => by omega
  | n + 1, h => by
    have hl : ∀ m, ((List.range m).flatMap (rowN s)).length = 4 * m := fun m => by
      induction m with
      | zero => rfl
      | succ m ih =>
        rw [List.range_succ, List.flatMap_append, List.length_append, ih]
        simp [rowN]
        omega
    rw [List.range_succ, List.flatMap_append]
    by_cases e : k = n
    · subst e
      rw [List.getElem?_append_right (by rw [hl]; omega), hl, show k * 4 + j - 4 * k = j by omega]
      simp
    · rw [List.getElem?_append_left (by rw [hl]; omega)]
      exact rows_get s k j hj n (by omega)
def marks_Index.f (a0 : ByteArray) : Option (List Int) := if a0.size ≤ 1099511627776 then some (idxL a0 a0.size) else none
set_option maxHeartbeats 4000000 in
set_option maxRecDepth 100000 in
theorem marks_Index.walk (s : ByteArray) (w : World) (hT : TabOk w) (hs : s.size ≤ 1099511627776) :
    Calls Tryd.prog 26 #[.string s] w fun e w' => ∃ v : Value, e = .returned v ∧ w'.ownsRow w.heap.size 3 1 v (idxL s s.size).length ((idxL s s.size).map (Value.int .i64)) ∧ Below w.heap.size w w' := by
  obtain ⟨F, hF⟩ : ∃ F, F = Fence.wide := ⟨_, rfl⟩
  have HF := Aside0.mk hF
  refine (callsIn_wide (n := 9)).1 ?_
  rw [← hF]
  clear hF
  have hro := wide_round HF
  have HB := BelowH.refl w
  have f1 := wide_fn HF 37
  have f2 := wide_fn HF 38
  have f3 := wide_fn HF 54
  have f4 := wide_fn HF 39
  have f5 := wide_fn HF 40
  have HS := Aside0.mk hs
  have HT := Aside0.mk hT
  have PW := Aside0.mk hT.pos
  obtain ⟨nw, hnw⟩ : ∃ nw, nw = nwords s.size := ⟨_, rfl⟩
  have HNW := Aside0.mk hnw
  have hnw1 : (nw : Int) ≤ 17179869184 := by rw [hnw]; unfold nwords; omega
  clear hs hnw hT
  refine callsIn_of_wp_marks Tryd.func26 rfl (wide_fn HF _) ?_ hro
  simp only [Tryd.ntmps26, List.size_toArray, List.length_cons, List.length_nil, Nat.reduceAdd, Nat.reduceSub, Array.replicate_succ, Array.replicate_zero, List.push_toArray, List.append_toArray, List.nil_append, List.cons_append]
  gi_upto_region 3 with (first
    | ((with_reducible refine gate_dstIn (N := 3) rfl ?_); refine ev_allocIn HB rfl rfl (#[.slice none 0 0]) 22 ?hr ?_; (case hr => first | (go_simp; done) | (go_simp; rfl)); intro g3 w3 G_g3 GE_g3 B_g3 HBn K_g3 KO_w3; clear HB; have HB := HBn; clear HBn))
  have hlk := marks_look.walk s w3 (by have := HS.out; omega)
  rw [← HNW.out] at hlk
  have LK := Aside0.mk hlk
  clear hlk
  gi_wp2_with (first
    | (gi_at_call 37; refine (callsIn_of HF LK.out).mono ?_; rintro e w4 ⟨v, rfl, hrow, hb4⟩; have HR4 := Aside0.mk hrow; have HB4 := HB.step hb4; have HK4 := Aside0.mk hb4; obtain ⟨ad, cp, rfl⟩ := own_slice hrow; clear hrow hb4))
  have hb := HB4
  have D3 := B_g3.below HK4.out
  have HT4 := Aside0.mk (HT.out.stepH HB4)
  have HO : Aside0 ((ad = none ∧ nw = 0) ∨ ∃ gr cur, ad = some ⟨gr, 0, none⟩ ∧ Blk w4 gr cur 81 ∧ ∀ k j, k < nw → j < 4 → cur[k * 4 + j]? = (rowN s k)[j]?) := ⟨by
    rcases row_openN HR4.out with ⟨h1, h2⟩ | ⟨gr, cap, cur, h1, h2, h3, h4⟩
    · injection h1 with h1
      exact .inl ⟨h1, h2⟩
    · injection h1 with h1
      refine .inr ⟨gr, cur, h1, h3, fun k j hk hj => ?_⟩
      have hg := rows_get s k j hj nw hk
      cases hx : (rowN s k)[j]? with
      | none => rw [List.getElem?_eq_none_iff] at hx; simp [rowN] at hx; omega
      | some u => rw [hx] at hg; exact h4 _ _ hg⟩
  obtain ⟨gr, cur, HO⟩ : ∃ gr cur, Aside0 ((ad = none ∧ nw = 0) ∨ (ad = some ⟨gr, 0, none⟩ ∧ Blk w4 gr cur 81 ∧ ∀ k j, k < nw → j < 4 → cur[k * 4 + j]? = (rowN s k)[j]?)) := by
    rcases HO.out with h | ⟨gr, cur, h⟩
    · exact ⟨0, #[], ⟨.inl h⟩⟩
    · exact ⟨gr, cur, ⟨.inr h⟩⟩
  have HGET : Aside0 (nw ≠ 0 → ad = some ⟨gr, 0, none⟩ ∧ ∀ k j, k < nw → j < 4 → cur[k * 4 + j]? = (rowN s k)[j]?) := ⟨fun h0 => by
    rcases HO.out with ⟨_, h⟩ | ⟨h1, _, h3⟩
    · exact absurd h h0
    · exact ⟨h1, h3⟩⟩
  have HBR : Aside0 (nw ≠ 0 → Blk w4 gr cur 81) := ⟨fun h0 => by
    rcases HO.out with ⟨_, h⟩ | ⟨_, h2, _⟩
    · exact absurd h h0
    · exact h2⟩
  clear HO hb LK HT B_g3 K_g3 KO_w3 HK4 HR4 HB G_g3
  refine wpIn_loopM (fun m a W => ∃ (k : Nat) (Ds : List Nat) (z11 : Int) (c4 : Bool) (u5 u6 u7 u12 u13 u14 u15 u16 u17 u18 u19 u20 u21 u22 u23 u24 u25 u26 u27 u28 u29 u30 u31 u32 u33 u34 u35 u36 u37 : Value), m = nw - k ∧ z11 = (k : Int) ∧ k ≤ nw ∧ a = { tmps := #[.string s, undef, .slice none 0 0, .pointer (some ⟨g3, 0, none⟩), .bool c4, u5, u6, u7, .string s, .slice ad nw cp, .int .i64 (nw : Int), .int .i64 z11, u12, u13, u14, u15, u16, u17, u18, u19, u20, u21, u22, u23, u24, u25, u26, u27, u28, u29, u30, u31, u32, u33, u34, u35, u36, u37], defers := marksD Ds } ∧
    Aside0 (k < nw → c4 = carq s k) ∧ Aside0 (∃ v, Blk W g3 #[v] 22 ∧ W.ownsRow w.heap.size 3 1 v (idxL s (64 * k)).length ((idxL s (64 * k)).map (Value.int .i64))) ∧ Aside0 (nw ≠ 0 → Blk W gr cur 81) ∧ Aside0 (TabOk W) ∧ Aside0 (Marks w.heap.size Ds W) ∧ BelowH w W) nw
    ⟨0, [], 0, false, _, _, _, _, _, _, _, _, _, _, _, _, _, _, _, _, _, _, _, _, _, _, _, _, _, _, _, _, _, rfl, rfl, Nat.zero_le _, rfl, ⟨fun _ => rfl⟩, ⟨_, D3, World.ownsRow_nil _ _ _ _⟩, HBR, HT4, ⟨Marks.nil⟩, HB4⟩ ?_
  rintro m a W ⟨k, Ds, z11, c4, u5, u6, u7, u12, u13, u14, u15, u16, u17, u18, u19, u20, u21, u22, u23, u24, u25, u26, u27, u28, u29, u30, u31, u32, u33, u34, u35, u36, u37, rfl, hz11, hk, rfl, HC, HOUT, HBR, HT, HM, HB⟩ K hK
  have HKK := Aside0.mk hK
  clear hK HT4 D3 HB4
  obtain ⟨v, b3, hrow⟩ := HOUT.out
  have c3 := b3.cell (i := 0) rfl
  by_cases hlt : k < nw
  · have HLT := Aside0.mk hlt
    obtain ⟨rfl, hcur⟩ := HGET.out (by omega)
    have BR := HBR.out (by omega)
    obtain ⟨A, hA⟩ : ∃ A, A = iv (wordAt s.size (sgq s) k) := ⟨_, rfl⟩
    obtain ⟨B, hB⟩ : ∃ B, B = iv (wordAt s.size (blq s) k) := ⟨_, rfl⟩
    obtain ⟨C, hC⟩ : ∃ C, C = iv (wordAt s.size (opq s) k) := ⟨_, rfl⟩
    obtain ⟨D, hD⟩ : ∃ D, D = iv (wordAt s.size (wdq s) k) := ⟨_, rfl⟩
    have hrN : rowN s k = [.int .u64 A, .int .u64 B, .int .u64 C, .int .u64 D] := by rw [hA, hB, hC, hD]; rfl
    have hcur' := fun j hj => hcur k j hlt hj
    rw [hrN] at hcur'
    replace hcur := hcur'
    clear hcur'
    have cr0 : W.cell? ⟨gr, k * 4, none⟩ = some (.int .u64 A) := BR.cell (hcur 0 (by decide))
    have cr1 : W.cell? ⟨gr, k * 4 + 1, none⟩ = some (.int .u64 B) := BR.cell (hcur 1 (by decide))
    have cr2 : W.cell? ⟨gr, k * 4 + 2, none⟩ = some (.int .u64 C) := BR.cell (hcur 2 (by decide))
    have cr3 : W.cell? ⟨gr, k * 4 + 3, none⟩ = some (.int .u64 D) := BR.cell (hcur 3 (by decide))
    have hq1 : (k : Int) < (nw : Int) := by omega
    have hq2 : (0 : Int) ≤ (k : Int) := by omega
    have hkn : 64 * k < s.size := by have := HNW.out; unfold nwords at this; omega
    have hc4 := HC.out hlt
    obtain ⟨X, hX⟩ : ∃ X, X = iv (word (stW s k)) := ⟨_, rfl⟩
    have STA : Aside0 (∀ w, Calls Tryd.prog 39 #[.agg #[.int .u64 A, .int .u64 B, .int .u64 C, .int .u64 D], .bool c4] w fun e w' => e = .returned (.int .u64 X) ∧ Below w.heap.size w w') := ⟨fun w => marks_rows_starts.calls A B C D c4 X w (by rw [hD, hc4, hX]; exact starts_word s k A B C)⟩
    have BEG : Aside0 (bits .or .u64 (bits .or .u64 A C) X = iv (word (begB s k))) := ⟨by rw [hA, hC, hX]; exact beg_or s k hkn⟩
    have EN : Aside0 (∀ w, Calls Tryd.prog 40 #[.agg #[.int .u64 A, .int .u64 B, .int .u64 C, .int .u64 D]] w fun e w' => e = .returned (.bool (decide (64 * k + 63 < s.size) && wdq s (64 * k + 63))) ∧ Below w.heap.size w w') := ⟨fun w => marks_rows_ends.calls A B C D _ w (by rw [hD]; exact ends_word s k A B C)⟩
    obtain ⟨E, hE⟩ : ∃ E, E = (decide (64 * k + 63 < s.size) && wdq s (64 * k + 63)) := ⟨_, rfl⟩
    rw [← hE] at EN
    have HE := Aside0.mk hE
    subst hz11
    have HROW := Aside0.mk hrow
    have HV1 := Aside0.mk (row_one hrow)
    clear hA hB hC hD hrN hcur hkn hc4 hX hE hlt hk hrow HOUT HBR HC
    have HB0 := HB
    clear HB
    have HB := BelowH.refl W
    gi_upto_region 6 with (first
      | ((with_reducible refine gate_dstIn (N := 5) rfl ?_); refine ev_allocIn HB rfl rfl (#[.int .i64 0]) 3 ?hr ?_; (case hr => first | (go_simp; done) | (go_simp; rfl)); intro g5 w5 G_g5 GE_g5 B_g5 HBn K_g5 KO_w5; clear HB; have HB := HBn; clear HBn)
      | ((with_reducible refine gate_dstIn (N := 6) rfl ?_); refine ev_allocIn HB rfl rfl (#[.int .u64 0, .int .u64 0, .int .u64 0, .int .u64 0]) 81 ?hr ?_; (case hr => first | (go_simp; done) | (go_simp; rfl)); intro g6 w6 G_g6 GE_g6 B_g6 HBn K_g6 KO_w6; clear HB; have HB := HBn; clear HBn)
      | ((with_reducible refine gate_In (Op.store 3 (.tmp 5) (.tmp 13)) rfl ?_); refine ev_store1In (i := 0) HB (B_g5.below K_g6.out) GE_g5 rfl 3 _ _ rfl rfl (.int .i64 (k : Int)) rfl (by simp) (by kernel_rfl) rfl ?_; intro w7 B7 HBn K_w7 KO_w7; clear HB; have HB := HBn; clear HBn)
      | ((with_reducible refine gate_In (Op.store 81 (.tmp 6) (.tmp 15)) rfl ?_); refine ev_storeIn HB (B_g6.other K_w7 (by have := B_g5.lt; have := G_g6.out; omega)) GE_g6 rfl 81 _ _ rfl rfl rfl (by kernel_rfl) rfl (by simp [Value.oneCell']) ?_; intro w8 B8 HBn K_w8 KO_w8; clear HB; have HB := HBn; clear HBn))
    have N56 : g5 ≠ g6 := by have := B_g5.lt; have := G_g6.out; omega
    have NW5 : ∀ g, g < W.heap.size → g ≠ g5 ∧ g ≠ g6 := fun g h => by have := G_g5.out; have := G_g6.out; have := K_g5.out.size; omega
    have KB := Aside0.mk HB.out
    have B5 := B7.other K_w8 N56
    have hR8 : w8.ownsRow w.heap.size 3 1 v ((idxL s (64 * k)).length + ([] : List (SetP 64 (begB s k))).length) ((idxL s (64 * k) ++ ([] : List (SetP 64 (begB s k))).map fun x => (64 * (k : Int) + ((x.val : Nat) : Int))).map (Value.int .i64)) := by
      rw [List.map_nil, List.append_nil]
      exact row_below HROW.out KB.out
    have I8 : IdxI w g3 g5 g6 gr 0 [.int .u64 A, .int .u64 B, .int .u64 C, .int .u64 D] cur k (idxL s (64 * k)) Ds ([] : List (SetP 64 (begB s k))) w8 :=
      ⟨⟨v, b3.below KB.out, hR8, own_ne_new HROW.out G_g5.out⟩, B5, B8, BR.below KB.out, HT.out.step KB.out, HM.out.below KB.out, HB0.step KB.out, Nat.zero_le _⟩
    have hbd : Aside0 (Below w8.heap.size w8 w8.drew) := ⟨below_drew (Below.refl _ _)⟩
    have I' := I8.below hbd.out (Nat.zero_le _)
    clear I8 hR8 B5 B8 B7 BR HM HB0 HB KB NW5 hbd B_g5 B_g6 K_g5 K_g6 K_w7 K_w8 KO_w5 KO_w6 KO_w7 KO_w8 G_g5 GE_g5 G_g6 GE_g6 HROW HV1 b3 c3 cr0 cr1 cr2 cr3 HT
    refine wpIn_region_last_wide HF (S := fun W' => Blk W' g6 #[.int .u64 A, .int .u64 B, .int .u64 C, .int .u64 D] 81) (ds := []) (by kernel_rfl) I'.b6 (fun hS => ?_)
    refine' wpAnyLast_take (i := 0) (oi := Oper.mk _ _ _ _ _ _) rfl (by kernel_rfl) (by kernel_rfl) (by kernel_rfl) (by kernel_rfl) (by kernel_rfl) (fun _ _ _ h => h) (Or.inl ⟨by rfl, ?hy1⟩) hS ?rest1
    case hy1 => (intro w hSw; (try dsimp only at hSw); first | (go_simp; done) | (go_simp; with_reducible rfl))
    try simp only [Act.put, List.setIfInBounds_toArray, List.set_cons_zero, List.set_cons_succ]
    refine wpAnyLast_take (i := 1) (oi := Oper.mk _ _ _ _ _ _) rfl (by kernel_rfl) (by kernel_rfl) (by kernel_rfl) (by kernel_rfl) (by kernel_rfl) (fun _ _ _ h => h) (rg_load1 (by rfl) (fun _ hS => hS.cell (i := 0) rfl) 79 _ rfl rfl (fun _ => by simp [isAgg, run_underlying Tryd.underlying79])) hS ?_
    try simp only [Act.put, List.setIfInBounds_toArray, List.set_cons_zero, List.set_cons_succ]
    refine' wpAnyLast_take (i := 2) (oi := Oper.mk _ _ _ _ _ _) rfl (by kernel_rfl) (by kernel_rfl) (by kernel_rfl) (by kernel_rfl) (by kernel_rfl) (fun _ _ _ h => h) (Or.inl ⟨by rfl, ?hy2⟩) hS ?rest2
    case hy2 => (intro w hSw; (try dsimp only at hSw); first | (go_simp; done) | (go_simp; with_reducible rfl))
    try simp only [Act.put, List.setIfInBounds_toArray, List.set_cons_zero, List.set_cons_succ]
    refine wpAnyLast_take (i := 3) (oi := Oper.mk _ _ _ _ _ _) rfl (by kernel_rfl) (by kernel_rfl) (by kernel_rfl) (by kernel_rfl) (by kernel_rfl) (fun _ _ _ h => h) (rg_load1 (by rfl) (fun _ hS => hS.cell (i := 2) rfl) 79 _ rfl rfl (fun _ => by simp [isAgg, run_underlying Tryd.underlying79])) hS ?_
    try simp only [Act.put, List.setIfInBounds_toArray, List.set_cons_zero, List.set_cons_succ]
    refine' wpAnyLast_take (i := 4) (oi := Oper.mk _ _ _ _ _ _) rfl (by kernel_rfl) (by kernel_rfl) (by kernel_rfl) (by kernel_rfl) (by kernel_rfl) (fun _ _ _ h => h) (Or.inl ⟨by rfl, ?hy3⟩) hS ?rest3
    case hy3 => (intro w hSw; (try dsimp only at hSw); first | (go_simp; done) | (go_simp; with_reducible rfl))
    try simp only [Act.put, List.setIfInBounds_toArray, List.set_cons_zero, List.set_cons_succ]
    refine wpAnyLast_take (i := 5) (oi := Oper.mk _ _ _ _ _ _) rfl (by kernel_rfl) (by kernel_rfl) (by kernel_rfl) (by kernel_rfl) (by kernel_rfl) (fun _ _ _ h => h) (rg_load (by rfl) (fun _ hS => hS) 81 _ rfl rfl Tryd.underlying81 rfl (by kernel_rfl)) hS ?_
    try simp only [Act.put, List.setIfInBounds_toArray, List.set_cons_zero, List.set_cons_succ]
    refine' wpAnyLast_take (i := 6) (oi := Oper.mk _ _ _ _ _ _) rfl (by kernel_rfl) (by kernel_rfl) (by kernel_rfl) (by kernel_rfl) (by kernel_rfl) (fun _ _ _ h => h) (Or.inl ⟨by rfl, ?hy4⟩) hS ?rest4
    case hy4 => (intro w hSw; (try dsimp only at hSw); first | (go_simp; done) | (go_simp; with_reducible rfl))
    try simp only [Act.put, List.setIfInBounds_toArray, List.set_cons_zero, List.set_cons_succ]
    refine wpAnyLast_ready (rs := [7]) (by kernel_rfl) (by simp) ?_
    refine AllReadyL.cons (o := Oper.mk _ _ _ _ _ _) rfl (by decide) (fun K hK => ?_) ?_
    · refine rg_call (by rfl) _ _ (.int .u64 X) (by first | (go_simp; done) | (go_simp; rfl)) (STA.out _) ?_
      intro W' hb
      have I2 := I'.below (m' := 0) hb.out (Nat.zero_le _)
      clear I'
      refine hK.out _ _ I2.b6 (fun hS => ?_)
      clear hK K
      try simp only [Act.put, List.setIfInBounds_toArray, List.set_cons_zero, List.set_cons_succ]
      refine' wpAnyLast_take (i := 8) (oi := Oper.mk _ _ _ _ _ _) rfl (by kernel_rfl) (by kernel_rfl) (by kernel_rfl) (by kernel_rfl) (by kernel_rfl) (fun _ _ _ h => h) (Or.inl ⟨by rfl, ?hy5⟩) hS ?rest5
      case hy5 => (intro w hSw; (try dsimp only at hSw); first | (go_simp; done) | (go_simp; with_reducible rfl))
      try simp only [Act.put, List.setIfInBounds_toArray, List.set_cons_zero, List.set_cons_succ]
      refine wpAnyLast_ready (rs := [9]) (by kernel_rfl) (by simp) ?_
      refine AllReadyL.cons (o := Oper.mk _ _ _ _ _ _) rfl (by decide) (fun K hK => ?_) ?_
      · refine call_ 38 #[.int .u64 (bits .or .u64 (bits .or .u64 A C) X)] (by rfl) rfl (by first | (go_simp; done) | (go_simp; rfl)) ((words_Each.calls _ _).mono ?_)
        rintro e W3 ⟨g1, rfl, GE1, B1, HB3⟩
        refine ⟨_, rfl, ?_⟩
        have I3 := I2.below (m' := W3.heap.size) HB3.out (Nat.le_refl _)
        clear I2 HB3
        refine hK.out _ _ I3.b6 (fun hS => ?_)
        clear hK K
        try simp only [Act.put, List.setIfInBounds_toArray, List.set_cons_zero, List.set_cons_succ]
        refine wpAnyLast_done (by kernel_rfl) ?_ _
        refine NoPanic.normal ?_
        gi_wp2
        have B1' := B1
        rw [BEG.out] at B1'
        have P0 := I3.ht.pos
        have L1 := B1'.lt
        have HP := Aside0.mk (And.intro (fun D hD => I3.mk_.lt (D := D) hD) I3.hb.le)
        have HX3 := Aside0.mk (And.intro I3.b5.lt (And.intro I3.b6.lt (I3.out.choose_spec.1).lt))
        have T3 := I3.ht
        clear B1 GE1
        refine wpIn_rangeFunc_ownH hro (by decide) (gf := 54) (lb := #[.pointer (some ⟨g1, 0, none⟩)]) rfl f3 (enters_of Tryd.func54 (by kernel_rfl) rfl)
          (words_Each_1.stops F HF (9 - 1) (by decide) g1 (begB s k) W3 B1' T3) Keep2.trans (fun W l o o' hl ho hc hw => Keep2.putObj P0 P0 W l o o' hl ho hc hw) (Below.refl _ _) (fun _ => rfl)
          (IdxI w g3 g5 g6 gr W3.heap.size [.int .u64 A, .int .u64 B, .int .u64 C, .int .u64 D] cur k (idxL s (64 * k)) Ds) (fun _ _ _ => False)
          (fun pre A B row hs hg hr => hs.kept HP.out.2 HP.out.1 hg hr)
          (fun _ _ _ _ _ hs _ _ => hs)
          I3
          (fun y a' W => a' = { tmps := #[.string s, undef, .slice none 0 0, .pointer (some ⟨g3, 0, none⟩), .bool c4, .pointer (some ⟨g5, 0, none⟩), .pointer (some ⟨g6, 0, none⟩), .int .i64 ((y.val : Nat) : Int), .string s, .slice (some ⟨gr, 0, none⟩) nw cp, .int .i64 (nw : Int), .int .i64 (k : Int), .bool true, .int .i64 (k : Int), .pointer (some ⟨gr, k * 4, none⟩), .agg #[.int .u64 A, .int .u64 B, .int .u64 C, .int .u64 D], .pointer (some ⟨g6, 0, none⟩), .int .u64 A, .pointer (some ⟨g6, 2, none⟩), .int .u64 C, .int .u64 (bits .or .u64 A C), .agg #[.int .u64 A, .int .u64 B, .int .u64 C, .int .u64 D], .bool c4, .int .u64 X, .int .u64 (bits .or .u64 (bits .or .u64 A C) X), .func (.func 54) #[] #[.pointer (some ⟨g1, 0, none⟩)], .int .i64 ((y.val : Nat) : Int), u27, u28, u29, u30, u31, u32, u33, u34, u35, u36, u37], defers := [] })
          (fun x a' pre A B row hs hg hr => hs)
          ?assign ?body ?done ?stop
        case assign =>
          intro l' pre y W K' hI hK'
          dsimp only
          gi_wp2
          exact hK' _ _ ((KeepsOthers.refl _).from _) ⟨rfl, rfl, Nat.le_refl _⟩ hI rfl
        case body =>
          rintro l' pre y a' W' hl ⟨r, hr⟩ hI rfl hlen
          clear hr
          obtain ⟨v', b3, hrow, hne⟩ := hI.out
          have c3 := b3.cell (i := 0) rfl
          have c5 := hI.b5.cell (i := 0) rfl
          have HB := hI.hb
          have hb1 : (k : Int) ≤ 17179869184 := by have := HLT.out; omega
          have hb2 : ((y.val : Nat) : Int) < 64 := by have := y.2.1; omega
          have hw1 : wrap64 (64 * (k : Int)) = 64 * (k : Int) := by unfold wrap64; omega
          have hw2 : wrap64 (64 * (k : Int) + ((y.val : Nat) : Int)) = 64 * (k : Int) + ((y.val : Nat) : Int) := by unfold wrap64; omega
          have HLEN : Aside0 (((idxL s (64 * k)).length + pre.length + 1) * 8 ≤ 140737488355328) := ⟨by have := idxL_length s (64 * k); have := HLT.out; omega⟩
          have HW' := Aside0.mk hI
          have HROW := Aside0.mk hrow
          have HNE := Aside0.mk hne
          clear hrow hne hI hlen
          gi_wp2_with (first
            | ((with_reducible refine gate_dstIn (N := 32) rfl ?_); refine ev_lit1In HB rfl rfl (.int .i64 (64 * (k : Int) + ((y.val : Nat) : Int))) 3 ?hr ?_; (case hr => first | (go_simp; done) | (go_simp; rfl)); intro gl w11 G_gl B_gl HB11 K_gl KO11; have I11 := Aside0.mk (HW'.out.below (m' := W3.heap.size) K_gl.out (Nat.le_trans HW'.out.sz K_gl.out.size)); have b311 := b3.below K_gl.out; have R11 := Aside0.mk (row_below HROW.out K_gl.out))
            | ((with_reducible refine gate_dstIn (N := 33) rfl ?_); refine ev_appendAtIn HB11 rfl _ _ 22 3 (.int .i64 0) 1 8 rfl Tryd.underlying22 (by kernel_rfl) rfl (by decide) (by decide) v' _ _ rfl R11.out gl [.int .i64 (64 * (k : Int) + ((y.val : Nat) : Int))] rfl B_gl rfl (by simp [Value.oneCell']) HLEN.out ?_; intro v1 w12 hrow12 HB12 K12 KO12 AT12 FV1; have R12 := Aside0.mk hrow12; have V12 := Aside0.mk (row_one hrow12); have b312 := b311.appended (by decide) R11.out K12; clear hrow12; obtain ⟨g', cap', rfl⟩ := FV1.out)
            | ((with_reducible refine gate_In (Op.store 22 (.tmp 3) (.tmp 33)) rfl ?_); refine ev_store1In (i := 0) HB12 b312 GE_g3 rfl 22 _ _ rfl rfl _ rfl (by simp) (by kernel_rfl) rfl ?_; intro w13 B13 HB13 K13 KO13))
          have E5 := I11.out.b5.appended_ne HNE.out K12
          have E6 := I11.out.b6.appended (by decide) R11.out K12
          have ER := I11.out.br.appended (by decide) R11.out K12
          have N0 : v'.ownBlock ≠ some 0 := own_ne_lt R11.out PW.out
          have H12 := heap_appended I11.out.ht.pos N0 K12
          have T12 := I11.out.ht.heap H12
          have O3 : 0 < g3 := by have := GE_g3.out; have := PW.out; omega
          have H13 := K13.out.2 0 (by omega)
          have H11 := K_gl.out.block 0 HW'.out.ht.pos
          have N5 := own_ne_appended AT12 HNE.out I11.out.b5.lt
          refine ⟨((keepsOthers_below K_gl.out).trans (KO12.out.trans KO13.out)).from _, ⟨(H13.trans H12).trans H11, (H13.trans H12).trans H11, Nat.le_trans K_gl.out.size (Nat.le_trans K12.out.1 K13.out.1)⟩, ⟨_, B13, ?_, N5⟩, E5.other K13 (E5.ne b312 (by decide)), E6.other K13 (E6.ne b312 (by decide)), ER.other K13 (ER.ne b312 (by decide)), T12.other O3 K13, (I11.out.mk_.others KO12.out).others KO13.out, HB13, Nat.le_trans I11.out.sz (Nat.le_trans K12.out.1 K13.out.1)⟩
          have R13 := row_other R12.out b312 (by decide) K13
          have e1 : (idxL s (64 * k)).length + (pre ++ [y]).length = (idxL s (64 * k)).length + pre.length + 1 := by
            rw [List.length_append, List.length_singleton]
            omega
          have e2 : (idxL s (64 * k) ++ (pre ++ [y]).map fun x => (64 * (k : Int) + ((x.val : Nat) : Int))).map (Value.int .i64) = (idxL s (64 * k) ++ pre.map fun x => (64 * (k : Int) + ((x.val : Nat) : Int))).map (Value.int .i64) ++ [.int .i64 (64 * (k : Int) + ((y.val : Nat) : Int))] := by
            rw [List.map_append, List.map_append, List.map_append, List.map_append, ← List.append_assoc]
            rfl
          rw [e1, e2]
          exact R13
        case done =>
          rintro D ys W' hD rfl hI hK'
          have HDn : D ∉ Ds := fun c => by have := HP.out.1 D c; omega
          have HM' := Aside0.mk (hI.mk_.cons (Nat.le_trans HP.out.2 hD) hK' HDn)
          have hb1 : (k : Int) ≤ 17179869184 := by have := HLT.out; omega
          have hw1 : wrap64 ((k : Int) + 1) = (k : Int) + 1 := by unfold wrap64; omega
          have HI := Aside0.mk hI
          have b6 := hI.b6
          clear hI hK' hD HDn
          gi_wp2_with (first
            | ((with_reducible refine gate_dstIn (N := 34) rfl ?_); refine ev_loadSIn b6 rfl 81 _ rfl rfl Tryd.underlying81 rfl (by kernel_rfl) ?_)
            | (gi_at_call 40; refine (callsIn_of HF (EN.out _)).mono ?_; rintro e w9 ⟨rfl, hb9⟩; have HK9 := Aside0.mk hb9; clear hb9))
          have I9 := HI.out.below (m' := 0) HK9.out (Nat.zero_le _)
          obtain ⟨v', b3, hrow, _⟩ := I9.out
          have es := idxL_step s k
          have el := congrArg List.length es
          rw [List.length_append, List.length_map] at el
          rw [es, el] at hrow
          refine HKK.out (nw - (k + 1)) _ _ (by have := HLT.out; omega) ⟨k + 1, D :: Ds, _, E, _, _, _, _, _, _, _, _, _, _, _, _, _, _, _, _, _, _, _, _, _, _, _, _, _, _, _, _, _, rfl, by omega, by have := HLT.out; omega, rfl, ⟨fun hk1 => ?_⟩, ⟨v', b3, hrow⟩, ⟨fun _ => I9.br⟩, ⟨I9.ht⟩, ⟨HM'.out.below HK9.out⟩, I9.hb⟩
          rw [HE.out, car_next, if_pos]
          have := HNW.out
          unfold nwords at this
          omega
        case stop =>
          rintro D c pre W _ _ h _
          exact h.elim
      exact AllReadyL.nil
    exact AllReadyL.nil
  · have EK : k = nw := by omega
    subst hz11
    have hq1 : decide (k < nw) = false := decide_eq_false (by omega)
    have HI := Aside0.mk EK
    have HROW := Aside0.mk hrow
    clear EK hlt hk hrow
    gi_wp2
    refine leaves_marks Ds W HM.out fun A hsw => ⟨_, results_tmp rfl _ _ _, v, rfl, ?_, hsw.below (Nat.le_refl _) HB.out⟩
    have e1 : idxL s (64 * k) = idxL s s.size := by
      rw [idxL_all s (64 * k) (by rw [HI.out, HNW.out]; unfold nwords; omega), idxL_all s s.size (Nat.le_refl _)]
    rw [← e1]
    exact hsw.own HROW.out
theorem marks_Index.calls (a0 : ByteArray) (r : List Int) (w : World) (hT : TabOk w) (h : marks_Index.f a0 = some r) :
    Calls Tryd.prog 26 #[.string a0] w fun e w' => ∃ v : Value, e = .returned v ∧ Kd.R (Kd.int .i64) 3 w' w.heap.size (fun _ => True) v r ∧ Below w.heap.size w w' := by
  unfold marks_Index.f at h
  by_cases hs : a0.size ≤ 1099511627776
  case neg => rw [if_neg hs] at h; cases h
  rw [if_pos hs] at h
  simp only [Option.some.injEq] at h
  subst h
  refine (marks_Index.walk a0 w hT hs).mono ?_
  rintro e w' ⟨v, rfl, hrow, hb⟩
  exact ⟨v, rfl, Kd.R_of_own hrow (fun _ _ => trivial), hb⟩
end


end Go.Proofs.YtfihkkjkifkemaaDoor.PS
end
-- PSx7
section
namespace Go.Proofs.YtfihkkjkifkemaaDoor.PS
open Go.RowKit Go.Proofs.YtfihkkjkifkemaaDoorW.PrintWords Go.Proofs.YtfihkkjkifkemaaDoorW.PrintLast Go.Proofs.YtfihkkjkifkemaaDoorW.PrintMore
attribute [local go_sem] max2_int min2_int max_two min_two max_three min_three max_four min_four   -- for this text's walks alone
set_option linter.unusedVariables false
set_option linter.unusedSimpArgs false

section
open Go.Proofs.YtfihkkjkifkemaaDoorQ Go.Proofs.YtfihkkjkifkemaaDoorM Go.Shelf Go.Maps
open Go.Proofs.YtfihkkjkifkemaaDoorW.PrintWords
attribute [local go_sem] Oper.semAt_some
theorem zeroInt (w : World) : (zeroValue 3).run Tryd.prog w = .ok (.int .i64 0) w := by kernel_rfl
theorem ne_zero {z : Int} (h : z ≠ 0) : (z == 0) = false := by rw [beq_eq_false_iff_ne]; exact h
theorem wrap_natS {i : Nat} (h : i ≤ 1125899906842624) : IntKind.i64.wrap (i : Int) = (i : Int) := by rw [i64_w]; unfold wrap64; omega
theorem wrap_pred {z : Int} (h0 : 0 ≤ z) (h1 : z ≤ 1125899906842624) : wrap64 (z - 1) = z - 1 := by unfold wrap64; omega
def spCells (x : Nat × Nat) : List Value := [.int .i64 (x.1 : Int), .int .i64 (x.2 : Int)]
/-- Between two places. -/
structure SpI (s : ByteArray) (w : World) (b nn gl nl : Nat) (cur : Array Value) (vO : Value) (ol : List (Nat × Nat)) (W : World) : Prop where mk ::
  own : W.ownsMap Tryd.prog 3 (plainElem Tryd.prog 3) b nn (mapD (keysM s))
  bl : nl ≠ 0 → Blk W gl cur 3
  row : W.ownsRow w.heap.size 36 2 vO ol.length (ol.flatMap spCells)
  hb : BelowH w W
theorem SpI.appended {s : ByteArray} {w : World} {b nn gl nl : Nat} {cur : Array Value} {vO v1 : Value} {ol : List (Nat × Nat)} {W w5 w6 : World} (h : SpI s w b nn gl nl cur vO ol W) (hb : Below W.heap.size W w5) (x : Nat × Nat)
    (hrow : w6.ownsRow w.heap.size 36 2 v1 (ol.length + 1) (ol.flatMap spCells ++ spCells x)) (hb6 : BelowH w w6) (K : Aside0 (w5.heap.size ≤ w6.heap.size ∧ ∀ j, j < w5.heap.size → some j ≠ vO.ownBlock → w6.heap[j]? = w5.heap[j]?)) : SpI s w b nn gl nl cur v1 (ol ++ [x]) w6 := by
  have hrow5 := row_below h.row hb
  have own5 := ownsMap_same h.own (hb.block b h.own.lt)
  refine ⟨ownsMap_same own5 (K.out.2 b own5.lt (fun e => ?_)), fun h0 => ((h.bl h0).below hb).appendedN (by decide) hrow5 K, ?_, hb6⟩
  · obtain ⟨cells, hc⟩ := own_typed hrow5 b e.symm
    obtain ⟨es, clock, hm, _⟩ := own5
    rw [hm] at hc
    cases hc
  · rw [List.length_append, List.length_singleton, List.flatMap_append]
    simpa using hrow
theorem SpI.below {s : ByteArray} {w : World} {b nn gl nl : Nat} {cur : Array Value} {vO : Value} {ol : List (Nat × Nat)} {W W' : World} (h : SpI s w b nn gl nl cur vO ol W) (hb : Below W.heap.size W W') : SpI s w b nn gl nl cur vO ol W' :=
  ⟨ownsMap_same h.own (hb.block b h.own.lt), fun h0 => (h.bl h0).below hb, row_below h.row hb, h.hb.step hb⟩
theorem idxD_mem (s : ByteArray) (d i : Nat) : ∀ p ∈ idxD s d i, i ≤ p ∧ p < i + d ∧ begq s p = true := fun p hp => by
  rw [idxD_range] at hp
  obtain ⟨h1, h2⟩ := List.mem_filter.1 hp
  have := List.mem_range'_1.1 h1
  exact ⟨this.1, this.2, h2⟩
theorem progF_len (s : ByteArray) : ∀ (L : List Nat) (ol : List (Nat × Nat)) (d f : Nat), (progF s L ol d f).1.length ≤ ol.length + L.length
  | [], ol, d, f => by
    unfold progF
    split <;> exact Nat.le_refl _
  | p :: L, ol, d, f => by
    have ih := progF_len s L
    have h1 : ∀ x : Nat × Nat, ∀ d f, (progF s L (ol ++ [x]) d f).1.length ≤ ol.length + (p :: L).length := fun x d f => by
      have := ih (ol ++ [x]) d f
      rw [List.length_append, List.length_singleton] at this
      rw [List.length_cons]
      omega
    have h2 : ∀ d f, (progF s L ol d f).1.length ≤ ol.length + (p :: L).length := fun d f => by
      have := ih ol d f
      rw [List.length_cons]
      omega
    rw [progF]
    repeat' split
    all_goals first | exact h1 _ _ _ | exact h2 _ _ | exact Nat.le_add_right _ _
/-- The documents of a text, and where it is bad. -/
def splitF (s : ByteArray) : List (Nat × Nat) × Int := progF s (idxD s s.size 0) [] 0 0
set_option maxHeartbeats 8000000 in
set_option maxRecDepth 100000 in
theorem stream_Split.walk (s : ByteArray) (hs : s.size ≤ 1048576) (w : World) (hT : TabOk w) :
  Calls Tryd.prog 10 #[.string s] w fun e w' => ∃ v : Value, e = .returned (.tuple #[v, .int .i64 (splitF s).2]) ∧ w'.ownsRow w.heap.size 36 2 v (splitF s).1.length ((splitF s).1.flatMap spCells) ∧ Below w.heap.size w w' := by
 obtain ⟨F, hF⟩ : ∃ F, F = Fence.wide := ⟨_, rfl⟩
 have HF := Aside0.mk hF
 refine (callsIn_wide (n := 9)).1 ?_
 rw [← hF]
 clear hF
 have hro := wide_round HF
 have HB := BelowH.refl w
 have f1 := wide_fn HF 25
 have f2 := wide_fn HF 26
 have HT := Aside0.mk hT
 have HS := Aside0.mk hs
 obtain ⟨R, hR⟩ : ∃ R, R = splitF s := ⟨_, rfl⟩
 rw [← hR]
 obtain ⟨L, hL⟩ : ∃ L, L = idxD s s.size 0 := ⟨_, rfl⟩
 have HPR : Aside0 (progF s L [] 0 0 = R) := ⟨by rw [hR, hL]; rfl⟩
 have HLM : Aside0 (∀ p ∈ L, p < s.size ∧ begq s p = true) := ⟨fun p hp => by
  rw [hL] at hp
  have := idxD_mem s _ _ p hp
  exact ⟨by omega, this.2.2⟩⟩
 have HLL : Aside0 (L.length ≤ 1048576) := ⟨by
  have := idxL_length s s.size
  rw [idxD_all, List.length_map, ← hL] at this
  omega⟩
 have IX : Aside0 (∀ W, TabOk W → Calls Tryd.prog 26 #[.string s] W fun e w' => ∃ v, e = .returned v ∧ w'.ownsRow W.heap.size 3 1 v L.length (L.map fun p => Value.int .i64 ((p : Nat) : Int)) ∧ Below W.heap.size W w') := ⟨fun W h => by
  have := marks_Index.walk s W h (by omega)
  rw [idxD_all, ← hL, List.length_map, List.map_map] at this
  exact this⟩
 clear hT hs hR hL
 refine callsIn_of_wp Tryd.func10 rfl (wide_fn HF _) ?_ (wide_round HF)
 simp only [Tryd.ntmps10, List.size_toArray, List.length_cons, List.length_nil, Nat.reduceAdd, Nat.reduceSub, Array.replicate_succ, Array.replicate_zero, List.push_toArray, List.append_toArray, List.nil_append, List.cons_append]
 gi_wp2_with (first
  | (gi_at_call 25; refine (callsIn_of HF (stream_ends.walk s HS.out _ (HT.out.stepH HB))).mono ?_; rintro e w3 ⟨b, nn, rfl, hown, hbb, hb⟩; have HOW := Aside0.mk hown; have HB3 := HB.step hb; clear hb hown)
  | (gi_at_call 26; refine (callsIn_of HF (IX.out _ (HT.out.stepH HB3))).mono ?_; rintro e w4 ⟨v, rfl, hrow, hb⟩; have HR4 := Aside0.mk hrow; have HB4 := HB3.step hb; have HK4 := Aside0.mk hb; obtain ⟨ad, cp, rfl⟩ := own_slice hrow; clear hrow hb))
 have HO : Aside0 ((ad = none ∧ L.length = 0) ∨ ∃ gl cur, ad = some ⟨gl, 0, none⟩ ∧ Blk w4 gl cur 3 ∧ ∀ (i : Nat) (p : Nat), L[i]? = some p → cur[i]? = some (.int .i64 ((p : Nat) : Int))) := ⟨by
  rcases row_openN HR4.out with ⟨h1, h2⟩ | ⟨gl, cap, cur, h1, h2, h3, h4⟩
  ·injection h1 with h1
   exact .inl ⟨h1, h2⟩
  ·injection h1 with h1
   exact .inr ⟨gl, cur, h1, h3, fun i p hi => h4 i _ (by rw [List.getElem?_map, hi]; rfl)⟩⟩
 obtain ⟨gl, cur, HO⟩ : ∃ gl cur, Aside0 ((L.length = 0) ∨ (ad = some ⟨gl, 0, none⟩ ∧ Blk w4 gl cur 3 ∧ ∀ (i : Nat) (p : Nat), L[i]? = some p → cur[i]? = some (.int .i64 ((p : Nat) : Int)))) := by
  rcases HO.out with h | ⟨gl, cur, h1, h3, h4⟩
  ·exact ⟨0, #[], ⟨.inl h.2⟩⟩
  ·exact ⟨gl, cur, ⟨.inr ⟨h1, h3, h4⟩⟩⟩
 have HGET : Aside0 (L.length ≠ 0 → ad = some ⟨gl, 0, none⟩ ∧ ∀ (i : Nat) (p : Nat), L[i]? = some p → cur[i]? = some (.int .i64 ((p : Nat) : Int))) := ⟨fun h0 => by
  rcases HO.out with h | ⟨h1, _, h3⟩
  ·exact absurd h h0
  ·exact ⟨h1, h3⟩⟩
 have I4 : Aside0 (SpI s w b nn gl L.length cur (.slice none 0 0) [] w4) := ⟨⟨ownsMap_same HOW.out (HK4.out.block b HOW.out.lt), fun h0 => by
  rcases HO.out with h | ⟨_, h2, _⟩
  ·exact absurd h h0
  ·exact h2, World.ownsRow_nil _ _ _ _, HB4⟩⟩
 clear HO HOW HR4 HK4 IX HT HB HB3 HB4 hbb
 refine wpIn_loopM (fun m a W => ∃ (i : Nat) (vO : Value) (ol : List (Nat × Nat)) (d f : Nat) (dz fz z16 : Int) (y1 y2 y3 y8 y9 y10 y11 y12 y13 y17 y18 y19 y20 y21 y22 y23 y24 y25 y26 y27 y28 y29 y30 y31 y32 y33 y34 y35 y36 y37 y38 y39 y40 y41 y42 y43 y44 y45 y46 y47 y48 y49 y50 y51 y52 y53 y54 y55 y56 y57 y58 y59 y60 y61 y62 y63 y64 y65 y66 y67 y68 y69 y70 y71 y72 y73 y74 y75 y76 y77 y78 : Value), m = L.length - i ∧ z16 = (i : Int) ∧ i ≤ L.length ∧ a = { tmps := #[.string s, y1, y2, y3, vO, .map (some b), .int .i64 dz, .int .i64 fz, y8, y9, y10, y11, y12, y13, .slice ad L.length cp, .int .i64 (L.length : Int), .int .i64 z16, y17, y18, y19, y20, y21, y22, y23, y24, y25, y26, y27, y28, y29, y30, y31, y32, y33, y34, y35, y36, y37, y38, y39, y40, y41, y42, y43, y44, y45, y46, y47, y48, y49, y50, y51, y52, y53, y54, y55, y56, y57, y58, y59, y60, y61, y62, y63, y64, y65, y66, y67, y68, y69, y70, y71, y72, y73, y74, y75, y76, y77, y78], defers := [] } ∧
  Aside0 (dz = (d : Int) ∧ fz = (f : Int) ∧ d ≤ i ∧ f ≤ s.size ∧ ol.length ≤ i) ∧ Aside0 (progF s (L.drop i) ol d f = R) ∧ Aside0 (SpI s w b nn gl L.length cur vO ol W)) L.length
  ⟨0, .slice none 0 0, [], 0, 0, 0, 0, 0, _, _, _, _, _, _, _, _, _, _, _, _, _, _, _, _, _, _, _, _, _, _, _, _, _, _, _, _, _, _, _, _, _, _, _, _, _, _, _, _, _, _, _, _, _, _, _, _, _, _, _, _, _, _, _, _, _, _, _, _, _, _, _, _, _, _, _, _, _, _, _, rfl, rfl, Nat.zero_le _, rfl, ⟨rfl, rfl, Nat.le_refl _, Nat.zero_le _, Nat.le_refl _⟩, ⟨by rw [List.drop_zero]; exact HPR.out⟩, I4⟩ ?_
 clear I4 HPR
 rintro m a W ⟨i, vO, ol, d, f, dz, fz, z16, y1, y2, y3, y8, y9, y10, y11, y12, y13, y17, y18, y19, y20, y21, y22, y23, y24, y25, y26, y27, y28, y29, y30, y31, y32, y33, y34, y35, y36, y37, y38, y39, y40, y41, y42, y43, y44, y45, y46, y47, y48, y49, y50, y51, y52, y53, y54, y55, y56, y57, y58, y59, y60, y61, y62, y63, y64, y65, y66, y67, y68, y69, y70, y71, y72, y73, y74, y75, y76, y77, y78, rfl, hz16, hi, rfl, HD, HP, HI⟩ K hK
 have HKK := Aside0.mk hK
 clear hK
 by_cases hlt : i < L.length
 ·obtain ⟨rfl, hcur⟩ := HGET.out (by omega)
  obtain ⟨p, hp⟩ : ∃ p, L[i]? = some p := ⟨_, List.getElem?_eq_getElem hlt⟩
  obtain ⟨hpn, hbeg⟩ := HLM.out p (List.mem_of_getElem? hp)
  have hdrop : L.drop i = p :: L.drop (i + 1) := by
   rw [List.drop_eq_getElem_cons hlt]
   congr 1
   rw [List.getElem?_eq_getElem hlt] at hp
   exact Option.some.inj hp
  have hpr := HP.out
  rw [hdrop, progF] at hpr
  have cl : W.cell? ⟨gl, i, none⟩ = some (.int .i64 ((p : Nat) : Int)) := (HI.out.bl (by omega)).cell (hcur i p hp)
  obtain ⟨c, hc⟩ : ∃ c, c = bt s (p : Int) := ⟨_, rfl⟩
  have hbyte : ∀ h : p < s.size, ((s[p]'h).toNat : Int) = c := fun h => by
   rw [hc]
   unfold bt
   rw [Int.toNat_natCast, dif_pos h]
  have hs8 := HS.out
  have hl8 := HLL.out
  obtain ⟨tz, htz⟩ : ∃ tz : Int, tz = ((lookV (keysM s) p : Nat) : Int) := ⟨_, rfl⟩
  have HTO : Aside0 (∀ cv : Int, (mapD (keysM s)).atKey (.int .i64 ((p : Nat) : Int)) (.lit (.int .i64 0)) = .lit (.int .i64 cv) → tz = cv) := ⟨fun cv h => by
   rw [mapD_at] at h
   injection h with h
   injection h with _ h
   rw [htz, h]⟩
  have HWF : Aside0 ((Lit.int .i64 ((p : Nat) : Int)).wf = true) := ⟨wf_small (by omega) (by omega)⟩
  have hd8 := HD.out
  have hpB : p ≤ 1125899906842624 := by omega
  have hiB : i ≤ 1125899906842624 := by omega
  have hpB2 : ((p : Nat) : Int) ≤ 17179869184 := by omega
  have hiB2 : (i : Int) ≤ 17179869184 := by omega
  have hdB : 0 ≤ dz ∧ dz ≤ 17179869184 := by omega
  have hdB2 : dz ≤ 1125899906842624 := by omega
  have HLEN : Aside0 ((ol.length + 1) * 16 ≤ 140737488355328) := ⟨by omega⟩
  have hq1 : (i : Int) < (L.length : Int) := by omega
  have hq2 : (0 : Int) ≤ (i : Int) := by omega
  have hp0 : (0 : Int) ≤ ((p : Nat) : Int) := by omega
  have hp1 : ((p : Nat) : Int) < (s.size : Int) := by omega
  have hq3 : wrap64 ((i : Int) + 1) = (i : Int) + 1 := wrap_succ hiB2 hq2
  have hq5 : IntKind.i64.wrap (i : Int) = (i : Int) := wrap_natS hiB
  have hq6 : wrap64 (((p : Nat) : Int) + 1) = ((p : Nat) : Int) + 1 := wrap_succ hpB2 hp0
  have hq7 : IntKind.i64.wrap ((p : Nat) : Int) = ((p : Nat) : Int) := wrap_natS hpB
  have hq8 : wrap64 (dz + 1) = dz + 1 := wrap_succ hdB.2 hdB.1
  have hq9 : wrap64 (dz - 1) = dz - 1 := wrap_pred hdB.1 hdB2
  have HLT := Aside0.mk hlt
  have HTZ := Aside0.mk htz
  have HPN := Aside0.mk (And.intro hpn hbeg)
  have HC := Aside0.mk hc
  have HPRR := Aside0.mk hpr
  have HB := HI.out.hb
  subst hz16
  clear hp hpn hbeg hdrop hcur hc hs8 hl8 htz hd8 hlt hi hpr HP hpB hiB hpB2 hiB2 hdB hdB2
  have HTOx : Aside0 (lookV (keysM s) p = endM s p ∨ sgq s p = true) := ⟨by
   cases hsg : sgq s p with
   | true => exact .inr rfl
   | false => exact .inl (look_eq HPN.out.1 HPN.out.2 hsg)⟩
  by_cases hd0 : d = 0
  ·by_cases hcc : c = 123
   ·have hpr := HPRR.out
    rw [← HC.out] at hpr
    subst hcc
    have hx1 : opensB 123 = true := by decide
    have hx2 : closesB 123 = false := by decide
    rw [hx1, if_pos rfl] at hpr
    have hdb : (dz == 0) = true := by rw [HD.out.1, hd0]; rfl
    simp only [if_pos hd0] at hpr
    have hdn : (dz + 1 == 0) = false := ne_zero (by have := HD.out.1; omega)
    gi_wp2_with (first
     | (gi_at_lookup; refine wpListIn_lookup_own_int _ rfl _ _ 56 rfl 3 3 .i64 lawInt Tryd.underlying56 Tryd.underlying3 (zeroInt _) b nn _ rfl HI.out.own _ _ rfl (keyOf_int_mk Tryd.underlying3 HWF.out) ?_; intro cv hat hwc; obtain rfl := HTO.out cv hat; clear hat hwc))
    exact HKK.out (L.length - (i + 1)) _ _ (by have := HLT.out; omega) ⟨i + 1, _, ol, d + 1, p, _, _, _, _, _, _, _, _, _, _, _, _, _, _, _, _, _, _, _, _, _, _, _, _, _, _, _, _, _, _, _, _, _, _, _, _, _, _, _, _, _, _, _, _, _, _, _, _, _, _, _, _, _, _, _, _, _, _, _, _, _, _, _, _, _, _, _, _, _, _, _, _, _, _, rfl, by omega, by have := HLT.out; omega, rfl, ⟨by have h := HD.out; have hp_ := HPN.out.1; refine ⟨by omega, by omega, by omega, by omega, ?_⟩; (try rw [List.length_append, List.length_singleton]); omega⟩, ⟨hpr⟩, HI⟩
   have t1 : (c == 123) = false := by rw [beq_eq_false_iff_ne]; exact hcc
   clear hcc
   by_cases hcc : c = 91
   ·have hpr := HPRR.out
    rw [← HC.out] at hpr
    subst hcc
    have hx1 : opensB 91 = true := by decide
    have hx2 : closesB 91 = false := by decide
    rw [hx1, if_pos rfl] at hpr
    have hdb : (dz == 0) = true := by rw [HD.out.1, hd0]; rfl
    simp only [if_pos hd0] at hpr
    have hdn : (dz + 1 == 0) = false := ne_zero (by have := HD.out.1; omega)
    gi_wp2_with (first
     | (gi_at_lookup; refine wpListIn_lookup_own_int _ rfl _ _ 56 rfl 3 3 .i64 lawInt Tryd.underlying56 Tryd.underlying3 (zeroInt _) b nn _ rfl HI.out.own _ _ rfl (keyOf_int_mk Tryd.underlying3 HWF.out) ?_; intro cv hat hwc; obtain rfl := HTO.out cv hat; clear hat hwc))
    exact HKK.out (L.length - (i + 1)) _ _ (by have := HLT.out; omega) ⟨i + 1, _, ol, d + 1, p, _, _, _, _, _, _, _, _, _, _, _, _, _, _, _, _, _, _, _, _, _, _, _, _, _, _, _, _, _, _, _, _, _, _, _, _, _, _, _, _, _, _, _, _, _, _, _, _, _, _, _, _, _, _, _, _, _, _, _, _, _, _, _, _, _, _, _, _, _, _, _, _, _, _, rfl, by omega, by have := HLT.out; omega, rfl, ⟨by have h := HD.out; have hp_ := HPN.out.1; refine ⟨by omega, by omega, by omega, by omega, ?_⟩; (try rw [List.length_append, List.length_singleton]); omega⟩, ⟨hpr⟩, HI⟩
   have t2 : (c == 91) = false := by rw [beq_eq_false_iff_ne]; exact hcc
   clear hcc
   by_cases hcc : c = 125
   ·have hpr := HPRR.out
    rw [← HC.out] at hpr
    subst hcc
    have hx1 : opensB 125 = false := by decide
    have hx2 : closesB 125 = true := by decide
    have hx3 : (closesB 125 || (125 : Int) == 58 || (125 : Int) == 44) = true := by decide
    rw [hx1, if_neg (by decide), hx3, if_pos rfl] at hpr
    have hdb : (dz == 0) = true := by rw [HD.out.1, hd0]; rfl
    simp only [if_pos hd0] at hpr
    gi_wp2_with (first
     | (gi_at_lookup; refine wpListIn_lookup_own_int _ rfl _ _ 56 rfl 3 3 .i64 lawInt Tryd.underlying56 Tryd.underlying3 (zeroInt _) b nn _ rfl HI.out.own _ _ rfl (keyOf_int_mk Tryd.underlying3 HWF.out) ?_; intro cv hat hwc; obtain rfl := HTO.out cv hat; clear hat hwc))
    refine bodyPost_ret (results_tmp2 rfl _ _ _) rfl ?_
    rw [← hpr]
    exact ⟨_, rfl, HI.out.row, HI.out.hb.out⟩
   have t3 : (c == 125) = false := by rw [beq_eq_false_iff_ne]; exact hcc
   clear hcc
   by_cases hcc : c = 93
   ·have hpr := HPRR.out
    rw [← HC.out] at hpr
    subst hcc
    have hx1 : opensB 93 = false := by decide
    have hx2 : closesB 93 = true := by decide
    have hx3 : (closesB 93 || (93 : Int) == 58 || (93 : Int) == 44) = true := by decide
    rw [hx1, if_neg (by decide), hx3, if_pos rfl] at hpr
    have hdb : (dz == 0) = true := by rw [HD.out.1, hd0]; rfl
    simp only [if_pos hd0] at hpr
    gi_wp2_with (first
     | (gi_at_lookup; refine wpListIn_lookup_own_int _ rfl _ _ 56 rfl 3 3 .i64 lawInt Tryd.underlying56 Tryd.underlying3 (zeroInt _) b nn _ rfl HI.out.own _ _ rfl (keyOf_int_mk Tryd.underlying3 HWF.out) ?_; intro cv hat hwc; obtain rfl := HTO.out cv hat; clear hat hwc))
    refine bodyPost_ret (results_tmp2 rfl _ _ _) rfl ?_
    rw [← hpr]
    exact ⟨_, rfl, HI.out.row, HI.out.hb.out⟩
   have t4 : (c == 93) = false := by rw [beq_eq_false_iff_ne]; exact hcc
   clear hcc
   by_cases hcc : c = 58
   ·have hpr := HPRR.out
    rw [← HC.out] at hpr
    subst hcc
    have hx1 : opensB 58 = false := by decide
    have hx2 : closesB 58 = false := by decide
    have hx3 : (closesB 58 || (58 : Int) == 58 || (58 : Int) == 44) = true := by decide
    rw [hx1, if_neg (by decide), hx3, if_pos rfl] at hpr
    have hdb : (dz == 0) = true := by rw [HD.out.1, hd0]; rfl
    simp only [if_pos hd0] at hpr
    gi_wp2_with (first
     | (gi_at_lookup; refine wpListIn_lookup_own_int _ rfl _ _ 56 rfl 3 3 .i64 lawInt Tryd.underlying56 Tryd.underlying3 (zeroInt _) b nn _ rfl HI.out.own _ _ rfl (keyOf_int_mk Tryd.underlying3 HWF.out) ?_; intro cv hat hwc; obtain rfl := HTO.out cv hat; clear hat hwc))
    refine bodyPost_ret (results_tmp2 rfl _ _ _) rfl ?_
    rw [← hpr]
    exact ⟨_, rfl, HI.out.row, HI.out.hb.out⟩
   have t5 : (c == 58) = false := by rw [beq_eq_false_iff_ne]; exact hcc
   clear hcc
   by_cases hcc : c = 44
   ·have hpr := HPRR.out
    rw [← HC.out] at hpr
    subst hcc
    have hx1 : opensB 44 = false := by decide
    have hx2 : closesB 44 = false := by decide
    have hx3 : (closesB 44 || (44 : Int) == 58 || (44 : Int) == 44) = true := by decide
    rw [hx1, if_neg (by decide), hx3, if_pos rfl] at hpr
    have hdb : (dz == 0) = true := by rw [HD.out.1, hd0]; rfl
    simp only [if_pos hd0] at hpr
    gi_wp2_with (first
     | (gi_at_lookup; refine wpListIn_lookup_own_int _ rfl _ _ 56 rfl 3 3 .i64 lawInt Tryd.underlying56 Tryd.underlying3 (zeroInt _) b nn _ rfl HI.out.own _ _ rfl (keyOf_int_mk Tryd.underlying3 HWF.out) ?_; intro cv hat hwc; obtain rfl := HTO.out cv hat; clear hat hwc))
    refine bodyPost_ret (results_tmp2 rfl _ _ _) rfl ?_
    rw [← hpr]
    exact ⟨_, rfl, HI.out.row, HI.out.hb.out⟩
   have t6 : (c == 44) = false := by rw [beq_eq_false_iff_ne]; exact hcc
   clear hcc
   have hpr := HPRR.out
   rw [← HC.out] at hpr
   have hx1 : opensB c = false := by unfold opensB; rw [t1, t2]; rfl
   have hx3 : (closesB c || c == 58 || c == 44) = false := by unfold closesB; rw [t3, t4, t5, t6]; rfl
   rw [hx1, if_neg (by decide), hx3, if_neg (by decide)] at hpr
   have hdb : (dz == 0) = true := by rw [HD.out.1, hd0]; rfl
   simp only [if_pos hd0] at hpr
   have hsgx : sgq s p = false := by
    cases hsg : sgq s p with
    | false => rfl
    | true =>
     have h := (sg_facts hsg).2.2.2.2.2.2
     rw [sgx_bytes (bt_nn s p), ← HC.out, hx1, hx3] at h
     cases h
   have hte : lookV (keysM s) p = endM s p := HTOx.out.resolve_right (by rw [hsgx]; decide)
   rw [← hte] at hpr
   by_cases hz0 : lookV (keysM s) p = 0
   ·rw [if_pos hz0] at hpr
    have htb : (tz == 0) = true := by rw [HTZ.out, hz0]; rfl
    clear hte hsgx
    gi_wp2_with (first
     | (gi_at_lookup; refine wpListIn_lookup_own_int _ rfl _ _ 56 rfl 3 3 .i64 lawInt Tryd.underlying56 Tryd.underlying3 (zeroInt _) b nn _ rfl HI.out.own _ _ rfl (keyOf_int_mk Tryd.underlying3 HWF.out) ?_; intro cv hat hwc; obtain rfl := HTO.out cv hat; clear hat hwc))
    refine bodyPost_ret (results_tmp2 rfl _ _ _) rfl ?_
    rw [← hpr]
    exact ⟨_, rfl, HI.out.row, HI.out.hb.out⟩
   ·rw [if_neg hz0] at hpr
    have htb : (tz == 0) = false := ne_zero (by have := HTZ.out; omega)
    clear hte hsgx
    gi_wp2_with (first
     | (gi_at_lookup; refine wpListIn_lookup_own_int _ rfl _ _ 56 rfl 3 3 .i64 lawInt Tryd.underlying56 Tryd.underlying3 (zeroInt _) b nn _ rfl HI.out.own _ _ rfl (keyOf_int_mk Tryd.underlying3 HWF.out) ?_; intro cv hat hwc; obtain rfl := HTO.out cv hat; clear hat hwc)
     | ((with_reducible refine gate_dstIn (N := 71) rfl ?_); refine ev_litNIn HB rfl rfl #[.int .i64 ((p : Nat) : Int), .int .i64 tz] 36 ?hr ?_; (case hr => first | (go_simp; done) | (go_simp; rfl)); intro gn w5 G_gn B_gn HB5 K_gn KO5)
     | ((with_reducible refine gate_dstIn (N := 72) rfl ?_); refine ev_appendNIn HB5 rfl _ _ 24 36 (.agg #[.int .i64 0, .int .i64 0]) 2 16 rfl Tryd.underlying24 (by kernel_rfl) rfl (by decide) (by decide) vO _ _ rfl (row_below HI.out.row K_gn.out) gn [.int .i64 ((p : Nat) : Int), .int .i64 tz] rfl B_gn rfl (by intro u hu; simp at hu; rcases hu with rfl | rfl <;> rfl) HLEN.out ?_; intro v1 w6 hrow6 HB6 K6 KO6 FV6))
    have hsx : [Value.int .i64 ((p : Nat) : Int), Value.int .i64 tz] = spCells (p, lookV (keysM s) p) := by
     have h1 := HD.out.2.1
     have h2 := HTZ.out
     have h3 : (((p + 1 : Nat)) : Int) = ((p : Nat) : Int) + 1 := by omega
     simp only [spCells, h1, h2, h3]
    rw [hsx] at hrow6
    exact HKK.out (L.length - (i + 1)) _ _ (by have := HLT.out; omega) ⟨i + 1, _, ol ++ [(p, lookV (keysM s) p)], 0, p, _, _, _, _, _, _, _, _, _, _, _, _, _, _, _, _, _, _, _, _, _, _, _, _, _, _, _, _, _, _, _, _, _, _, _, _, _, _, _, _, _, _, _, _, _, _, _, _, _, _, _, _, _, _, _, _, _, _, _, _, _, _, _, _, _, _, _, _, _, _, _, _, _, _, rfl, by omega, by have := HLT.out; omega, rfl, ⟨by have h := HD.out; have hp_ := HPN.out.1; refine ⟨by omega, by omega, by omega, by omega, ?_⟩; (try rw [List.length_append, List.length_singleton]); omega⟩, ⟨hpr⟩, ⟨HI.out.appended K_gn.out (p, lookV (keysM s) p) hrow6 HB6 K6⟩⟩
  ·by_cases hcc : c = 123
   ·have hpr := HPRR.out
    rw [← HC.out] at hpr
    subst hcc
    have hx1 : opensB 123 = true := by decide
    have hx2 : closesB 123 = false := by decide
    rw [hx1, if_pos rfl] at hpr
    have hdb : (dz == 0) = false := ne_zero (by have := HD.out.1; omega)
    simp only [if_neg hd0] at hpr
    have hdn : (dz + 1 == 0) = false := ne_zero (by have := HD.out.1; omega)
    gi_wp2_with (first
     | (gi_at_lookup; refine wpListIn_lookup_own_int _ rfl _ _ 56 rfl 3 3 .i64 lawInt Tryd.underlying56 Tryd.underlying3 (zeroInt _) b nn _ rfl HI.out.own _ _ rfl (keyOf_int_mk Tryd.underlying3 HWF.out) ?_; intro cv hat hwc; obtain rfl := HTO.out cv hat; clear hat hwc))
    exact HKK.out (L.length - (i + 1)) _ _ (by have := HLT.out; omega) ⟨i + 1, _, ol, d + 1, f, _, _, _, _, _, _, _, _, _, _, _, _, _, _, _, _, _, _, _, _, _, _, _, _, _, _, _, _, _, _, _, _, _, _, _, _, _, _, _, _, _, _, _, _, _, _, _, _, _, _, _, _, _, _, _, _, _, _, _, _, _, _, _, _, _, _, _, _, _, _, _, _, _, _, rfl, by omega, by have := HLT.out; omega, rfl, ⟨by have h := HD.out; have hp_ := HPN.out.1; refine ⟨by omega, by omega, by omega, by omega, ?_⟩; (try rw [List.length_append, List.length_singleton]); omega⟩, ⟨hpr⟩, HI⟩
   have t1 : (c == 123) = false := by rw [beq_eq_false_iff_ne]; exact hcc
   clear hcc
   by_cases hcc : c = 91
   ·have hpr := HPRR.out
    rw [← HC.out] at hpr
    subst hcc
    have hx1 : opensB 91 = true := by decide
    have hx2 : closesB 91 = false := by decide
    rw [hx1, if_pos rfl] at hpr
    have hdb : (dz == 0) = false := ne_zero (by have := HD.out.1; omega)
    simp only [if_neg hd0] at hpr
    have hdn : (dz + 1 == 0) = false := ne_zero (by have := HD.out.1; omega)
    gi_wp2_with (first
     | (gi_at_lookup; refine wpListIn_lookup_own_int _ rfl _ _ 56 rfl 3 3 .i64 lawInt Tryd.underlying56 Tryd.underlying3 (zeroInt _) b nn _ rfl HI.out.own _ _ rfl (keyOf_int_mk Tryd.underlying3 HWF.out) ?_; intro cv hat hwc; obtain rfl := HTO.out cv hat; clear hat hwc))
    exact HKK.out (L.length - (i + 1)) _ _ (by have := HLT.out; omega) ⟨i + 1, _, ol, d + 1, f, _, _, _, _, _, _, _, _, _, _, _, _, _, _, _, _, _, _, _, _, _, _, _, _, _, _, _, _, _, _, _, _, _, _, _, _, _, _, _, _, _, _, _, _, _, _, _, _, _, _, _, _, _, _, _, _, _, _, _, _, _, _, _, _, _, _, _, _, _, _, _, _, _, _, rfl, by omega, by have := HLT.out; omega, rfl, ⟨by have h := HD.out; have hp_ := HPN.out.1; refine ⟨by omega, by omega, by omega, by omega, ?_⟩; (try rw [List.length_append, List.length_singleton]); omega⟩, ⟨hpr⟩, HI⟩
   have t2 : (c == 91) = false := by rw [beq_eq_false_iff_ne]; exact hcc
   clear hcc
   by_cases hcc : c = 125
   ·have hpr := HPRR.out
    rw [← HC.out] at hpr
    subst hcc
    have hx1 : opensB 125 = false := by decide
    have hx2 : closesB 125 = true := by decide
    have hx3 : (closesB 125 || (125 : Int) == 58 || (125 : Int) == 44) = true := by decide
    rw [hx1, if_neg (by decide), hx3, if_pos rfl] at hpr
    have hdb : (dz == 0) = false := ne_zero (by have := HD.out.1; omega)
    simp only [if_neg hd0] at hpr
    rw [hx2, if_pos rfl] at hpr
    by_cases hd1 : d = 1
    ·rw [if_pos hd1] at hpr
     have hdn : (dz - 1 == 0) = true := by rw [HD.out.1, hd1]; rfl
     gi_wp2_with (first
      | (gi_at_lookup; refine wpListIn_lookup_own_int _ rfl _ _ 56 rfl 3 3 .i64 lawInt Tryd.underlying56 Tryd.underlying3 (zeroInt _) b nn _ rfl HI.out.own _ _ rfl (keyOf_int_mk Tryd.underlying3 HWF.out) ?_; intro cv hat hwc; obtain rfl := HTO.out cv hat; clear hat hwc)
      | ((with_reducible refine gate_dstIn (N := 71) rfl ?_); refine ev_litNIn HB rfl rfl #[.int .i64 fz, .int .i64 (((p : Nat) : Int) + 1)] 36 ?hr ?_; (case hr => first | (go_simp; done) | (go_simp; rfl)); intro gn w5 G_gn B_gn HB5 K_gn KO5)
      | ((with_reducible refine gate_dstIn (N := 72) rfl ?_); refine ev_appendNIn HB5 rfl _ _ 24 36 (.agg #[.int .i64 0, .int .i64 0]) 2 16 rfl Tryd.underlying24 (by kernel_rfl) rfl (by decide) (by decide) vO _ _ rfl (row_below HI.out.row K_gn.out) gn [.int .i64 fz, .int .i64 (((p : Nat) : Int) + 1)] rfl B_gn rfl (by intro u hu; simp at hu; rcases hu with rfl | rfl <;> rfl) HLEN.out ?_; intro v1 w6 hrow6 HB6 K6 KO6 FV6))
     have hsx : [Value.int .i64 fz, Value.int .i64 (((p : Nat) : Int) + 1)] = spCells (f, p + 1) := by
      have h1 := HD.out.2.1
      have h2 := HTZ.out
      have h3 : (((p + 1 : Nat)) : Int) = ((p : Nat) : Int) + 1 := by omega
      simp only [spCells, h1, h2, h3]
     rw [hsx] at hrow6
     exact HKK.out (L.length - (i + 1)) _ _ (by have := HLT.out; omega) ⟨i + 1, _, ol ++ [(f, p + 1)], 0, f, _, _, _, _, _, _, _, _, _, _, _, _, _, _, _, _, _, _, _, _, _, _, _, _, _, _, _, _, _, _, _, _, _, _, _, _, _, _, _, _, _, _, _, _, _, _, _, _, _, _, _, _, _, _, _, _, _, _, _, _, _, _, _, _, _, _, _, _, _, _, _, _, _, _, rfl, by omega, by have := HLT.out; omega, rfl, ⟨by have h := HD.out; have hp_ := HPN.out.1; refine ⟨by omega, by omega, by omega, by omega, ?_⟩; (try rw [List.length_append, List.length_singleton]); omega⟩, ⟨hpr⟩, ⟨HI.out.appended K_gn.out (f, p + 1) hrow6 HB6 K6⟩⟩
    ·rw [if_neg hd1] at hpr
     have hdn : (dz - 1 == 0) = false := ne_zero (by have := HD.out.1; omega)
     gi_wp2_with (first
      | (gi_at_lookup; refine wpListIn_lookup_own_int _ rfl _ _ 56 rfl 3 3 .i64 lawInt Tryd.underlying56 Tryd.underlying3 (zeroInt _) b nn _ rfl HI.out.own _ _ rfl (keyOf_int_mk Tryd.underlying3 HWF.out) ?_; intro cv hat hwc; obtain rfl := HTO.out cv hat; clear hat hwc))
     exact HKK.out (L.length - (i + 1)) _ _ (by have := HLT.out; omega) ⟨i + 1, _, ol, d - 1, f, _, _, _, _, _, _, _, _, _, _, _, _, _, _, _, _, _, _, _, _, _, _, _, _, _, _, _, _, _, _, _, _, _, _, _, _, _, _, _, _, _, _, _, _, _, _, _, _, _, _, _, _, _, _, _, _, _, _, _, _, _, _, _, _, _, _, _, _, _, _, _, _, _, _, rfl, by omega, by have := HLT.out; omega, rfl, ⟨by have h := HD.out; have hp_ := HPN.out.1; refine ⟨by omega, by omega, by omega, by omega, ?_⟩; (try rw [List.length_append, List.length_singleton]); omega⟩, ⟨hpr⟩, HI⟩
   have t3 : (c == 125) = false := by rw [beq_eq_false_iff_ne]; exact hcc
   clear hcc
   by_cases hcc : c = 93
   ·have hpr := HPRR.out
    rw [← HC.out] at hpr
    subst hcc
    have hx1 : opensB 93 = false := by decide
    have hx2 : closesB 93 = true := by decide
    have hx3 : (closesB 93 || (93 : Int) == 58 || (93 : Int) == 44) = true := by decide
    rw [hx1, if_neg (by decide), hx3, if_pos rfl] at hpr
    have hdb : (dz == 0) = false := ne_zero (by have := HD.out.1; omega)
    simp only [if_neg hd0] at hpr
    rw [hx2, if_pos rfl] at hpr
    by_cases hd1 : d = 1
    ·rw [if_pos hd1] at hpr
     have hdn : (dz - 1 == 0) = true := by rw [HD.out.1, hd1]; rfl
     gi_wp2_with (first
      | (gi_at_lookup; refine wpListIn_lookup_own_int _ rfl _ _ 56 rfl 3 3 .i64 lawInt Tryd.underlying56 Tryd.underlying3 (zeroInt _) b nn _ rfl HI.out.own _ _ rfl (keyOf_int_mk Tryd.underlying3 HWF.out) ?_; intro cv hat hwc; obtain rfl := HTO.out cv hat; clear hat hwc)
      | ((with_reducible refine gate_dstIn (N := 71) rfl ?_); refine ev_litNIn HB rfl rfl #[.int .i64 fz, .int .i64 (((p : Nat) : Int) + 1)] 36 ?hr ?_; (case hr => first | (go_simp; done) | (go_simp; rfl)); intro gn w5 G_gn B_gn HB5 K_gn KO5)
      | ((with_reducible refine gate_dstIn (N := 72) rfl ?_); refine ev_appendNIn HB5 rfl _ _ 24 36 (.agg #[.int .i64 0, .int .i64 0]) 2 16 rfl Tryd.underlying24 (by kernel_rfl) rfl (by decide) (by decide) vO _ _ rfl (row_below HI.out.row K_gn.out) gn [.int .i64 fz, .int .i64 (((p : Nat) : Int) + 1)] rfl B_gn rfl (by intro u hu; simp at hu; rcases hu with rfl | rfl <;> rfl) HLEN.out ?_; intro v1 w6 hrow6 HB6 K6 KO6 FV6))
     have hsx : [Value.int .i64 fz, Value.int .i64 (((p : Nat) : Int) + 1)] = spCells (f, p + 1) := by
      have h1 := HD.out.2.1
      have h2 := HTZ.out
      have h3 : (((p + 1 : Nat)) : Int) = ((p : Nat) : Int) + 1 := by omega
      simp only [spCells, h1, h2, h3]
     rw [hsx] at hrow6
     exact HKK.out (L.length - (i + 1)) _ _ (by have := HLT.out; omega) ⟨i + 1, _, ol ++ [(f, p + 1)], 0, f, _, _, _, _, _, _, _, _, _, _, _, _, _, _, _, _, _, _, _, _, _, _, _, _, _, _, _, _, _, _, _, _, _, _, _, _, _, _, _, _, _, _, _, _, _, _, _, _, _, _, _, _, _, _, _, _, _, _, _, _, _, _, _, _, _, _, _, _, _, _, _, _, _, _, rfl, by omega, by have := HLT.out; omega, rfl, ⟨by have h := HD.out; have hp_ := HPN.out.1; refine ⟨by omega, by omega, by omega, by omega, ?_⟩; (try rw [List.length_append, List.length_singleton]); omega⟩, ⟨hpr⟩, ⟨HI.out.appended K_gn.out (f, p + 1) hrow6 HB6 K6⟩⟩
    ·rw [if_neg hd1] at hpr
     have hdn : (dz - 1 == 0) = false := ne_zero (by have := HD.out.1; omega)
     gi_wp2_with (first
      | (gi_at_lookup; refine wpListIn_lookup_own_int _ rfl _ _ 56 rfl 3 3 .i64 lawInt Tryd.underlying56 Tryd.underlying3 (zeroInt _) b nn _ rfl HI.out.own _ _ rfl (keyOf_int_mk Tryd.underlying3 HWF.out) ?_; intro cv hat hwc; obtain rfl := HTO.out cv hat; clear hat hwc))
     exact HKK.out (L.length - (i + 1)) _ _ (by have := HLT.out; omega) ⟨i + 1, _, ol, d - 1, f, _, _, _, _, _, _, _, _, _, _, _, _, _, _, _, _, _, _, _, _, _, _, _, _, _, _, _, _, _, _, _, _, _, _, _, _, _, _, _, _, _, _, _, _, _, _, _, _, _, _, _, _, _, _, _, _, _, _, _, _, _, _, _, _, _, _, _, _, _, _, _, _, _, _, rfl, by omega, by have := HLT.out; omega, rfl, ⟨by have h := HD.out; have hp_ := HPN.out.1; refine ⟨by omega, by omega, by omega, by omega, ?_⟩; (try rw [List.length_append, List.length_singleton]); omega⟩, ⟨hpr⟩, HI⟩
   have t4 : (c == 93) = false := by rw [beq_eq_false_iff_ne]; exact hcc
   clear hcc
   by_cases hcc : c = 58
   ·have hpr := HPRR.out
    rw [← HC.out] at hpr
    subst hcc
    have hx1 : opensB 58 = false := by decide
    have hx2 : closesB 58 = false := by decide
    have hx3 : (closesB 58 || (58 : Int) == 58 || (58 : Int) == 44) = true := by decide
    rw [hx1, if_neg (by decide), hx3, if_pos rfl] at hpr
    have hdb : (dz == 0) = false := ne_zero (by have := HD.out.1; omega)
    simp only [if_neg hd0] at hpr
    rw [hx2, if_neg (by decide)] at hpr
    gi_wp2_with (first
     | (gi_at_lookup; refine wpListIn_lookup_own_int _ rfl _ _ 56 rfl 3 3 .i64 lawInt Tryd.underlying56 Tryd.underlying3 (zeroInt _) b nn _ rfl HI.out.own _ _ rfl (keyOf_int_mk Tryd.underlying3 HWF.out) ?_; intro cv hat hwc; obtain rfl := HTO.out cv hat; clear hat hwc))
    exact HKK.out (L.length - (i + 1)) _ _ (by have := HLT.out; omega) ⟨i + 1, _, ol, d, f, _, _, _, _, _, _, _, _, _, _, _, _, _, _, _, _, _, _, _, _, _, _, _, _, _, _, _, _, _, _, _, _, _, _, _, _, _, _, _, _, _, _, _, _, _, _, _, _, _, _, _, _, _, _, _, _, _, _, _, _, _, _, _, _, _, _, _, _, _, _, _, _, _, _, rfl, by omega, by have := HLT.out; omega, rfl, ⟨by have h := HD.out; have hp_ := HPN.out.1; refine ⟨by omega, by omega, by omega, by omega, ?_⟩; (try rw [List.length_append, List.length_singleton]); omega⟩, ⟨hpr⟩, HI⟩
   have t5 : (c == 58) = false := by rw [beq_eq_false_iff_ne]; exact hcc
   clear hcc
   by_cases hcc : c = 44
   ·have hpr := HPRR.out
    rw [← HC.out] at hpr
    subst hcc
    have hx1 : opensB 44 = false := by decide
    have hx2 : closesB 44 = false := by decide
    have hx3 : (closesB 44 || (44 : Int) == 58 || (44 : Int) == 44) = true := by decide
    rw [hx1, if_neg (by decide), hx3, if_pos rfl] at hpr
    have hdb : (dz == 0) = false := ne_zero (by have := HD.out.1; omega)
    simp only [if_neg hd0] at hpr
    rw [hx2, if_neg (by decide)] at hpr
    gi_wp2_with (first
     | (gi_at_lookup; refine wpListIn_lookup_own_int _ rfl _ _ 56 rfl 3 3 .i64 lawInt Tryd.underlying56 Tryd.underlying3 (zeroInt _) b nn _ rfl HI.out.own _ _ rfl (keyOf_int_mk Tryd.underlying3 HWF.out) ?_; intro cv hat hwc; obtain rfl := HTO.out cv hat; clear hat hwc))
    exact HKK.out (L.length - (i + 1)) _ _ (by have := HLT.out; omega) ⟨i + 1, _, ol, d, f, _, _, _, _, _, _, _, _, _, _, _, _, _, _, _, _, _, _, _, _, _, _, _, _, _, _, _, _, _, _, _, _, _, _, _, _, _, _, _, _, _, _, _, _, _, _, _, _, _, _, _, _, _, _, _, _, _, _, _, _, _, _, _, _, _, _, _, _, _, _, _, _, _, _, rfl, by omega, by have := HLT.out; omega, rfl, ⟨by have h := HD.out; have hp_ := HPN.out.1; refine ⟨by omega, by omega, by omega, by omega, ?_⟩; (try rw [List.length_append, List.length_singleton]); omega⟩, ⟨hpr⟩, HI⟩
   have t6 : (c == 44) = false := by rw [beq_eq_false_iff_ne]; exact hcc
   clear hcc
   have hpr := HPRR.out
   rw [← HC.out] at hpr
   have hx1 : opensB c = false := by unfold opensB; rw [t1, t2]; rfl
   have hx3 : (closesB c || c == 58 || c == 44) = false := by unfold closesB; rw [t3, t4, t5, t6]; rfl
   rw [hx1, if_neg (by decide), hx3, if_neg (by decide)] at hpr
   have hdb : (dz == 0) = false := ne_zero (by have := HD.out.1; omega)
   simp only [if_neg hd0] at hpr
   gi_wp2_with (first
    | (gi_at_lookup; refine wpListIn_lookup_own_int _ rfl _ _ 56 rfl 3 3 .i64 lawInt Tryd.underlying56 Tryd.underlying3 (zeroInt _) b nn _ rfl HI.out.own _ _ rfl (keyOf_int_mk Tryd.underlying3 HWF.out) ?_; intro cv hat hwc; obtain rfl := HTO.out cv hat; clear hat hwc))
   exact HKK.out (L.length - (i + 1)) _ _ (by have := HLT.out; omega) ⟨i + 1, _, ol, d, f, _, _, _, _, _, _, _, _, _, _, _, _, _, _, _, _, _, _, _, _, _, _, _, _, _, _, _, _, _, _, _, _, _, _, _, _, _, _, _, _, _, _, _, _, _, _, _, _, _, _, _, _, _, _, _, _, _, _, _, _, _, _, _, _, _, _, _, _, _, _, _, _, _, _, rfl, by omega, by have := HLT.out; omega, rfl, ⟨by have h := HD.out; have hp_ := HPN.out.1; refine ⟨by omega, by omega, by omega, by omega, ?_⟩; (try rw [List.length_append, List.length_singleton]); omega⟩, ⟨hpr⟩, HI⟩
 ·have EI : i = L.length := by omega
  have hpr := HP.out
  rw [EI, List.drop_length, progF] at hpr
  have hq1 : decide ((i : Int) < (L.length : Int)) = false := decide_eq_false (by omega)
  have hq2 : decide (i < L.length) = false := decide_eq_false (by omega)
  subst hz16
  have HD1 := HD.out
  by_cases hd0 : d = 0
  ·have hdb : decide (0 < dz) = false := decide_eq_false (by omega)
   rw [if_pos hd0] at hpr
   have HPR := Aside0.mk hpr
   clear hlt hi EI hpr HD1 HP hd0
   gi_wp2
   refine bodyPost_ret (results_tmp2 rfl _ _ _) rfl ?_
   rw [← HPR.out]
   exact ⟨_, rfl, HI.out.row, HI.out.hb.out⟩
  ·have hdb : decide (0 < dz) = true := decide_eq_true (by omega)
   rw [if_neg hd0] at hpr
   have HPR := Aside0.mk hpr
   have HFZ := Aside0.mk HD1.2.1
   clear hlt hi EI hpr HD1 HP hd0
   gi_wp2
   refine bodyPost_ret (results_tmp2 rfl _ _ _) rfl ?_
   rw [← HPR.out]
   exact ⟨vO, congrArg (fun z => Ending.returned (.tuple #[vO, .int .i64 z])) HFZ.out, HI.out.row, HI.out.hb.out⟩
def stream_Split.f (a0 : ByteArray) : Option (List S36 × Int) := if a0.size ≤ 1048576 then some ((splitF a0).1.map (fun x => ⟨(x.1 : Int), (x.2 : Int)⟩), (splitF a0).2) else none
theorem spans_reps {R : S36 → List Value → Prop} (h : ∀ x : Nat × Nat, R ⟨(x.1 : Int), (x.2 : Int)⟩ (spCells x)) (l : List (Nat × Nat)) : Reps R 2 (l.map fun x => ⟨(x.1 : Int), (x.2 : Int)⟩) (l.flatMap spCells) := by
 have key : ∀ (g : Nat → Nat × Nat) (n : Nat), Reps R 2 (((List.range n).map g).map fun x => ⟨(x.1 : Int), (x.2 : Int)⟩) (((List.range n).map g).flatMap spCells) := fun g n => by
  induction n with
  | zero => exact Reps.none _ _
  | succ n ih =>
   rw [List.range_succ, List.map_append, List.map_append, List.flatMap_append]
   simpa using ih.snoc (h (g n)) rfl
 have e : l = (List.range l.length).map fun k => l.getD k (0, 0) := by
  apply List.ext_getElem?
  intro i
  rw [List.getElem?_map]
  by_cases hi : i < l.length
  ·rw [List.getElem?_range hi, Option.map_some, List.getD_eq_getElem?_getD, List.getElem?_eq_getElem hi]
   rfl
  ·rw [List.getElem?_eq_none (by omega), List.getElem?_eq_none (by rw [List.length_range]; omega)]
   rfl
 rw [e]
 exact key _ _
theorem stream_Split.calls (a0 : ByteArray) (r1 : List S36) (r2 : Int) (w : World) (hT : TabOk w) (h : stream_Split.f a0 = some (r1, r2)) :
  Calls Tryd.prog 10 #[.string a0] w fun e w' => ∃ v0_ : Value, e = .returned (.tuple #[v0_, .int .i64 r2]) ∧ Kd.R k36 36 w' w.heap.size (fun _ => True) v0_ r1 ∧ Below w.heap.size w w' := by
 unfold stream_Split.f at h
 by_cases hs : a0.size ≤ 1048576
 case neg => rw [if_neg hs] at h; cases h
 rw [if_pos hs] at h
 simp only [Option.some.injEq, Prod.mk.injEq] at h
 obtain ⟨rfl, rfl⟩ := h
 refine (stream_Split.walk a0 hs w hT).mono ?_
 rintro e w' ⟨v, rfl, hrow, hb⟩
 refine ⟨v, rfl, ⟨fun _ _ => trivial, _, ?_, spans_reps (fun x => k36_mkM _ _ _ _) _⟩, hb⟩
 rw [List.length_map]
 exact hrow
end


def quarryref07_marks.l0 : Nat → ByteArray → List Bool → Bool → Int → Option (List Bool)
 | 0, _, _, _, _ => none
 | k + 1, x0, x3, x4, x5 => if x5 < (x0.size : Int) then (if 0 ≤ x5 then (if (bt x0 x5) = 34 then (if x5 < (x3.length : Int) then ((some (x3.set (x5 : Int).toNat (!x4) : List Bool)).bind fun y110 => (if (bt x0 x5) = 92 then (quarryref07_marks.l0 k x0 y110 (!x4) (wrap64 (x5 + 1))) else (quarryref07_marks.l0 k x0 y110 false (wrap64 (x5 + 1))))) else (none)) else (if x5 < (x3.length : Int) then ((some (x3.set (x5 : Int).toNat false : List Bool)).bind fun y111 => (if (bt x0 x5) = 92 then (quarryref07_marks.l0 k x0 y111 (!x4) (wrap64 (x5 + 1))) else (quarryref07_marks.l0 k x0 y111 false (wrap64 (x5 + 1))))) else (none))) else (none)) else (some x3)
def quarryref07_marks.f (k : Nat) (a0 : ByteArray) : Option (List Bool) := if 0 ≤ (a0.size : Int) then (if ((a0.size : Int) : Int).toNat ≤ 281474976710656 then (quarryref07_marks.l0 k a0 (List.replicate ((a0.size : Int) : Int).toNat false) false 0) else (none)) else (none)
theorem quarryref07_marks.mono_l : ∀ k, (∀ y0 y1 y2 y3, LeO (quarryref07_marks.l0 k y0 y1 y2 y3) (quarryref07_marks.l0 (k + 1) y0 y1 y2 y3))
 | 0 => fun _ _ _ _ r h => by simp [quarryref07_marks.l0] at h
 | k + 1 => by
  have ih0 := quarryref07_marks.mono_l k
  ·intro y0 y1 y2 y3
   unfold quarryref07_marks.l0
   repeat' first
   | (with_reducible exact ih0 _ _ _ _)
   | (with_reducible exact LeO.refl _)
   | (with_reducible exact LeO.none _)
   | (with_reducible refine LeO.ite ?_ ?_)
   | (with_reducible refine LeO.bind ?_ (fun _ => ?_))
   | exact ih0 _ _ _ _
   | exact LeO.none _
   | refine LeO.ite ?_ ?_
   | refine LeO.bind ?_ (fun _ => ?_)
theorem quarryref07_marks.mono : ∀ a0 k, LeO (quarryref07_marks.f k a0) (quarryref07_marks.f (k + 1) a0) := by
 intro a0 k
 have ih0 := quarryref07_marks.mono_l k
 unfold quarryref07_marks.f
 repeat' first
   | (with_reducible exact ih0 _ _ _ _)
   | (with_reducible exact LeO.refl _)
   | (with_reducible exact LeO.none _)
   | (with_reducible refine LeO.ite ?_ ?_)
   | (with_reducible refine LeO.bind ?_ (fun _ => ?_))
   | exact ih0 _ _ _ _
   | exact LeO.none _
   | refine LeO.ite ?_ ?_
   | refine LeO.bind ?_ (fun _ => ?_)
set_option maxHeartbeats 8000000 in
set_option maxRecDepth 100000 in
theorem quarryref07_marks.calls (k : Nat) (a0 : ByteArray) (r : List Bool) (w : World) (h : quarryref07_marks.f k a0 = some r) :
  Calls Tryd.prog 57 #[.string a0] w fun e w' => ∃ v0_ : Value, e = .returned (v0_) ∧ Kd.R Kd.bool 4 w' w.heap.size (fun _ => True) v0_ r ∧ Below w.heap.size w w' := by
 have HB := Aside0.mk (Below.refl w.heap.size w)
 have H : (if 0 ≤ (a0.size : Int) then (if ((a0.size : Int) : Int).toNat ≤ 281474976710656 then (quarryref07_marks.l0 k a0 (List.replicate ((a0.size : Int) : Int).toNat false) false 0) else (none)) else (none)) = some r := h
 clear h
 by_cases c2 : 0 ≤ (a0.size : Int)
 ·rw [if_pos c2] at H
  have c2b0 := eq_true c2
  have c2b1 : decide (0 ≤ (a0.size : Int)) = true := decide_eq_true c2
  clear c2
  by_cases c3 : ((a0.size : Int) : Int).toNat ≤ 281474976710656
  ·rw [if_pos c3] at H
   have c3b0 := eq_true c3
   have c3b1 : decide (((a0.size : Int) : Int).toNat ≤ 281474976710656) = true := decide_eq_true c3
   clear c3
   obtain ⟨y107, hy107⟩ : ∃ y_ : List Bool, y_ = (List.replicate ((a0.size : Int) : Int).toNat false) := ⟨_, rfl⟩
   replace H : (quarryref07_marks.l0 k a0 y107 false 0) = some r := by first | (rw [hy107]; with_reducible exact H) | (have H2_ := (Option.bind_some _ _).symm.trans H; rw [hy107]; with_reducible exact H2_) | (have H2_ := (Option.bind_some _ _).symm.trans H; with_reducible exact H2_) | with_reducible exact H | (rw [hy107]; exact H) | exact H
   have Ny107 := Aside0.mk hy107
   clear hy107
   have H' := Aside0.mk H
   clear H
   go_enter Tryd.func57, Tryd.ntmps57
   go_wp2_with (first | ((with_reducible refine gate_dst (N := 8) rfl ?_); refine Kd.R_make Kd.bool _ 4 rfl (N := 8) rfl 65 _ _ rfl (a0.size : Int) rfl rfl Tryd.underlying65 (.bool false) 1 info4 rfl (by decide) (by omega) false (ok := fun _ => True) (okp := fun _ => True) rfl (fun _ hk => hk) trivial (of_decide_eq_true (by first | (with_reducible assumption) | assumption)) (Nat.le_trans (Nat.mul_le_mul_right _ (of_decide_eq_true (by first | (with_reducible assumption) | assumption) : (a0.size : Int).toNat ≤ 281474976710656)) (by omega)) (Below.refl _ _) (Nat.le_refl _) ?_; intro v108 w4 ho5 hb hg_ hnew_; clear hg_ hnew_; (first | rw [← Ny107.out] at ho5 | (simp only [Int.reduceToNat] at ho5; rw [← Ny107.out] at ho5)); have n0_ := Aside0.mk (Kd.R_lower ho5 (below_size (by repeat (first | (with_reducible first | exact HB.out | apply below_alloc | apply pw_below_drewN | apply below_drew1) | exact HB.out)))); have n1_ := Aside0.mk (below_step (by repeat (first | (with_reducible first | exact HB.out | apply below_alloc | apply pw_below_drewN | apply below_drew1) | exact HB.out)) hb); clear HB; have HO109 := n0_; have HB := n1_; clear n0_ n1_; clear hb ho5))
   go_loopg [4, 5] k (fun kq v4 v5 w' => ∃ (x3_1 : List Bool) (x4_1 : Bool) (x5_1 : Int), v4 = .bool x4_1 ∧ v5 = .int .i64 x5_1 ∧ Aside0 (quarryref07_marks.l0 kq a0 x3_1 x4_1 x5_1 = some r) ∧ Aside0 (kq ≤ k) ∧ Aside0 (Kd.R Kd.bool 4 w' w.heap.size (fun _ => True) v108 x3_1) ∧ Aside0 (Below w.heap.size w w'))
   case atStart => exact ⟨(y107), (false), (0), (by first | rfl | (simp; done) | (simp [*]; done)), (by first | rfl | (simp; done) | (simp [*]; done)), H', ⟨Nat.le_refl _⟩, ⟨by (with_reducible repeat (first | apply Kd.R_alloc | apply Kd.R_drewN | apply Kd.R_drew)); exact HO109.out⟩, ⟨by repeat (first | (with_reducible first | exact HB.out | apply below_alloc | apply pw_below_drewN | apply below_drew1) | exact HB.out)⟩⟩
   case round =>
    clear H'
    try clear c2
    try clear c2b0
    try clear c2b1
    try clear p2
    try clear c3
    try clear c3b0
    try clear c3b1
    try clear c5
    obtain ⟨x3_1, x4_1, x5_1, rfl, rfl, HA, HK1, HO_3, HB⟩ := hrel
    cases gk with
    | zero => exact absurd HA.out (by simp [quarryref07_marks.l0])
    | succ k1 =>
     have H := HA.out
     clear HA
     simp only [quarryref07_marks.l0] at H
     by_cases c6 : x5_1 < (a0.size : Int)
     ·rw [if_pos c6] at H
      have c6b0 : decide (x5_1 < (a0.size : Int)) = true := decide_eq_true c6
      clear c6
      by_cases c7 : 0 ≤ x5_1
      ·rw [if_pos c7] at H
       have c7b0 : decide (0 ≤ x5_1) = true := decide_eq_true c7
       clear c7
       by_cases c9 : (bt a0 x5_1) = 34
       ·rw [if_pos c9] at H
        have c9b0 : ((bt a0 x5_1) == 34) = true := beq_iff_eq.mpr c9
        have c9b1 : ((bt a0 x5_1) != 34) = false := bne_eq_false_iff_eq.mpr c9
        clear c9
        by_cases c10 : x5_1 < (x3_1.length : Int)
        ·rw [if_pos c10] at H
         have c10b0 : decide (x5_1 < (x3_1.length : Int)) = true := decide_eq_true c10
         clear c10
         obtain ⟨y110, hy110⟩ : ∃ y_ : List Bool, y_ = (x3_1.set (x5_1 : Int).toNat (!x4_1)) := ⟨_, rfl⟩
         replace H : (if (bt a0 x5_1) = 92 then (quarryref07_marks.l0 k1 a0 y110 (!x4_1) (wrap64 (x5_1 + 1))) else (quarryref07_marks.l0 k1 a0 y110 false (wrap64 (x5_1 + 1)))) = some r := by first | (rw [hy110]; with_reducible exact H) | (have H2_ := (Option.bind_some _ _).symm.trans H; rw [hy110]; with_reducible exact H2_) | (have H2_ := (Option.bind_some _ _).symm.trans H; with_reducible exact H2_) | with_reducible exact H | (rw [hy110]; exact H) | exact H
         have Ny110 := Aside0.mk hy110
         clear hy110
         by_cases c13 : (bt a0 x5_1) = 92
         ·rw [if_pos c13] at H
          have c13b0 : ((bt a0 x5_1) == 92) = true := beq_iff_eq.mpr c13
          have c13b1 : ((bt a0 x5_1) != 92) = false := bne_eq_false_iff_eq.mpr c13
          clear c13
          have H' := Aside0.mk H
          clear H
          have p8 : 0 ≤ (x5_1 : Int) := of_decide_eq_true (by first | (with_reducible assumption) | assumption)
          have q8 : x5_1 < (a0.size : Int) := of_decide_eq_true (by first | (with_reducible assumption) | assumption)
          have hx8 := bt_at a0 x5_1
          replace p8 := eq_true p8
          replace q8 := eq_true q8
          have p11 : 0 ≤ (x5_1 : Int) := of_decide_eq_true (by first | (with_reducible assumption) | assumption)
          have q11 : (x5_1 : Int) < ((x3_1.length : Int) : Int) := of_decide_eq_true (by first | (with_reducible assumption) | assumption)
          obtain ⟨go11, co11, eo11, gb11, gl11, cl11, HG11⟩ := Kd.R_form HO_3.out (by omega)
          (first | cases eo11 | (injection eo11 with ea_ en_ ec_; (first | subst ea_ | (injection ea_ with ea_; subst ea_)); subst ec_; clear en_))
          have GB11 := Aside0.mk gb11
          have GG11 := Aside0.mk HG11
          clear gb11 gl11 HG11
          obtain ⟨hx11_0, hf11_0⟩ := Kd.R_celln false HO_3.out (x5_1 : Int) p11 q11
          replace p11 := eq_true p11
          replace q11 := eq_true q11
          have HP14 := Kd.R_putg HO_3.out (x5_1 : Int) (!x4_1)
          go_wp2_with (first | ((with_reducible refine gate_store (t := 4) (p := 25) rfl ?_); refine store_event (t := 4) (p := 25) (v := ?vo_w15) (w1 := (wr.setCell ⟨go11, (x5_1 : Int).toNat, none⟩ (.bool (!x4_1)))) ?hg ?ho ?hn ?hr ?_; (case ho => rfl); (case hg => rfl); (case hn => rfl); (case hr => first | (go_simp; done) | (go_simp; rfl)); intro w15 hw; have hg : wr.grownBy w15 (some go11) := (by rw [hw]; exact HP14.2); have hp_ : Kd.R Kd.bool 4 w15 w.heap.size (fun _ => True) (.slice (some ⟨go11, 0, none⟩) x3_1.length co11) y110 := (by rw [hw, Ny110.out]; exact HP14.1); clear HP14; have n0_ := Aside0.mk (hp_); have n1_ := Aside0.mk ((by rw [hw]; exact below_set (HB.out) GB11.out : Below w.heap.size w w15)); clear HO_3; clear HB; have HO_3 := n0_; have HB := n1_; clear n0_ n1_; clear hg hw hp_; have p12 : 0 ≤ (x5_1 : Int) := of_decide_eq_true (by first | (with_reducible assumption) | assumption); have q12 : x5_1 < (a0.size : Int) := of_decide_eq_true (by first | (with_reducible assumption) | assumption); have hx12 := bt_at a0 x5_1; replace p12 := eq_true p12; replace q12 := eq_true q12))
          go_roundg k1
          case measure => have := HK1.out; omega
          case rel => exact ⟨(y110), (!x4_1), (wrap64 (x5_1 + 1)), (by first | rfl | (simp; done) | (simp [*]; done)), (by first | rfl | (simp; done) | (simp [*]; done)), H', ⟨by have := HK1.out; omega⟩, ⟨by (with_reducible repeat (first | apply Kd.R_alloc | apply Kd.R_drewN | apply Kd.R_drew)); exact HO_3.out⟩, ⟨by repeat (first | (with_reducible first | exact HB.out | apply below_alloc | apply pw_below_drewN | apply below_drew1) | exact HB.out)⟩⟩
         ·rw [if_neg c13] at H
          have c13b0 : ((bt a0 x5_1) == 92) = false := beq_eq_false_iff_ne.mpr c13
          have c13b1 : ((bt a0 x5_1) != 92) = true := bne_iff_ne.mpr c13
          have H' := Aside0.mk H
          clear H
          have p8 : 0 ≤ (x5_1 : Int) := of_decide_eq_true (by first | (with_reducible assumption) | assumption)
          have q8 : x5_1 < (a0.size : Int) := of_decide_eq_true (by first | (with_reducible assumption) | assumption)
          have hx8 := bt_at a0 x5_1
          replace p8 := eq_true p8
          replace q8 := eq_true q8
          have p11 : 0 ≤ (x5_1 : Int) := of_decide_eq_true (by first | (with_reducible assumption) | assumption)
          have q11 : (x5_1 : Int) < ((x3_1.length : Int) : Int) := of_decide_eq_true (by first | (with_reducible assumption) | assumption)
          obtain ⟨go11, co11, eo11, gb11, gl11, cl11, HG11⟩ := Kd.R_form HO_3.out (by omega)
          (first | cases eo11 | (injection eo11 with ea_ en_ ec_; (first | subst ea_ | (injection ea_ with ea_; subst ea_)); subst ec_; clear en_))
          have GB11 := Aside0.mk gb11
          have GG11 := Aside0.mk HG11
          clear gb11 gl11 HG11
          obtain ⟨hx11_0, hf11_0⟩ := Kd.R_celln false HO_3.out (x5_1 : Int) p11 q11
          replace p11 := eq_true p11
          replace q11 := eq_true q11
          have HP16 := Kd.R_putg HO_3.out (x5_1 : Int) (!x4_1)
          go_wp2_with (first | ((with_reducible refine gate_store (t := 4) (p := 25) rfl ?_); refine store_event (t := 4) (p := 25) (v := ?vo_w17) (w1 := (wr.setCell ⟨go11, (x5_1 : Int).toNat, none⟩ (.bool (!x4_1)))) ?hg ?ho ?hn ?hr ?_; (case ho => rfl); (case hg => rfl); (case hn => rfl); (case hr => first | (go_simp; done) | (go_simp; rfl)); intro w17 hw; have hg : wr.grownBy w17 (some go11) := (by rw [hw]; exact HP16.2); have hp_ : Kd.R Kd.bool 4 w17 w.heap.size (fun _ => True) (.slice (some ⟨go11, 0, none⟩) x3_1.length co11) y110 := (by rw [hw, Ny110.out]; exact HP16.1); clear HP16; have n0_ := Aside0.mk (hp_); have n1_ := Aside0.mk ((by rw [hw]; exact below_set (HB.out) GB11.out : Below w.heap.size w w17)); clear HO_3; clear HB; have HO_3 := n0_; have HB := n1_; clear n0_ n1_; clear hg hw hp_; have p12 : 0 ≤ (x5_1 : Int) := of_decide_eq_true (by first | (with_reducible assumption) | assumption); have q12 : x5_1 < (a0.size : Int) := of_decide_eq_true (by first | (with_reducible assumption) | assumption); have hx12 := bt_at a0 x5_1; replace p12 := eq_true p12; replace q12 := eq_true q12))
          go_roundg k1
          case measure => have := HK1.out; omega
          case rel => exact ⟨(y110), (false), (wrap64 (x5_1 + 1)), (by first | rfl | (simp; done) | (simp [*]; done)), (by first | rfl | (simp; done) | (simp [*]; done)), H', ⟨by have := HK1.out; omega⟩, ⟨by (with_reducible repeat (first | apply Kd.R_alloc | apply Kd.R_drewN | apply Kd.R_drew)); exact HO_3.out⟩, ⟨by repeat (first | (with_reducible first | exact HB.out | apply below_alloc | apply pw_below_drewN | apply below_drew1) | exact HB.out)⟩⟩
        ·rw [if_neg c10] at H
         exact absurd H (by simp)
       ·rw [if_neg c9] at H
        have c9b0 : ((bt a0 x5_1) == 34) = false := beq_eq_false_iff_ne.mpr c9
        have c9b1 : ((bt a0 x5_1) != 34) = true := bne_iff_ne.mpr c9
        by_cases c18 : x5_1 < (x3_1.length : Int)
        ·rw [if_pos c18] at H
         have c18b0 : decide (x5_1 < (x3_1.length : Int)) = true := decide_eq_true c18
         clear c18
         obtain ⟨y111, hy111⟩ : ∃ y_ : List Bool, y_ = (x3_1.set (x5_1 : Int).toNat false) := ⟨_, rfl⟩
         replace H : (if (bt a0 x5_1) = 92 then (quarryref07_marks.l0 k1 a0 y111 (!x4_1) (wrap64 (x5_1 + 1))) else (quarryref07_marks.l0 k1 a0 y111 false (wrap64 (x5_1 + 1)))) = some r := by first | (rw [hy111]; with_reducible exact H) | (have H2_ := (Option.bind_some _ _).symm.trans H; rw [hy111]; with_reducible exact H2_) | (have H2_ := (Option.bind_some _ _).symm.trans H; with_reducible exact H2_) | with_reducible exact H | (rw [hy111]; exact H) | exact H
         have Ny111 := Aside0.mk hy111
         clear hy111
         by_cases c21 : (bt a0 x5_1) = 92
         ·rw [if_pos c21] at H
          have c21b0 : ((bt a0 x5_1) == 92) = true := beq_iff_eq.mpr c21
          have c21b1 : ((bt a0 x5_1) != 92) = false := bne_eq_false_iff_eq.mpr c21
          clear c21
          have H' := Aside0.mk H
          clear H
          have p8 : 0 ≤ (x5_1 : Int) := of_decide_eq_true (by first | (with_reducible assumption) | assumption)
          have q8 : x5_1 < (a0.size : Int) := of_decide_eq_true (by first | (with_reducible assumption) | assumption)
          have hx8 := bt_at a0 x5_1
          replace p8 := eq_true p8
          replace q8 := eq_true q8
          have p19 : 0 ≤ (x5_1 : Int) := of_decide_eq_true (by first | (with_reducible assumption) | assumption)
          have q19 : (x5_1 : Int) < ((x3_1.length : Int) : Int) := of_decide_eq_true (by first | (with_reducible assumption) | assumption)
          obtain ⟨go19, co19, eo19, gb19, gl19, cl19, HG19⟩ := Kd.R_form HO_3.out (by omega)
          (first | cases eo19 | (injection eo19 with ea_ en_ ec_; (first | subst ea_ | (injection ea_ with ea_; subst ea_)); subst ec_; clear en_))
          have GB19 := Aside0.mk gb19
          have GG19 := Aside0.mk HG19
          clear gb19 gl19 HG19
          obtain ⟨hx19_0, hf19_0⟩ := Kd.R_celln false HO_3.out (x5_1 : Int) p19 q19
          replace p19 := eq_true p19
          replace q19 := eq_true q19
          have HP22 := Kd.R_putg HO_3.out (x5_1 : Int) false
          go_wp2_with (first | ((with_reducible refine gate_store (t := 4) (p := 25) rfl ?_); refine store_event (t := 4) (p := 25) (v := ?vo_w23) (w1 := (wr.setCell ⟨go19, (x5_1 : Int).toNat, none⟩ (.bool false))) ?hg ?ho ?hn ?hr ?_; (case ho => rfl); (case hg => rfl); (case hn => rfl); (case hr => first | (go_simp; done) | (go_simp; rfl)); intro w23 hw; have hg : wr.grownBy w23 (some go19) := (by rw [hw]; exact HP22.2); have hp_ : Kd.R Kd.bool 4 w23 w.heap.size (fun _ => True) (.slice (some ⟨go19, 0, none⟩) x3_1.length co19) y111 := (by rw [hw, Ny111.out]; exact HP22.1); clear HP22; have n0_ := Aside0.mk (hp_); have n1_ := Aside0.mk ((by rw [hw]; exact below_set (HB.out) GB19.out : Below w.heap.size w w23)); clear HO_3; clear HB; have HO_3 := n0_; have HB := n1_; clear n0_ n1_; clear hg hw hp_; have p20 : 0 ≤ (x5_1 : Int) := of_decide_eq_true (by first | (with_reducible assumption) | assumption); have q20 : x5_1 < (a0.size : Int) := of_decide_eq_true (by first | (with_reducible assumption) | assumption); have hx20 := bt_at a0 x5_1; replace p20 := eq_true p20; replace q20 := eq_true q20))
          go_roundg k1
          case measure => have := HK1.out; omega
          case rel => exact ⟨(y111), (!x4_1), (wrap64 (x5_1 + 1)), (by first | rfl | (simp; done) | (simp [*]; done)), (by first | rfl | (simp; done) | (simp [*]; done)), H', ⟨by have := HK1.out; omega⟩, ⟨by (with_reducible repeat (first | apply Kd.R_alloc | apply Kd.R_drewN | apply Kd.R_drew)); exact HO_3.out⟩, ⟨by repeat (first | (with_reducible first | exact HB.out | apply below_alloc | apply pw_below_drewN | apply below_drew1) | exact HB.out)⟩⟩
         ·rw [if_neg c21] at H
          have c21b0 : ((bt a0 x5_1) == 92) = false := beq_eq_false_iff_ne.mpr c21
          have c21b1 : ((bt a0 x5_1) != 92) = true := bne_iff_ne.mpr c21
          have H' := Aside0.mk H
          clear H
          have p8 : 0 ≤ (x5_1 : Int) := of_decide_eq_true (by first | (with_reducible assumption) | assumption)
          have q8 : x5_1 < (a0.size : Int) := of_decide_eq_true (by first | (with_reducible assumption) | assumption)
          have hx8 := bt_at a0 x5_1
          replace p8 := eq_true p8
          replace q8 := eq_true q8
          have p19 : 0 ≤ (x5_1 : Int) := of_decide_eq_true (by first | (with_reducible assumption) | assumption)
          have q19 : (x5_1 : Int) < ((x3_1.length : Int) : Int) := of_decide_eq_true (by first | (with_reducible assumption) | assumption)
          obtain ⟨go19, co19, eo19, gb19, gl19, cl19, HG19⟩ := Kd.R_form HO_3.out (by omega)
          (first | cases eo19 | (injection eo19 with ea_ en_ ec_; (first | subst ea_ | (injection ea_ with ea_; subst ea_)); subst ec_; clear en_))
          have GB19 := Aside0.mk gb19
          have GG19 := Aside0.mk HG19
          clear gb19 gl19 HG19
          obtain ⟨hx19_0, hf19_0⟩ := Kd.R_celln false HO_3.out (x5_1 : Int) p19 q19
          replace p19 := eq_true p19
          replace q19 := eq_true q19
          have HP24 := Kd.R_putg HO_3.out (x5_1 : Int) false
          go_wp2_with (first | ((with_reducible refine gate_store (t := 4) (p := 25) rfl ?_); refine store_event (t := 4) (p := 25) (v := ?vo_w25) (w1 := (wr.setCell ⟨go19, (x5_1 : Int).toNat, none⟩ (.bool false))) ?hg ?ho ?hn ?hr ?_; (case ho => rfl); (case hg => rfl); (case hn => rfl); (case hr => first | (go_simp; done) | (go_simp; rfl)); intro w25 hw; have hg : wr.grownBy w25 (some go19) := (by rw [hw]; exact HP24.2); have hp_ : Kd.R Kd.bool 4 w25 w.heap.size (fun _ => True) (.slice (some ⟨go19, 0, none⟩) x3_1.length co19) y111 := (by rw [hw, Ny111.out]; exact HP24.1); clear HP24; have n0_ := Aside0.mk (hp_); have n1_ := Aside0.mk ((by rw [hw]; exact below_set (HB.out) GB19.out : Below w.heap.size w w25)); clear HO_3; clear HB; have HO_3 := n0_; have HB := n1_; clear n0_ n1_; clear hg hw hp_; have p20 : 0 ≤ (x5_1 : Int) := of_decide_eq_true (by first | (with_reducible assumption) | assumption); have q20 : x5_1 < (a0.size : Int) := of_decide_eq_true (by first | (with_reducible assumption) | assumption); have hx20 := bt_at a0 x5_1; replace p20 := eq_true p20; replace q20 := eq_true q20))
          go_roundg k1
          case measure => have := HK1.out; omega
          case rel => exact ⟨(y111), (false), (wrap64 (x5_1 + 1)), (by first | rfl | (simp; done) | (simp [*]; done)), (by first | rfl | (simp; done) | (simp [*]; done)), H', ⟨by have := HK1.out; omega⟩, ⟨by (with_reducible repeat (first | apply Kd.R_alloc | apply Kd.R_drewN | apply Kd.R_drew)); exact HO_3.out⟩, ⟨by repeat (first | (with_reducible first | exact HB.out | apply below_alloc | apply pw_below_drewN | apply below_drew1) | exact HB.out)⟩⟩
        ·rw [if_neg c18] at H
         exact absurd H (by simp)
      ·rw [if_neg c7] at H
       exact absurd H (by simp)
     ·rw [if_neg c6] at H
      have c6b0 : decide (x5_1 < (a0.size : Int)) = false := decide_eq_false c6
      clear c6
      obtain rfl := Option.some.inj H
      go_wp2
      go_ret
      exact ⟨_, by first | rfl | (simp [errW_none, errW_some] <;> rfl) | (simp [*, errW_none, errW_some] <;> rfl), by (with_reducible repeat (first | apply Kd.R_alloc | apply Kd.R_drewN | apply Kd.R_drew)); exact HO_3.out, by repeat (first | (with_reducible first | exact HB.out | apply below_alloc | apply pw_below_drewN | apply below_drew1) | exact HB.out)⟩
  ·rw [if_neg c3] at H
   exact absurd H (by simp)
 ·rw [if_neg c2] at H
  exact absurd H (by simp)

def quarryref07_Is.f (k : Nat) (a0 : ByteArray) : Option (List Bool) := (quarryref07_marks.f k a0).bind fun t112 => (some t112)
theorem quarryref07_Is.mono : ∀ a0 k, LeO (quarryref07_Is.f k a0) (quarryref07_Is.f (k + 1) a0) := by
 intro a0 k
 unfold quarryref07_Is.f
 repeat' first
   | (with_reducible exact quarryref07_marks.mono _ _)
   | (with_reducible exact LeO.refl _)
   | (with_reducible exact LeO.none _)
   | (with_reducible refine LeO.ite ?_ ?_)
   | (with_reducible refine LeO.bind ?_ (fun _ => ?_))
   | exact quarryref07_marks.mono _ _
   | exact LeO.none _
   | refine LeO.ite ?_ ?_
   | refine LeO.bind ?_ (fun _ => ?_)
set_option maxHeartbeats 8000000 in
set_option maxRecDepth 100000 in
theorem quarryref07_Is.calls (k : Nat) (a0 : ByteArray) (r : List Bool) (w : World) (h : quarryref07_Is.f k a0 = some r) :
  Calls Tryd.prog 42 #[.string a0] w fun e w' => ∃ v0_ : Value, e = .returned (v0_) ∧ Kd.R Kd.bool 4 w' w.heap.size (fun _ => True) v0_ r ∧ Below w.heap.size w w' := by
 have HB := Aside0.mk (Below.refl w.heap.size w)
 have H : ((quarryref07_marks.f k a0).bind fun t112 => (some t112)) = some r := h
 clear h
 replace H := Option.bind_eq_some_iff.mp H
 obtain ⟨t112, A20, H⟩ := H
 replace H : (some t112) = some r := H
 have A2 := Aside0.mk A20
 clear A20
 obtain rfl := Option.some.inj H
 go_enter Tryd.func42, Tryd.ntmps42
 go_wp2_with (first | ((with_reducible refine gate_callee (f := 57) rfl ?_); refine goesL_ (some 4) rfl rfl Tryd.func57 (by kernel_rfl) rfl #[.string a0] rfl (by (try simp only [List.map_toArray, List.map_cons, List.map_nil]); first | done | rfl | (simp only [List.length_drop, List.length_take]; rfl)) ?_; (with_reducible refine (quarryref07_marks.calls k a0 t112 _ A2.out).mono ?_); rintro e w3 ⟨v113, rfl, ho0, hb⟩; refine ⟨_, rfl, ?_⟩; have n0_ := Aside0.mk (Kd.R_lower ho0 (below_size (by repeat (first | (with_reducible first | exact HB.out | apply below_alloc | apply pw_below_drewN | apply below_drew1) | exact HB.out)))); have n1_ := Aside0.mk (below_step (by repeat (first | (with_reducible first | exact HB.out | apply below_alloc | apply pw_below_drewN | apply below_drew1) | exact HB.out)) hb); clear HB; have HO114 := n0_; have HB := n1_; clear n0_ n1_; (try clear hb); (try clear hb2); (try clear hk); (try clear hi); (try clear ho0)))
 go_ret
 exact ⟨_, by first | rfl | (simp [errW_none, errW_some] <;> rfl) | (simp [*, errW_none, errW_some] <;> rfl), by (with_reducible repeat (first | apply Kd.R_alloc | apply Kd.R_drewN | apply Kd.R_drew)); exact HO114.out, by repeat (first | (with_reducible first | exact HB.out | apply below_alloc | apply pw_below_drewN | apply below_drew1) | exact HB.out)⟩

def quarryref07_inside.l0 : Nat → List Bool → Bool → Int → Option (List Bool)
 | 0, _, _, _ => none
 | k + 1, x3, x4, x5 => if x5 < (x3.length : Int) then (if 0 ≤ x5 then (if rdOf false x3 x5 = true then (quarryref07_inside.l0 k (x3.set (x5 : Int).toNat (!x4)) (!x4) (wrap64 (x5 + 1))) else (quarryref07_inside.l0 k (x3.set (x5 : Int).toNat x4) x4 (wrap64 (x5 + 1)))) else (none)) else (some x3)
def quarryref07_inside.f (k : Nat) (a0 : ByteArray) : Option (List Bool) := (quarryref07_marks.f k a0).bind fun t115 => (quarryref07_inside.l0 k t115 false 0)
theorem quarryref07_inside.mono_l : ∀ k, (∀ y0 y1 y2, LeO (quarryref07_inside.l0 k y0 y1 y2) (quarryref07_inside.l0 (k + 1) y0 y1 y2))
 | 0 => fun _ _ _ r h => by simp [quarryref07_inside.l0] at h
 | k + 1 => by
  have ih0 := quarryref07_inside.mono_l k
  ·intro y0 y1 y2
   unfold quarryref07_inside.l0
   repeat' first
   | (with_reducible exact ih0 _ _ _)
   | (with_reducible exact quarryref07_marks.mono _ _)
   | (with_reducible exact LeO.refl _)
   | (with_reducible exact LeO.none _)
   | (with_reducible refine LeO.ite ?_ ?_)
   | (with_reducible refine LeO.bind ?_ (fun _ => ?_))
   | exact ih0 _ _ _
   | exact quarryref07_marks.mono _ _
   | exact LeO.none _
   | refine LeO.ite ?_ ?_
   | refine LeO.bind ?_ (fun _ => ?_)
theorem quarryref07_inside.mono : ∀ a0 k, LeO (quarryref07_inside.f k a0) (quarryref07_inside.f (k + 1) a0) := by
 intro a0 k
 have ih0 := quarryref07_inside.mono_l k
 unfold quarryref07_inside.f
 repeat' first
   | (with_reducible exact ih0 _ _ _)
   | (with_reducible exact quarryref07_marks.mono _ _)
   | (with_reducible exact LeO.refl _)
   | (with_reducible exact LeO.none _)
   | (with_reducible refine LeO.ite ?_ ?_)
   | (with_reducible refine LeO.bind ?_ (fun _ => ?_))
   | exact ih0 _ _ _
   | exact quarryref07_marks.mono _ _
   | exact LeO.none _
   | refine LeO.ite ?_ ?_
   | refine LeO.bind ?_ (fun _ => ?_)
set_option maxHeartbeats 8000000 in
set_option maxRecDepth 100000 in
theorem quarryref07_inside.calls (k : Nat) (a0 : ByteArray) (r : List Bool) (w : World) (h : quarryref07_inside.f k a0 = some r) :
  Calls Tryd.prog 58 #[.string a0] w fun e w' => ∃ v0_ : Value, e = .returned (v0_) ∧ Kd.R Kd.bool 4 w' w.heap.size (fun _ => True) v0_ r ∧ Below w.heap.size w w' := by
 have HB := Aside0.mk (Below.refl w.heap.size w)
 have H : ((quarryref07_marks.f k a0).bind fun t115 => (quarryref07_inside.l0 k t115 false 0)) = some r := h
 clear h
 replace H := Option.bind_eq_some_iff.mp H
 obtain ⟨t115, A20, H⟩ := H
 replace H : (quarryref07_inside.l0 k t115 false 0) = some r := H
 have A2 := Aside0.mk A20
 clear A20
 have H' := Aside0.mk H
 clear H
 go_enter Tryd.func58, Tryd.ntmps58
 go_wp2_with (first | ((with_reducible refine gate_callee (f := 57) rfl ?_); refine goesL_ (some 7) rfl rfl Tryd.func57 (by kernel_rfl) rfl #[.string a0] rfl (by (try simp only [List.map_toArray, List.map_cons, List.map_nil]); first | done | rfl | (simp only [List.length_drop, List.length_take]; rfl)) ?_; (with_reducible refine (quarryref07_marks.calls k a0 t115 _ A2.out).mono ?_); rintro e w3 ⟨v116, rfl, ho0, hb⟩; refine ⟨_, rfl, ?_⟩; have n0_ := Aside0.mk (Kd.R_lower ho0 (below_size (by repeat (first | (with_reducible first | exact HB.out | apply below_alloc | apply pw_below_drewN | apply below_drew1) | exact HB.out)))); have n1_ := Aside0.mk (below_step (by repeat (first | (with_reducible first | exact HB.out | apply below_alloc | apply pw_below_drewN | apply below_drew1) | exact HB.out)) hb); clear HB; have HO117 := n0_; have HB := n1_; clear n0_ n1_; (try clear hb); (try clear hb2); (try clear hk); (try clear hi); (try clear ho0)))
 go_loopg [4, 5] k (fun kq v4 v5 w' => ∃ (x3_1 : List Bool) (x4_1 : Bool) (x5_1 : Int), v4 = .bool x4_1 ∧ v5 = .int .i64 x5_1 ∧ Aside0 (quarryref07_inside.l0 kq x3_1 x4_1 x5_1 = some r) ∧ Aside0 (kq ≤ k) ∧ Aside0 (Kd.R Kd.bool 4 w' w.heap.size (fun _ => True) v116 x3_1) ∧ Aside0 (Below w.heap.size w w'))
 case atStart => exact ⟨(t115), (false), (0), (by first | rfl | (simp; done) | (simp [*]; done)), (by first | rfl | (simp; done) | (simp [*]; done)), H', ⟨Nat.le_refl _⟩, ⟨by (with_reducible repeat (first | apply Kd.R_alloc | apply Kd.R_drewN | apply Kd.R_drew)); exact HO117.out⟩, ⟨by repeat (first | (with_reducible first | exact HB.out | apply below_alloc | apply pw_below_drewN | apply below_drew1) | exact HB.out)⟩⟩
 case round =>
  clear H'
  try clear p2
  obtain ⟨x3_1, x4_1, x5_1, rfl, rfl, HA, HK1, HO_3, HB⟩ := hrel
  cases gk with
  | zero => exact absurd HA.out (by simp [quarryref07_inside.l0])
  | succ k1 =>
   have H := HA.out
   clear HA
   simp only [quarryref07_inside.l0] at H
   by_cases c4 : x5_1 < (x3_1.length : Int)
   ·rw [if_pos c4] at H
    have c4b0 : decide (x5_1 < (x3_1.length : Int)) = true := decide_eq_true c4
    clear c4
    by_cases c5 : 0 ≤ x5_1
    ·rw [if_pos c5] at H
     have c5b0 : decide (0 ≤ x5_1) = true := decide_eq_true c5
     clear c5
     obtain ⟨bq6, hbq6⟩ : ∃ b_ : Bool, b_ = (rdOf false x3_1 x5_1) := ⟨_, rfl⟩
     replace H : (if bq6 = true then (quarryref07_inside.l0 k1 (x3_1.set (x5_1 : Int).toNat (!x4_1)) (!x4_1) (wrap64 (x5_1 + 1))) else (quarryref07_inside.l0 k1 (x3_1.set (x5_1 : Int).toNat x4_1) x4_1 (wrap64 (x5_1 + 1)))) = some r := by rw [← hbq6] at H; exact H
     have Nbq6 := Aside0.mk hbq6
     clear hbq6
     by_cases c7 : bq6 = true
     ·subst c7
      have H1 : (quarryref07_inside.l0 k1 (x3_1.set (x5_1 : Int).toNat (!x4_1)) (!x4_1) (wrap64 (x5_1 + 1))) = some r := by rw [if_pos rfl] at H; exact H
      clear H
      have H := H1
      clear H1
      obtain ⟨y119, hy119⟩ : ∃ y_ : List Bool, y_ = (x3_1.set (x5_1 : Int).toNat (!x4_1)) := ⟨_, rfl⟩
      replace H : (quarryref07_inside.l0 k1 y119 (!x4_1) (wrap64 (x5_1 + 1))) = some r := by first | (rw [hy119]; with_reducible exact H) | (have H2_ := (Option.bind_some _ _).symm.trans H; rw [hy119]; with_reducible exact H2_) | (have H2_ := (Option.bind_some _ _).symm.trans H; with_reducible exact H2_) | with_reducible exact H | (rw [hy119]; exact H) | exact H
      have Ny119 := Aside0.mk hy119
      clear hy119
      have H' := Aside0.mk H
      clear H
      obtain ⟨Ao9, co9, eo9⟩ := Kd.R_slice HO_3.out
      subst eo9
      have p118 : 0 ≤ (x5_1 : Int) := of_decide_eq_true (by first | (with_reducible assumption) | assumption)
      have q118 : x5_1 < (x3_1.length : Int) := of_decide_eq_true (by first | (with_reducible assumption) | assumption)
      obtain ⟨ad118, e118, hx118_0⟩ := Kd.at_bool (Kd.R_reads' HO_3.out).2.2 x5_1 p118 q118
      (try rw [← Nbq6.out] at hx118_0)
      cases e118
      replace p118 := eq_true p118
      replace q118 := eq_true q118
      have p8 : 0 ≤ (x5_1 : Int) := of_decide_eq_true (by first | (with_reducible assumption) | assumption)
      have q8 : (x5_1 : Int) < ((x3_1.length : Int) : Int) := of_decide_eq_true (by first | (with_reducible assumption) | assumption)
      obtain ⟨go8, co8, eo8, gb8, gl8, cl8, HG8⟩ := Kd.R_form HO_3.out (by omega)
      (first | cases eo8 | (injection eo8 with ea_ en_ ec_; (first | subst ea_ | (injection ea_ with ea_; subst ea_)); subst ec_; clear en_))
      have GB8 := Aside0.mk gb8
      have GG8 := Aside0.mk HG8
      clear gb8 gl8 HG8
      (first | simp only [add_plain] at hx118_0 | skip)
      obtain ⟨hx8_0, hf8_0⟩ := Kd.R_celln false HO_3.out (x5_1 : Int) p8 q8
      replace p8 := eq_true p8
      replace q8 := eq_true q8
      have HP10 := Kd.R_putg HO_3.out (x5_1 : Int) (!x4_1)
      go_wp2_with (first | ((with_reducible refine gate_store (t := 4) (p := 23) rfl ?_); refine store_event (t := 4) (p := 23) (v := ?vo_w11) (w1 := (wr.setCell ⟨go8, (x5_1 : Int).toNat, none⟩ (.bool (!x4_1)))) ?hg ?ho ?hn ?hr ?_; (case ho => rfl); (case hg => rfl); (case hn => rfl); (case hr => first | (go_simp; done) | (go_simp; rfl)); intro w11 hw; have hg : wr.grownBy w11 (some go8) := (by rw [hw]; exact HP10.2); have hp_ : Kd.R Kd.bool 4 w11 w.heap.size (fun _ => True) (.slice (some ⟨go8, 0, none⟩) x3_1.length co9) y119 := (by rw [hw, Ny119.out]; exact HP10.1); clear HP10; have n0_ := Aside0.mk (hp_); have n1_ := Aside0.mk ((by rw [hw]; exact below_set (HB.out) GB8.out : Below w.heap.size w w11)); clear HO_3; clear HB; have HO_3 := n0_; have HB := n1_; clear n0_ n1_; clear hg hw hp_))
      go_roundg k1
      case measure => have := HK1.out; omega
      case rel => exact ⟨(y119), (!x4_1), (wrap64 (x5_1 + 1)), (by first | rfl | (simp; done) | (simp [*]; done)), (by first | rfl | (simp; done) | (simp [*]; done)), H', ⟨by have := HK1.out; omega⟩, ⟨by (with_reducible repeat (first | apply Kd.R_alloc | apply Kd.R_drewN | apply Kd.R_drew)); exact HO_3.out⟩, ⟨by repeat (first | (with_reducible first | exact HB.out | apply below_alloc | apply pw_below_drewN | apply below_drew1) | exact HB.out)⟩⟩
     ·replace c7 := Bool.eq_false_iff.mpr c7
      subst c7
      have H1 : (quarryref07_inside.l0 k1 (x3_1.set (x5_1 : Int).toNat x4_1) x4_1 (wrap64 (x5_1 + 1))) = some r := by rw [if_neg (show ¬ (false = true) by decide)] at H; exact H
      clear H
      have H := H1
      clear H1
      obtain ⟨y120, hy120⟩ : ∃ y_ : List Bool, y_ = (x3_1.set (x5_1 : Int).toNat x4_1) := ⟨_, rfl⟩
      replace H : (quarryref07_inside.l0 k1 y120 x4_1 (wrap64 (x5_1 + 1))) = some r := by first | (rw [hy120]; with_reducible exact H) | (have H2_ := (Option.bind_some _ _).symm.trans H; rw [hy120]; with_reducible exact H2_) | (have H2_ := (Option.bind_some _ _).symm.trans H; with_reducible exact H2_) | with_reducible exact H | (rw [hy120]; exact H) | exact H
      have Ny120 := Aside0.mk hy120
      clear hy120
      have H' := Aside0.mk H
      clear H
      obtain ⟨Ao13, co13, eo13⟩ := Kd.R_slice HO_3.out
      subst eo13
      have p118 : 0 ≤ (x5_1 : Int) := of_decide_eq_true (by first | (with_reducible assumption) | assumption)
      have q118 : x5_1 < (x3_1.length : Int) := of_decide_eq_true (by first | (with_reducible assumption) | assumption)
      obtain ⟨ad118, e118, hx118_0⟩ := Kd.at_bool (Kd.R_reads' HO_3.out).2.2 x5_1 p118 q118
      (try rw [← Nbq6.out] at hx118_0)
      cases e118
      replace p118 := eq_true p118
      replace q118 := eq_true q118
      have p12 : 0 ≤ (x5_1 : Int) := of_decide_eq_true (by first | (with_reducible assumption) | assumption)
      have q12 : (x5_1 : Int) < ((x3_1.length : Int) : Int) := of_decide_eq_true (by first | (with_reducible assumption) | assumption)
      obtain ⟨go12, co12, eo12, gb12, gl12, cl12, HG12⟩ := Kd.R_form HO_3.out (by omega)
      (first | cases eo12 | (injection eo12 with ea_ en_ ec_; (first | subst ea_ | (injection ea_ with ea_; subst ea_)); subst ec_; clear en_))
      have GB12 := Aside0.mk gb12
      have GG12 := Aside0.mk HG12
      clear gb12 gl12 HG12
      (first | simp only [add_plain] at hx118_0 | skip)
      obtain ⟨hx12_0, hf12_0⟩ := Kd.R_celln false HO_3.out (x5_1 : Int) p12 q12
      replace p12 := eq_true p12
      replace q12 := eq_true q12
      have HP14 := Kd.R_putg HO_3.out (x5_1 : Int) x4_1
      go_wp2_with (first | ((with_reducible refine gate_store (t := 4) (p := 23) rfl ?_); refine store_event (t := 4) (p := 23) (v := ?vo_w15) (w1 := (wr.setCell ⟨go12, (x5_1 : Int).toNat, none⟩ (.bool x4_1))) ?hg ?ho ?hn ?hr ?_; (case ho => rfl); (case hg => rfl); (case hn => rfl); (case hr => first | (go_simp; done) | (go_simp; rfl)); intro w15 hw; have hg : wr.grownBy w15 (some go12) := (by rw [hw]; exact HP14.2); have hp_ : Kd.R Kd.bool 4 w15 w.heap.size (fun _ => True) (.slice (some ⟨go12, 0, none⟩) x3_1.length co13) y120 := (by rw [hw, Ny120.out]; exact HP14.1); clear HP14; have n0_ := Aside0.mk (hp_); have n1_ := Aside0.mk ((by rw [hw]; exact below_set (HB.out) GB12.out : Below w.heap.size w w15)); clear HO_3; clear HB; have HO_3 := n0_; have HB := n1_; clear n0_ n1_; clear hg hw hp_))
      go_roundg k1
      case measure => have := HK1.out; omega
      case rel => exact ⟨(y120), (x4_1), (wrap64 (x5_1 + 1)), (by first | rfl | (simp; done) | (simp [*]; done)), (by first | rfl | (simp; done) | (simp [*]; done)), H', ⟨by have := HK1.out; omega⟩, ⟨by (with_reducible repeat (first | apply Kd.R_alloc | apply Kd.R_drewN | apply Kd.R_drew)); exact HO_3.out⟩, ⟨by repeat (first | (with_reducible first | exact HB.out | apply below_alloc | apply pw_below_drewN | apply below_drew1) | exact HB.out)⟩⟩
    ·rw [if_neg c5] at H
     exact absurd H (by simp)
   ·rw [if_neg c4] at H
    have c4b0 : decide (x5_1 < (x3_1.length : Int)) = false := decide_eq_false c4
    clear c4
    obtain rfl := Option.some.inj H
    obtain ⟨Ao16, co16, eo16⟩ := Kd.R_slice HO_3.out
    subst eo16
    go_wp2
    go_ret
    exact ⟨_, by first | rfl | (simp [errW_none, errW_some] <;> rfl) | (simp [*, errW_none, errW_some] <;> rfl), by (with_reducible repeat (first | apply Kd.R_alloc | apply Kd.R_drewN | apply Kd.R_drew)); exact HO_3.out, by repeat (first | (with_reducible first | exact HB.out | apply below_alloc | apply pw_below_drewN | apply below_drew1) | exact HB.out)⟩

def quarryref07_In.f (k : Nat) (a0 : ByteArray) : Option (List Bool) := (quarryref07_inside.f k a0).bind fun t121 => (some t121)
theorem quarryref07_In.mono : ∀ a0 k, LeO (quarryref07_In.f k a0) (quarryref07_In.f (k + 1) a0) := by
 intro a0 k
 unfold quarryref07_In.f
 repeat' first
   | (with_reducible exact quarryref07_inside.mono _ _)
   | (with_reducible exact LeO.refl _)
   | (with_reducible exact LeO.none _)
   | (with_reducible refine LeO.ite ?_ ?_)
   | (with_reducible refine LeO.bind ?_ (fun _ => ?_))
   | exact quarryref07_inside.mono _ _
   | exact LeO.none _
   | refine LeO.ite ?_ ?_
   | refine LeO.bind ?_ (fun _ => ?_)
set_option maxHeartbeats 8000000 in
set_option maxRecDepth 100000 in
theorem quarryref07_In.calls (k : Nat) (a0 : ByteArray) (r : List Bool) (w : World) (h : quarryref07_In.f k a0 = some r) :
  Calls Tryd.prog 43 #[.string a0] w fun e w' => ∃ v0_ : Value, e = .returned (v0_) ∧ Kd.R Kd.bool 4 w' w.heap.size (fun _ => True) v0_ r ∧ Below w.heap.size w w' := by
 have HB := Aside0.mk (Below.refl w.heap.size w)
 have H : ((quarryref07_inside.f k a0).bind fun t121 => (some t121)) = some r := h
 clear h
 replace H := Option.bind_eq_some_iff.mp H
 obtain ⟨t121, A20, H⟩ := H
 replace H : (some t121) = some r := H
 have A2 := Aside0.mk A20
 clear A20
 obtain rfl := Option.some.inj H
 go_enter Tryd.func43, Tryd.ntmps43
 go_wp2_with (first | ((with_reducible refine gate_callee (f := 58) rfl ?_); refine goesL_ (some 4) rfl rfl Tryd.func58 (by kernel_rfl) rfl #[.string a0] rfl (by (try simp only [List.map_toArray, List.map_cons, List.map_nil]); first | done | rfl | (simp only [List.length_drop, List.length_take]; rfl)) ?_; (with_reducible refine (quarryref07_inside.calls k a0 t121 _ A2.out).mono ?_); rintro e w3 ⟨v122, rfl, ho0, hb⟩; refine ⟨_, rfl, ?_⟩; have n0_ := Aside0.mk (Kd.R_lower ho0 (below_size (by repeat (first | (with_reducible first | exact HB.out | apply below_alloc | apply pw_below_drewN | apply below_drew1) | exact HB.out)))); have n1_ := Aside0.mk (below_step (by repeat (first | (with_reducible first | exact HB.out | apply below_alloc | apply pw_below_drewN | apply below_drew1) | exact HB.out)) hb); clear HB; have HO123 := n0_; have HB := n1_; clear n0_ n1_; (try clear hb); (try clear hb2); (try clear hk); (try clear hi); (try clear ho0)))
 go_ret
 exact ⟨_, by first | rfl | (simp [errW_none, errW_some] <;> rfl) | (simp [*, errW_none, errW_some] <;> rfl), by (with_reducible repeat (first | apply Kd.R_alloc | apply Kd.R_drewN | apply Kd.R_drew)); exact HO123.out, by repeat (first | (with_reducible first | exact HB.out | apply below_alloc | apply pw_below_drewN | apply below_drew1) | exact HB.out)⟩

end Go.Proofs.YtfihkkjkifkemaaDoor.PS
end
-- PSx8
section
namespace Go.Proofs.YtfihkkjkifkemaaDoor.PS
open Go.RowKit Go.Proofs.YtfihkkjkifkemaaDoorW.PrintWords Go.Proofs.YtfihkkjkifkemaaDoorW.PrintLast Go.Proofs.YtfihkkjkifkemaaDoorW.PrintMore
attribute [local go_sem] max2_int min2_int max_two min_two max_three min_three max_four min_four   -- for this text's walks alone
set_option linter.unusedVariables false
set_option linter.unusedSimpArgs false

mutual
def quarryref27_kinds.l0 : Nat → ByteArray → List Bool → List Bool → List Int → Int → Option (List Int × List Bool)
  | 0, _, _, _, _, _ => none
  | k + 1, x0, x4, x5, x6, x7 => if x7 < (x0.size : Int) then (if 0 ≤ x7 then (if x7 < (x4.length : Int) then (if rdOf false x4 x7 = true then (if x7 < (x5.length : Int) then (quarryref27_kinds.j1 k x0 x4 x5 x6 x7 4 (rdOf false x5 x7)) else (none)) else (quarryref27_kinds.j1 k x0 x4 x5 x6 x7 4 false)) else (none)) else (none)) else (some (x6, x5))
def quarryref27_kinds.j1 : Nat → ByteArray → List Bool → List Bool → List Int → Int → Int → Bool → Option (List Int × List Bool)
  | 0, _, _, _, _, _, _, _ => none
  | k + 1, x0, x4, x5, x6, x7, x8, x19 => if x19 = true then (if x6.length < 17592186044416 then (quarryref27_kinds.l0 k x0 x4 x5 (x6 ++ [1]) (wrap64 (x7 + 1))) else (none)) else (if 0 ≤ x7 then (if x7 < (x4.length : Int) then (if rdOf false x4 x7 = true then (quarryref27_kinds.j2 k x0 x4 x5 x6 x7 x8 true) else (if x7 < (x5.length : Int) then (quarryref27_kinds.j2 k x0 x4 x5 x6 x7 x8 (rdOf false x5 x7)) else (none))) else (none)) else (none))
def quarryref27_kinds.j2 : Nat → ByteArray → List Bool → List Bool → List Int → Int → Int → Bool → Option (List Int × List Bool)
  | 0, _, _, _, _, _, _, _ => none
  | k + 1, x0, x4, x5, x6, x7, x8, x30 => if x30 = true then (if x6.length < 17592186044416 then (quarryref27_kinds.l0 k x0 x4 x5 (x6 ++ [0]) (wrap64 (x7 + 1))) else (none)) else (if 0 ≤ x7 then (if x7 < (x0.size : Int) then (if (bt x0 x7) = 32 then (quarryref27_kinds.j3 k x0 x4 x5 x6 x7 x8 true) else (if (bt x0 x7) = 9 then (quarryref27_kinds.j3 k x0 x4 x5 x6 x7 x8 true) else (if (bt x0 x7) = 10 then (quarryref27_kinds.j3 k x0 x4 x5 x6 x7 x8 true) else (quarryref27_kinds.j3 k x0 x4 x5 x6 x7 x8 ((bt x0 x7) == 13))))) else (none)) else (none))
def quarryref27_kinds.j3 : Nat → ByteArray → List Bool → List Bool → List Int → Int → Int → Bool → Option (List Int × List Bool)
  | 0, _, _, _, _, _, _, _ => none
  | k + 1, x0, x4, x5, x6, x7, x8, x41 => if x41 = true then (if x6.length < 17592186044416 then (quarryref27_kinds.l0 k x0 x4 x5 (x6 ++ [2]) (wrap64 (x7 + 1))) else (none)) else (if 0 ≤ x7 then (if x7 < (x0.size : Int) then (if (bt x0 x7) = 123 then (if x6.length < 17592186044416 then (quarryref27_kinds.l0 k x0 x4 x5 (x6 ++ [3]) (wrap64 (x7 + 1))) else (none)) else (if (bt x0 x7) = 125 then (if x6.length < 17592186044416 then (quarryref27_kinds.l0 k x0 x4 x5 (x6 ++ [3]) (wrap64 (x7 + 1))) else (none)) else (if (bt x0 x7) = 91 then (if x6.length < 17592186044416 then (quarryref27_kinds.l0 k x0 x4 x5 (x6 ++ [3]) (wrap64 (x7 + 1))) else (none)) else (if (bt x0 x7) = 93 then (if x6.length < 17592186044416 then (quarryref27_kinds.l0 k x0 x4 x5 (x6 ++ [3]) (wrap64 (x7 + 1))) else (none)) else (if (bt x0 x7) = 58 then (if x6.length < 17592186044416 then (quarryref27_kinds.l0 k x0 x4 x5 (x6 ++ [3]) (wrap64 (x7 + 1))) else (none)) else (if (bt x0 x7) = 44 then (if x6.length < 17592186044416 then (quarryref27_kinds.l0 k x0 x4 x5 (x6 ++ [3]) (wrap64 (x7 + 1))) else (none)) else (if x6.length < 17592186044416 then (quarryref27_kinds.l0 k x0 x4 x5 (x6 ++ [x8]) (wrap64 (x7 + 1))) else (none)))))))) else (none)) else (none))
end
def quarryref27_kinds.f (k : Nat) (a0 : ByteArray) : Option (List Int × List Bool) := (quarryref07_Is.f k a0).bind fun t124 => ((quarryref07_In.f k a0).bind fun t127 => (quarryref27_kinds.l0 k a0 t124 t127 ([] : List Int) 0))
theorem quarryref27_kinds.mono_l : ∀ k, (∀ y0 y1 y2 y3 y4, LeO (quarryref27_kinds.l0 k y0 y1 y2 y3 y4) (quarryref27_kinds.l0 (k + 1) y0 y1 y2 y3 y4)) ∧ (∀ y0 y1 y2 y3 y4 y5 y6, LeO (quarryref27_kinds.j1 k y0 y1 y2 y3 y4 y5 y6) (quarryref27_kinds.j1 (k + 1) y0 y1 y2 y3 y4 y5 y6)) ∧ (∀ y0 y1 y2 y3 y4 y5 y6, LeO (quarryref27_kinds.j2 k y0 y1 y2 y3 y4 y5 y6) (quarryref27_kinds.j2 (k + 1) y0 y1 y2 y3 y4 y5 y6)) ∧ (∀ y0 y1 y2 y3 y4 y5 y6, LeO (quarryref27_kinds.j3 k y0 y1 y2 y3 y4 y5 y6) (quarryref27_kinds.j3 (k + 1) y0 y1 y2 y3 y4 y5 y6))
  | 0 => ⟨fun _ _ _ _ _ r h => by simp [quarryref27_kinds.l0] at h, fun _ _ _ _ _ _ _ r h => by simp [quarryref27_kinds.j1] at h, fun _ _ _ _ _ _ _ r h => by simp [quarryref27_kinds.j2] at h, fun _ _ _ _ _ _ _ r h => by simp [quarryref27_kinds.j3] at h⟩
  | k + 1 => by
    obtain ⟨ih0, ih1, ih2, ih3⟩ := quarryref27_kinds.mono_l k
    refine ⟨?_, ?_, ?_, ?_⟩
    · intro y0 y1 y2 y3 y4
      unfold quarryref27_kinds.l0
      repeat' first
      | (with_reducible exact ih0 _ _ _ _ _)
      | (with_reducible exact ih1 _ _ _ _ _ _ _)
      | (with_reducible exact ih2 _ _ _ _ _ _ _)
      | (with_reducible exact ih3 _ _ _ _ _ _ _)
      | (with_reducible exact quarryref07_In.mono _ _)
      | (with_reducible exact quarryref07_Is.mono _ _)
      | (with_reducible exact LeO.refl _)
      | (with_reducible exact LeO.none _)
      | (with_reducible refine LeO.ite ?_ ?_)
      | (with_reducible refine LeO.bind ?_ (fun _ => ?_))
      | exact ih0 _ _ _ _ _
      | exact ih1 _ _ _ _ _ _ _
      | exact ih2 _ _ _ _ _ _ _
      | exact ih3 _ _ _ _ _ _ _
      | exact quarryref07_In.mono _ _
      | exact quarryref07_Is.mono _ _
      | exact LeO.none _
      | refine LeO.ite ?_ ?_
      | refine LeO.bind ?_ (fun _ => ?_)
    · intro y0 y1 y2 y3 y4 y5 y6
      unfold quarryref27_kinds.j1
      repeat' first
      | (with_reducible exact ih0 _ _ _ _ _)
      | (with_reducible exact ih1 _ _ _ _ _ _ _)
      | (with_reducible exact ih2 _ _ _ _ _ _ _)
      | (with_reducible exact ih3 _ _ _ _ _ _ _)
      | (with_reducible exact quarryref07_In.mono _ _)
      | (with_reducible exact quarryref07_Is.mono _ _)
      | (with_reducible exact LeO.refl _)
      | (with_reducible exact LeO.none _)
      | (with_reducible refine LeO.ite ?_ ?_)
      | (with_reducible refine LeO.bind ?_ (fun _ => ?_))
      | exact ih0 _ _ _ _ _
      | exact ih1 _ _ _ _ _ _ _
      | exact ih2 _ _ _ _ _ _ _
      | exact ih3 _ _ _ _ _ _ _
      | exact quarryref07_In.mono _ _
      | exact quarryref07_Is.mono _ _
      | exact LeO.none _
      | refine LeO.ite ?_ ?_
      | refine LeO.bind ?_ (fun _ => ?_)
    · intro y0 y1 y2 y3 y4 y5 y6
      unfold quarryref27_kinds.j2
      repeat' first
      | (with_reducible exact ih0 _ _ _ _ _)
      | (with_reducible exact ih1 _ _ _ _ _ _ _)
      | (with_reducible exact ih2 _ _ _ _ _ _ _)
      | (with_reducible exact ih3 _ _ _ _ _ _ _)
      | (with_reducible exact quarryref07_In.mono _ _)
      | (with_reducible exact quarryref07_Is.mono _ _)
      | (with_reducible exact LeO.refl _)
      | (with_reducible exact LeO.none _)
      | (with_reducible refine LeO.ite ?_ ?_)
      | (with_reducible refine LeO.bind ?_ (fun _ => ?_))
      | exact ih0 _ _ _ _ _
      | exact ih1 _ _ _ _ _ _ _
      | exact ih2 _ _ _ _ _ _ _
      | exact ih3 _ _ _ _ _ _ _
      | exact quarryref07_In.mono _ _
      | exact quarryref07_Is.mono _ _
      | exact LeO.none _
      | refine LeO.ite ?_ ?_
      | refine LeO.bind ?_ (fun _ => ?_)
    · intro y0 y1 y2 y3 y4 y5 y6
      unfold quarryref27_kinds.j3
      repeat' first
      | (with_reducible exact ih0 _ _ _ _ _)
      | (with_reducible exact ih1 _ _ _ _ _ _ _)
      | (with_reducible exact ih2 _ _ _ _ _ _ _)
      | (with_reducible exact ih3 _ _ _ _ _ _ _)
      | (with_reducible exact quarryref07_In.mono _ _)
      | (with_reducible exact quarryref07_Is.mono _ _)
      | (with_reducible exact LeO.refl _)
      | (with_reducible exact LeO.none _)
      | (with_reducible refine LeO.ite ?_ ?_)
      | (with_reducible refine LeO.bind ?_ (fun _ => ?_))
      | exact ih0 _ _ _ _ _
      | exact ih1 _ _ _ _ _ _ _
      | exact ih2 _ _ _ _ _ _ _
      | exact ih3 _ _ _ _ _ _ _
      | exact quarryref07_In.mono _ _
      | exact quarryref07_Is.mono _ _
      | exact LeO.none _
      | refine LeO.ite ?_ ?_
      | refine LeO.bind ?_ (fun _ => ?_)
theorem quarryref27_kinds.mono : ∀ a0 k, LeO (quarryref27_kinds.f k a0) (quarryref27_kinds.f (k + 1) a0) := by
  intro a0 k
  obtain ⟨ih0, ih1, ih2, ih3⟩ := quarryref27_kinds.mono_l k
  unfold quarryref27_kinds.f
  repeat' first
      | (with_reducible exact ih0 _ _ _ _ _)
      | (with_reducible exact ih1 _ _ _ _ _ _ _)
      | (with_reducible exact ih2 _ _ _ _ _ _ _)
      | (with_reducible exact ih3 _ _ _ _ _ _ _)
      | (with_reducible exact quarryref07_In.mono _ _)
      | (with_reducible exact quarryref07_Is.mono _ _)
      | (with_reducible exact LeO.refl _)
      | (with_reducible exact LeO.none _)
      | (with_reducible refine LeO.ite ?_ ?_)
      | (with_reducible refine LeO.bind ?_ (fun _ => ?_))
      | exact ih0 _ _ _ _ _
      | exact ih1 _ _ _ _ _ _ _
      | exact ih2 _ _ _ _ _ _ _
      | exact ih3 _ _ _ _ _ _ _
      | exact quarryref07_In.mono _ _
      | exact quarryref07_Is.mono _ _
      | exact LeO.none _
      | refine LeO.ite ?_ ?_
      | refine LeO.bind ?_ (fun _ => ?_)
set_option maxHeartbeats 8000000 in
set_option maxRecDepth 100000 in
theorem quarryref27_kinds.calls (k : Nat) (a0 : ByteArray) (r1 : List Int) (r2 : List Bool) (w : World) (h : quarryref27_kinds.f k a0 = some (r1, r2)) :
    Calls Tryd.prog 29 #[.string a0] w fun e w' => ∃ v0_ v1_ : Value, e = .returned (.tuple #[v0_, v1_]) ∧ Kd.R (Kd.int .i64) 3 w' w.heap.size (fun _ => True) v0_ r1 ∧ Kd.R Kd.bool 4 w' w.heap.size (fun _ => True) v1_ r2 ∧ Below w.heap.size w w' := by
  have HB := Aside0.mk (Below.refl w.heap.size w)
  have H : ((quarryref07_Is.f k a0).bind fun t124 => ((quarryref07_In.f k a0).bind fun t127 => (quarryref27_kinds.l0 k a0 t124 t127 ([] : List Int) 0))) = some (r1, r2) := h
  clear h
  replace H := Option.bind_eq_some_iff.mp H
  obtain ⟨t124, A20, H⟩ := H
  replace H : ((quarryref07_In.f k a0).bind fun t127 => (quarryref27_kinds.l0 k a0 t124 t127 ([] : List Int) 0)) = some (r1, r2) := H
  have A2 := Aside0.mk A20
  clear A20
  replace H := Option.bind_eq_some_iff.mp H
  obtain ⟨t127, A30, H⟩ := H
  replace H : (quarryref27_kinds.l0 k a0 t124 t127 ([] : List Int) 0) = some (r1, r2) := H
  have A3 := Aside0.mk A30
  clear A30
  have H' := Aside0.mk H
  clear H
  go_enter Tryd.func29, Tryd.ntmps29
  go_wp2_with (first | ((with_reducible refine gate_callee (f := 42) rfl ?_); refine goesL_ (some 10) rfl rfl Tryd.func42 (by kernel_rfl) rfl #[.string a0] rfl (by (try simp only [List.map_toArray, List.map_cons, List.map_nil]); first | done | rfl | (simp only [List.length_drop, List.length_take]; rfl)) ?_; (with_reducible refine (quarryref07_Is.calls k a0 t124 _ A2.out).mono ?_); rintro e w4 ⟨v125, rfl, ho0, hb⟩; refine ⟨_, rfl, ?_⟩; have n0_ := Aside0.mk (Kd.R_lower ho0 (below_size (by repeat (first | (with_reducible first | exact HB.out | apply below_alloc | apply pw_below_drewN | apply below_drew1) | exact HB.out)))); have n1_ := Aside0.mk (below_step (by repeat (first | (with_reducible first | exact HB.out | apply below_alloc | apply pw_below_drewN | apply below_drew1) | exact HB.out)) hb); clear HB; have HO126 := n0_; have HB := n1_; clear n0_ n1_; (try clear hb); (try clear hb2); (try clear hk); (try clear hi); (try clear ho0)) | ((with_reducible refine gate_callee (f := 43) rfl ?_); refine goesL_ (some 12) rfl rfl Tryd.func43 (by kernel_rfl) rfl #[.string a0] rfl (by (try simp only [List.map_toArray, List.map_cons, List.map_nil]); first | done | rfl | (simp only [List.length_drop, List.length_take]; rfl)) ?_; (with_reducible refine (quarryref07_In.calls k a0 t127 _ A3.out).mono ?_); rintro e w5 ⟨v128, rfl, ho0, hb⟩; refine ⟨_, rfl, ?_⟩; have n0_ := Aside0.mk (Kd.R_elder' (by (with_reducible repeat (first | apply Kd.R_alloc | apply Kd.R_drewN | apply Kd.R_drew)); exact HO126.out) (Kd.R_base ho0) hb); have n1_ := Aside0.mk (Kd.R_lower (Kd.R_new' ho0 (Kd.R_lt (by (with_reducible repeat (first | apply Kd.R_alloc | apply Kd.R_drewN | apply Kd.R_drew)); exact HO126.out))) (below_size (by repeat (first | (with_reducible first | exact HB.out | apply below_alloc | apply pw_below_drewN | apply below_drew1) | exact HB.out)))); have n2_ := Aside0.mk (below_step (by repeat (first | (with_reducible first | exact HB.out | apply below_alloc | apply pw_below_drewN | apply below_drew1) | exact HB.out)) hb); clear HO126; clear HB; have HO126 := n0_; have HO129 := n1_; have HB := n2_; clear n0_ n1_ n2_; (try clear hb); (try clear hb2); (try clear hk); (try clear hi); (try clear ho0)))
  go_loopg [6, 7] k (fun kq v6 v7 w' => ∃ (x6_1 : List Int) (x7_1 : Int), v7 = .int .i64 x7_1 ∧ Aside0 (quarryref27_kinds.l0 kq a0 t124 t127 x6_1 x7_1 = some (r1, r2)) ∧ Aside0 (kq ≤ k) ∧ Aside0 (Kd.R Kd.bool 4 w' w.heap.size (fun k_ => some k_ ≠ (v128 : Value).ownBlock) v125 t124) ∧ Aside0 (Kd.R Kd.bool 4 w' w.heap.size (fun k_ => some k_ ≠ (v125 : Value).ownBlock) v128 t127) ∧ Aside0 (Kd.R (Kd.int .i64) 3 w' w.heap.size (fun _ => True) v6 x6_1) ∧ Aside0 (Below w.heap.size w w'))
  case atStart => exact ⟨(([] : List Int)), (0), (by first | rfl | (simp; done) | (simp [*]; done)), H', ⟨Nat.le_refl _⟩, ⟨by (with_reducible repeat (first | apply Kd.R_alloc | apply Kd.R_drewN | apply Kd.R_drew)); exact Kd.R_mono HO126.out (fun _ hk => hk.2)⟩, ⟨by (with_reducible repeat (first | apply Kd.R_alloc | apply Kd.R_drewN | apply Kd.R_drew)); exact Kd.R_mono HO129.out (fun _ hk => hk.2)⟩, ⟨by first | exact Kd.R_nil _ _ _ _ _ | exact Kd.N_nil _ _ _ _ _ | exact Kd.V_nil _ _ _ _ _ | exact Kd.Q_nil _ _ _ _ _ | exact Kd.S_nil _ _ _ _ _⟩, ⟨by repeat (first | (with_reducible first | exact HB.out | apply below_alloc | apply pw_below_drewN | apply below_drew1) | exact HB.out)⟩⟩
  case round =>
    clear H'
    try clear c2
    try clear p2
    try clear c4
    obtain ⟨x6_1, x7_1, rfl, HA, HK1, HO_4, HO_5, HO_6, HB⟩ := hrel
    cases gk with
    | zero => exact absurd HA.out (by simp [quarryref27_kinds.l0])
    | succ k1 =>
      have H := HA.out
      clear HA
      simp only [quarryref27_kinds.l0] at H
      by_cases c6 : x7_1 < (a0.size : Int)
      · rw [if_pos c6] at H
        have c6b0 : decide (x7_1 < (a0.size : Int)) = true := decide_eq_true c6
        clear c6
        have HC7 := Aside0.mk H
        clear H
        go_upto_region 8 with (fail)
        go_cut [19] (fun v19 wc => ∃ (kq : Nat) (x19_6 : Bool), v19 = .bool x19_6 ∧ Aside0 (quarryref27_kinds.j1 kq a0 t124 t127 x6_1 x7_1 4 x19_6 = some (r1, r2)) ∧ Aside0 (kq ≤ k1) ∧ Aside0 (Kd.R Kd.bool 4 wc w.heap.size (fun k_ => some k_ ≠ (v128 : Value).ownBlock) v125 t124) ∧ Aside0 (Kd.R Kd.bool 4 wc w.heap.size (fun k_ => some k_ ≠ (v125 : Value).ownBlock) v128 t127) ∧ Aside0 (Kd.R (Kd.int .i64) 3 wc w.heap.size (fun _ => True) u6 x6_1) ∧ Aside0 (Below w.heap.size w wc))
        case first =>
          have H := HC7.out
          clear HC7
          by_cases c8 : 0 ≤ x7_1
          · rw [if_pos c8] at H
            have c8b0 : decide (0 ≤ x7_1) = true := decide_eq_true c8
            clear c8
            (first | rw [c8b0] | (simp only [i64_w, i32_w]; rw [c8b0]) | skip)
            by_cases c9 : x7_1 < (t124.length : Int)
            · rw [if_pos c9] at H
              have c9b0 : decide (x7_1 < (t124.length : Int)) = true := decide_eq_true c9
              clear c9
              obtain ⟨bq10, hbq10⟩ : ∃ b_ : Bool, b_ = (rdOf false t124 x7_1) := ⟨_, rfl⟩
              replace H : (if bq10 = true then (if x7_1 < (t127.length : Int) then (quarryref27_kinds.j1 k1 a0 t124 t127 x6_1 x7_1 4 (rdOf false t127 x7_1)) else (none)) else (quarryref27_kinds.j1 k1 a0 t124 t127 x6_1 x7_1 4 false)) = some (r1, r2) := by rw [← hbq10] at H; exact H
              have Nbq10 := Aside0.mk hbq10
              clear hbq10
              by_cases c11 : bq10 = true
              · subst c11
                have H1 : (if x7_1 < (t127.length : Int) then (quarryref27_kinds.j1 k1 a0 t124 t127 x6_1 x7_1 4 (rdOf false t127 x7_1)) else (none)) = some (r1, r2) := by rw [if_pos rfl] at H; exact H
                clear H
                have H := H1
                clear H1
                by_cases c12 : x7_1 < (t127.length : Int)
                · rw [if_pos c12] at H
                  have c12b0 : decide (x7_1 < (t127.length : Int)) = true := decide_eq_true c12
                  clear c12
                  have H' := Aside0.mk H
                  clear H
                  obtain ⟨Ao13, co13, eo13⟩ := Kd.R_slice HO_4.out
                  subst eo13
                  have p130 : 0 ≤ (x7_1 : Int) := of_decide_eq_true (by first | (with_reducible assumption) | assumption)
                  have q130 : x7_1 < (t124.length : Int) := of_decide_eq_true (by first | (with_reducible assumption) | assumption)
                  obtain ⟨ad130, e130, hx130_0⟩ := Kd.at_bool (Kd.R_reads' HO_4.out).2.2 x7_1 p130 q130
                  (try rw [← Nbq10.out] at hx130_0)
                  cases e130
                  replace p130 := eq_true p130
                  replace q130 := eq_true q130
                  obtain ⟨Ao14, co14, eo14⟩ := Kd.R_slice HO_5.out
                  subst eo14
                  have p131 : 0 ≤ (x7_1 : Int) := of_decide_eq_true (by first | (with_reducible assumption) | assumption)
                  have q131 : x7_1 < (t127.length : Int) := of_decide_eq_true (by first | (with_reducible assumption) | assumption)
                  obtain ⟨ad131, e131, hx131_0⟩ := Kd.at_bool (Kd.R_reads' HO_5.out).2.2 x7_1 p131 q131
                  (try rw [← Nbq10.out] at hx131_0)
                  cases e131
                  replace p131 := eq_true p131
                  replace q131 := eq_true q131
                  go_wp2
                  go_meet
                  case rel => exact ⟨_, (rdOf false t127 x7_1), (by first | rfl | (simp; done) | (simp [*]; done)), H', ⟨by have := HK1.out; first | omega | exact Nat.le_refl _⟩, ⟨by (with_reducible repeat (first | apply Kd.R_alloc | apply Kd.R_drewN | apply Kd.R_drew)); exact HO_4.out⟩, ⟨by (with_reducible repeat (first | apply Kd.R_alloc | apply Kd.R_drewN | apply Kd.R_drew)); exact HO_5.out⟩, ⟨by (with_reducible repeat (first | apply Kd.R_alloc | apply Kd.R_drewN | apply Kd.R_drew)); exact HO_6.out⟩, ⟨by repeat (first | (with_reducible first | exact HB.out | apply below_alloc | apply pw_below_drewN | apply below_drew1) | exact HB.out)⟩⟩
                · rw [if_neg c12] at H
                  exact absurd H (by simp)
              · replace c11 := Bool.eq_false_iff.mpr c11
                subst c11
                have H1 : (quarryref27_kinds.j1 k1 a0 t124 t127 x6_1 x7_1 4 false) = some (r1, r2) := by rw [if_neg (show ¬ (false = true) by decide)] at H; exact H
                clear H
                have H := H1
                clear H1
                have H' := Aside0.mk H
                clear H
                obtain ⟨Ao15, co15, eo15⟩ := Kd.R_slice HO_4.out
                subst eo15
                have p130 : 0 ≤ (x7_1 : Int) := of_decide_eq_true (by first | (with_reducible assumption) | assumption)
                have q130 : x7_1 < (t124.length : Int) := of_decide_eq_true (by first | (with_reducible assumption) | assumption)
                obtain ⟨ad130, e130, hx130_0⟩ := Kd.at_bool (Kd.R_reads' HO_4.out).2.2 x7_1 p130 q130
                (try rw [← Nbq10.out] at hx130_0)
                cases e130
                replace p130 := eq_true p130
                replace q130 := eq_true q130
                go_wp2
                go_meet
                case rel => exact ⟨_, (false), (by first | rfl | (simp; done) | (simp [*]; done)), H', ⟨by have := HK1.out; first | omega | exact Nat.le_refl _⟩, ⟨by (with_reducible repeat (first | apply Kd.R_alloc | apply Kd.R_drewN | apply Kd.R_drew)); exact HO_4.out⟩, ⟨by (with_reducible repeat (first | apply Kd.R_alloc | apply Kd.R_drewN | apply Kd.R_drew)); exact HO_5.out⟩, ⟨by (with_reducible repeat (first | apply Kd.R_alloc | apply Kd.R_drewN | apply Kd.R_drew)); exact HO_6.out⟩, ⟨by repeat (first | (with_reducible first | exact HB.out | apply below_alloc | apply pw_below_drewN | apply below_drew1) | exact HB.out)⟩⟩
            · rw [if_neg c9] at H
              exact absurd H (by simp)
          · rw [if_neg c8] at H
            exact absurd H (by simp)
        case rest =>
          clear HC7
          try clear c1
          try clear p1
          try clear q1
          try clear hx1
          try clear c2
          try clear p2
          try clear c4
          try clear c6
          try clear c6b0
          try clear c8
          try clear c8b0
          try clear c9
          try clear c9b0
          try clear q10
          try clear c11
          try clear c12
          try clear c12b0
          try clear p13
          try clear q13
          try clear hx13
          try clear hx130_0
          try clear hx131_0
          try clear p130
          try clear p131
          try clear p2
          try clear q130
          try clear q131
          obtain ⟨kq, x19_6, rfl, HA, HJ6, HO_4, HO_5, HO_6, HB⟩ := hcut
          cases kq with
          | zero => exact absurd HA.out (by simp [quarryref27_kinds.j1])
          | succ kj6 =>
            have H := HA.out
            clear HA
            simp only [quarryref27_kinds.j1] at H
            by_cases c16 : x19_6 = true
            · subst c16
              have H1 : (if x6_1.length < 17592186044416 then (quarryref27_kinds.l0 kj6 a0 t124 t127 (x6_1 ++ [1]) (wrap64 (x7_1 + 1))) else (none)) = some (r1, r2) := by rw [if_pos rfl] at H; exact H
              clear H
              have H := H1
              clear H1
              by_cases c17 : x6_1.length < 17592186044416
              · rw [if_pos c17] at H
                have LMc17 := Aside0.mk c17
                clear c17
                obtain ⟨y132, hy132⟩ : ∃ y_ : List Int, y_ = (x6_1 ++ [1]) := ⟨_, rfl⟩
                replace H : (quarryref27_kinds.l0 kj6 a0 t124 t127 y132 (wrap64 (x7_1 + 1))) = some (r1, r2) := by first | (rw [hy132]; with_reducible exact H) | (have H2_ := (Option.bind_some _ _).symm.trans H; rw [hy132]; with_reducible exact H2_) | (have H2_ := (Option.bind_some _ _).symm.trans H; with_reducible exact H2_) | with_reducible exact H | (rw [hy132]; exact H) | exact H
                have Ny132 := Aside0.mk hy132
                clear hy132
                have H' := Aside0.mk H
                clear H
                go_wp2_with (first | ((with_reducible refine gate_builtin (b := .append) (xs := #[.tmp 99, .tmp 101]) rfl ?_); at_builtin; refine Kd.R_append (Kd.int .i64) (w0 := w) w.heap.size rfl (.tmp 99) (.tmp 101) 22 3 (.int .i64 0) 8 rfl Tryd.underlying22 info3 rfl (by decide) (by omega) u6 x6_1 1 [.int .i64 1] (fun _ => True) (fun _ => False) rfl rfl ?aP (fun _ hk => hk.elim) ?aF ?aO ?aB ?aS ?aL ?_; (case aP => exact rfl); (case aB => exact (by repeat (first | (with_reducible first | exact HB.out | apply below_alloc | apply pw_below_drewN | apply below_drew1) | exact HB.out))); (case aF => exact (fun _ _ => trivial)); (case aO => exact (by (with_reducible repeat (first | apply Kd.R_alloc | apply Kd.R_drewN | apply Kd.R_drew)); exact HO_6.out)); (case aS => exact (below_size (by repeat (first | (with_reducible first | exact HB.out | apply below_alloc | apply pw_below_drewN | apply below_drew1) | exact HB.out)))); (case aL => have := LMc17.out; omega); intro v133 w18 ho hb hg hat; rw [← Ny132.out] at ho; have n0_ := Aside0.mk (Kd.R_over' (by (with_reducible repeat (first | apply Kd.R_alloc | apply Kd.R_drewN | apply Kd.R_drew)); exact HO_4.out) (Kd.R_typed (by (with_reducible repeat (first | apply Kd.R_alloc | apply Kd.R_drewN | apply Kd.R_drew)); exact HO_6.out)) (by decide) hg); have n1_ := Aside0.mk (Kd.R_over' (by (with_reducible repeat (first | apply Kd.R_alloc | apply Kd.R_drewN | apply Kd.R_drew)); exact HO_5.out) (Kd.R_typed (by (with_reducible repeat (first | apply Kd.R_alloc | apply Kd.R_drewN | apply Kd.R_drew)); exact HO_6.out)) (by decide) hg); have n2_ := Aside0.mk (hb); have n3_ := Aside0.mk (ho); clear HO_4; clear HO_5; clear HB; clear HO_6; have HO_4 := n0_; have HO_5 := n1_; have HB := n2_; have HO134 := n3_; clear n0_ n1_ n2_ n3_; clear ho hb hg hat))
                go_roundg kj6
                case measure => have := HK1.out; have := HJ6.out; omega
                case rel => exact ⟨(y132), (wrap64 (x7_1 + 1)), (by first | rfl | (simp; done) | (simp [*]; done)), H', ⟨by have := HK1.out; have := HJ6.out; omega⟩, ⟨by (with_reducible repeat (first | apply Kd.R_alloc | apply Kd.R_drewN | apply Kd.R_drew)); exact HO_4.out⟩, ⟨by (with_reducible repeat (first | apply Kd.R_alloc | apply Kd.R_drewN | apply Kd.R_drew)); exact HO_5.out⟩, ⟨by (with_reducible repeat (first | apply Kd.R_alloc | apply Kd.R_drewN | apply Kd.R_drew)); exact HO134.out⟩, ⟨by repeat (first | (with_reducible first | exact HB.out | apply below_alloc | apply pw_below_drewN | apply below_drew1) | exact HB.out)⟩⟩
              · rw [if_neg c17] at H
                exact absurd H (by simp)
            · replace c16 := Bool.eq_false_iff.mpr c16
              subst c16
              have H1 : (if 0 ≤ x7_1 then (if x7_1 < (t124.length : Int) then (if rdOf false t124 x7_1 = true then (quarryref27_kinds.j2 kj6 a0 t124 t127 x6_1 x7_1 4 true) else (if x7_1 < (t127.length : Int) then (quarryref27_kinds.j2 kj6 a0 t124 t127 x6_1 x7_1 4 (rdOf false t127 x7_1)) else (none))) else (none)) else (none)) = some (r1, r2) := by rw [if_neg (show ¬ (false = true) by decide)] at H; exact H
              clear H
              have H := H1
              clear H1
              have HC19 := Aside0.mk H
              clear H
              go_upto_region 10 with (fail)
              go_cut [30] (fun v30 wc => ∃ (kq : Nat) (x30_18 : Bool), v30 = .bool x30_18 ∧ Aside0 (quarryref27_kinds.j2 kq a0 t124 t127 x6_1 x7_1 4 x30_18 = some (r1, r2)) ∧ Aside0 (kq ≤ kj6) ∧ Aside0 (Kd.R Kd.bool 4 wc w.heap.size (fun k_ => some k_ ≠ (v128 : Value).ownBlock) v125 t124) ∧ Aside0 (Kd.R Kd.bool 4 wc w.heap.size (fun k_ => some k_ ≠ (v125 : Value).ownBlock) v128 t127) ∧ Aside0 (Kd.R (Kd.int .i64) 3 wc w.heap.size (fun _ => True) u6 x6_1) ∧ Aside0 (Below w.heap.size w wc))
              case first =>
                have H := HC19.out
                clear HC19
                by_cases c20 : 0 ≤ x7_1
                · rw [if_pos c20] at H
                  have c20b0 : decide (0 ≤ x7_1) = true := decide_eq_true c20
                  clear c20
                  (first | rw [c20b0] | (simp only [i64_w, i32_w]; rw [c20b0]) | skip)
                  by_cases c21 : x7_1 < (t124.length : Int)
                  · rw [if_pos c21] at H
                    have c21b0 : decide (x7_1 < (t124.length : Int)) = true := decide_eq_true c21
                    clear c21
                    obtain ⟨bq22, hbq22⟩ : ∃ b_ : Bool, b_ = (rdOf false t124 x7_1) := ⟨_, rfl⟩
                    replace H : (if bq22 = true then (quarryref27_kinds.j2 kj6 a0 t124 t127 x6_1 x7_1 4 true) else (if x7_1 < (t127.length : Int) then (quarryref27_kinds.j2 kj6 a0 t124 t127 x6_1 x7_1 4 (rdOf false t127 x7_1)) else (none))) = some (r1, r2) := by rw [← hbq22] at H; exact H
                    have Nbq22 := Aside0.mk hbq22
                    clear hbq22
                    by_cases c23 : bq22 = true
                    · subst c23
                      have H1 : (quarryref27_kinds.j2 kj6 a0 t124 t127 x6_1 x7_1 4 true) = some (r1, r2) := by rw [if_pos rfl] at H; exact H
                      clear H
                      have H := H1
                      clear H1
                      have H' := Aside0.mk H
                      clear H
                      obtain ⟨Ao24, co24, eo24⟩ := Kd.R_slice HO_4.out
                      subst eo24
                      have p135 : 0 ≤ (x7_1 : Int) := of_decide_eq_true (by first | (with_reducible assumption) | assumption)
                      have q135 : x7_1 < (t124.length : Int) := of_decide_eq_true (by first | (with_reducible assumption) | assumption)
                      obtain ⟨ad135, e135, hx135_0⟩ := Kd.at_bool (Kd.R_reads' HO_4.out).2.2 x7_1 p135 q135
                      (try rw [← Nbq22.out] at hx135_0)
                      cases e135
                      replace p135 := eq_true p135
                      replace q135 := eq_true q135
                      go_wp2
                      go_meet
                      case rel => exact ⟨_, (true), (by first | rfl | (simp; done) | (simp [*]; done)), H', ⟨by have := HK1.out; have := HJ6.out; first | omega | exact Nat.le_refl _⟩, ⟨by (with_reducible repeat (first | apply Kd.R_alloc | apply Kd.R_drewN | apply Kd.R_drew)); exact HO_4.out⟩, ⟨by (with_reducible repeat (first | apply Kd.R_alloc | apply Kd.R_drewN | apply Kd.R_drew)); exact HO_5.out⟩, ⟨by (with_reducible repeat (first | apply Kd.R_alloc | apply Kd.R_drewN | apply Kd.R_drew)); exact HO_6.out⟩, ⟨by repeat (first | (with_reducible first | exact HB.out | apply below_alloc | apply pw_below_drewN | apply below_drew1) | exact HB.out)⟩⟩
                    · replace c23 := Bool.eq_false_iff.mpr c23
                      subst c23
                      have H1 : (if x7_1 < (t127.length : Int) then (quarryref27_kinds.j2 kj6 a0 t124 t127 x6_1 x7_1 4 (rdOf false t127 x7_1)) else (none)) = some (r1, r2) := by rw [if_neg (show ¬ (false = true) by decide)] at H; exact H
                      clear H
                      have H := H1
                      clear H1
                      by_cases c25 : x7_1 < (t127.length : Int)
                      · rw [if_pos c25] at H
                        have c25b0 : decide (x7_1 < (t127.length : Int)) = true := decide_eq_true c25
                        clear c25
                        have H' := Aside0.mk H
                        clear H
                        obtain ⟨Ao26, co26, eo26⟩ := Kd.R_slice HO_4.out
                        subst eo26
                        have p135 : 0 ≤ (x7_1 : Int) := of_decide_eq_true (by first | (with_reducible assumption) | assumption)
                        have q135 : x7_1 < (t124.length : Int) := of_decide_eq_true (by first | (with_reducible assumption) | assumption)
                        obtain ⟨ad135, e135, hx135_0⟩ := Kd.at_bool (Kd.R_reads' HO_4.out).2.2 x7_1 p135 q135
                        (try rw [← Nbq22.out] at hx135_0)
                        cases e135
                        replace p135 := eq_true p135
                        replace q135 := eq_true q135
                        obtain ⟨Ao27, co27, eo27⟩ := Kd.R_slice HO_5.out
                        subst eo27
                        have p136 : 0 ≤ (x7_1 : Int) := of_decide_eq_true (by first | (with_reducible assumption) | assumption)
                        have q136 : x7_1 < (t127.length : Int) := of_decide_eq_true (by first | (with_reducible assumption) | assumption)
                        obtain ⟨ad136, e136, hx136_0⟩ := Kd.at_bool (Kd.R_reads' HO_5.out).2.2 x7_1 p136 q136
                        (try rw [← Nbq22.out] at hx136_0)
                        cases e136
                        replace p136 := eq_true p136
                        replace q136 := eq_true q136
                        go_wp2
                        go_meet
                        case rel => exact ⟨_, (rdOf false t127 x7_1), (by first | rfl | (simp; done) | (simp [*]; done)), H', ⟨by have := HK1.out; have := HJ6.out; first | omega | exact Nat.le_refl _⟩, ⟨by (with_reducible repeat (first | apply Kd.R_alloc | apply Kd.R_drewN | apply Kd.R_drew)); exact HO_4.out⟩, ⟨by (with_reducible repeat (first | apply Kd.R_alloc | apply Kd.R_drewN | apply Kd.R_drew)); exact HO_5.out⟩, ⟨by (with_reducible repeat (first | apply Kd.R_alloc | apply Kd.R_drewN | apply Kd.R_drew)); exact HO_6.out⟩, ⟨by repeat (first | (with_reducible first | exact HB.out | apply below_alloc | apply pw_below_drewN | apply below_drew1) | exact HB.out)⟩⟩
                      · rw [if_neg c25] at H
                        exact absurd H (by simp)
                  · rw [if_neg c21] at H
                    exact absurd H (by simp)
                · rw [if_neg c20] at H
                  exact absurd H (by simp)
              case rest =>
                clear HC19
                try clear c1
                try clear p1
                try clear q1
                try clear hx1
                try clear c2
                try clear p2
                try clear q2
                try clear c4
                try clear c6
                try clear c6b0
                try clear p6
                try clear c8
                try clear c8b0
                try clear c9
                try clear c9b0
                try clear q10
                try clear c11
                try clear c12
                try clear c12b0
                try clear p13
                try clear q13
                try clear hx13
                try clear c16
                try clear c17
                try clear c20
                try clear c20b0
                try clear c21
                try clear c21b0
                try clear q22
                try clear c23
                try clear c25
                try clear c25b0
                try clear hx130_0
                try clear hx131_0
                try clear hx135_0
                try clear hx136_0
                try clear p1
                try clear p13
                try clear p130
                try clear p131
                try clear p135
                try clear p136
                try clear p2
                try clear q1
                try clear q10
                try clear q13
                try clear q130
                try clear q131
                try clear q135
                try clear q136
                obtain ⟨kq, x30_18, rfl, HA, HJ18, HO_4, HO_5, HO_6, HB⟩ := hcut
                cases kq with
                | zero => exact absurd HA.out (by simp [quarryref27_kinds.j2])
                | succ kj18 =>
                  have H := HA.out
                  clear HA
                  simp only [quarryref27_kinds.j2] at H
                  by_cases c28 : x30_18 = true
                  · subst c28
                    have H1 : (if x6_1.length < 17592186044416 then (quarryref27_kinds.l0 kj18 a0 t124 t127 (x6_1 ++ [0]) (wrap64 (x7_1 + 1))) else (none)) = some (r1, r2) := by rw [if_pos rfl] at H; exact H
                    clear H
                    have H := H1
                    clear H1
                    by_cases c29 : x6_1.length < 17592186044416
                    · rw [if_pos c29] at H
                      have LMc29 := Aside0.mk c29
                      clear c29
                      obtain ⟨y137, hy137⟩ : ∃ y_ : List Int, y_ = (x6_1 ++ [0]) := ⟨_, rfl⟩
                      replace H : (quarryref27_kinds.l0 kj18 a0 t124 t127 y137 (wrap64 (x7_1 + 1))) = some (r1, r2) := by first | (rw [hy137]; with_reducible exact H) | (have H2_ := (Option.bind_some _ _).symm.trans H; rw [hy137]; with_reducible exact H2_) | (have H2_ := (Option.bind_some _ _).symm.trans H; with_reducible exact H2_) | with_reducible exact H | (rw [hy137]; exact H) | exact H
                      have Ny137 := Aside0.mk hy137
                      clear hy137
                      have H' := Aside0.mk H
                      clear H
                      go_wp2_with (first | ((with_reducible refine gate_builtin (b := .append) (xs := #[.tmp 99, .tmp 101]) rfl ?_); at_builtin; refine Kd.R_append (Kd.int .i64) (w0 := w) w.heap.size rfl (.tmp 99) (.tmp 101) 22 3 (.int .i64 0) 8 rfl Tryd.underlying22 info3 rfl (by decide) (by omega) u6 x6_1 0 [.int .i64 0] (fun _ => True) (fun _ => False) rfl rfl ?aP (fun _ hk => hk.elim) ?aF ?aO ?aB ?aS ?aL ?_; (case aP => exact rfl); (case aB => exact (by repeat (first | (with_reducible first | exact HB.out | apply below_alloc | apply pw_below_drewN | apply below_drew1) | exact HB.out))); (case aF => exact (fun _ _ => trivial)); (case aO => exact (by (with_reducible repeat (first | apply Kd.R_alloc | apply Kd.R_drewN | apply Kd.R_drew)); exact HO_6.out)); (case aS => exact (below_size (by repeat (first | (with_reducible first | exact HB.out | apply below_alloc | apply pw_below_drewN | apply below_drew1) | exact HB.out)))); (case aL => have := LMc29.out; omega); intro v138 w30 ho hb hg hat; rw [← Ny137.out] at ho; have n0_ := Aside0.mk (Kd.R_over' (by (with_reducible repeat (first | apply Kd.R_alloc | apply Kd.R_drewN | apply Kd.R_drew)); exact HO_4.out) (Kd.R_typed (by (with_reducible repeat (first | apply Kd.R_alloc | apply Kd.R_drewN | apply Kd.R_drew)); exact HO_6.out)) (by decide) hg); have n1_ := Aside0.mk (Kd.R_over' (by (with_reducible repeat (first | apply Kd.R_alloc | apply Kd.R_drewN | apply Kd.R_drew)); exact HO_5.out) (Kd.R_typed (by (with_reducible repeat (first | apply Kd.R_alloc | apply Kd.R_drewN | apply Kd.R_drew)); exact HO_6.out)) (by decide) hg); have n2_ := Aside0.mk (hb); have n3_ := Aside0.mk (ho); clear HO_4; clear HO_5; clear HB; clear HO_6; have HO_4 := n0_; have HO_5 := n1_; have HB := n2_; have HO139 := n3_; clear n0_ n1_ n2_ n3_; clear ho hb hg hat))
                      go_roundg kj18
                      case measure => have := HK1.out; have := HJ6.out; have := HJ18.out; omega
                      case rel => exact ⟨(y137), (wrap64 (x7_1 + 1)), (by first | rfl | (simp; done) | (simp [*]; done)), H', ⟨by have := HK1.out; have := HJ6.out; have := HJ18.out; omega⟩, ⟨by (with_reducible repeat (first | apply Kd.R_alloc | apply Kd.R_drewN | apply Kd.R_drew)); exact HO_4.out⟩, ⟨by (with_reducible repeat (first | apply Kd.R_alloc | apply Kd.R_drewN | apply Kd.R_drew)); exact HO_5.out⟩, ⟨by (with_reducible repeat (first | apply Kd.R_alloc | apply Kd.R_drewN | apply Kd.R_drew)); exact HO139.out⟩, ⟨by repeat (first | (with_reducible first | exact HB.out | apply below_alloc | apply pw_below_drewN | apply below_drew1) | exact HB.out)⟩⟩
                    · rw [if_neg c29] at H
                      exact absurd H (by simp)
                  · replace c28 := Bool.eq_false_iff.mpr c28
                    subst c28
                    have H1 : (if 0 ≤ x7_1 then (if x7_1 < (a0.size : Int) then (if (bt a0 x7_1) = 32 then (quarryref27_kinds.j3 kj18 a0 t124 t127 x6_1 x7_1 4 true) else (if (bt a0 x7_1) = 9 then (quarryref27_kinds.j3 kj18 a0 t124 t127 x6_1 x7_1 4 true) else (if (bt a0 x7_1) = 10 then (quarryref27_kinds.j3 kj18 a0 t124 t127 x6_1 x7_1 4 true) else (quarryref27_kinds.j3 kj18 a0 t124 t127 x6_1 x7_1 4 ((bt a0 x7_1) == 13))))) else (none)) else (none)) = some (r1, r2) := by rw [if_neg (show ¬ (false = true) by decide)] at H; exact H
                    clear H
                    have H := H1
                    clear H1
                    have HC31 := Aside0.mk H
                    clear H
                    go_upto_region 12 with (fail)
                    go_cut [41] (fun v41 wc => ∃ (kq : Nat) (x41_30 : Bool), v41 = .bool x41_30 ∧ Aside0 (quarryref27_kinds.j3 kq a0 t124 t127 x6_1 x7_1 4 x41_30 = some (r1, r2)) ∧ Aside0 (kq ≤ kj18) ∧ Aside0 (Kd.R Kd.bool 4 wc w.heap.size (fun k_ => some k_ ≠ (v128 : Value).ownBlock) v125 t124) ∧ Aside0 (Kd.R Kd.bool 4 wc w.heap.size (fun k_ => some k_ ≠ (v125 : Value).ownBlock) v128 t127) ∧ Aside0 (Kd.R (Kd.int .i64) 3 wc w.heap.size (fun _ => True) u6 x6_1) ∧ Aside0 (Below w.heap.size w wc))
                    case first =>
                      have H := HC31.out
                      clear HC31
                      by_cases c32 : 0 ≤ x7_1
                      · rw [if_pos c32] at H
                        have c32b0 : decide (0 ≤ x7_1) = true := decide_eq_true c32
                        clear c32
                        (first | rw [c32b0] | (simp only [i64_w, i32_w]; rw [c32b0]) | skip)
                        by_cases c33 : x7_1 < (a0.size : Int)
                        · rw [if_pos c33] at H
                          have c33b0 : decide (x7_1 < (a0.size : Int)) = true := decide_eq_true c33
                          clear c33
                          by_cases c35 : (bt a0 x7_1) = 32
                          · rw [if_pos c35] at H
                            have c35b0 : ((bt a0 x7_1) == 32) = true := beq_iff_eq.mpr c35
                            have c35b1 : ((bt a0 x7_1) != 32) = false := bne_eq_false_iff_eq.mpr c35
                            clear c35
                            have H' := Aside0.mk H
                            clear H
                            have p34 : 0 ≤ (x7_1 : Int) := of_decide_eq_true (by first | (with_reducible assumption) | assumption)
                            have q34 : x7_1 < (a0.size : Int) := of_decide_eq_true (by first | (with_reducible assumption) | assumption)
                            have hx34 := bt_at a0 x7_1
                            replace p34 := eq_true p34
                            replace q34 := eq_true q34
                            go_wp2
                            go_meet
                            case rel => exact ⟨_, (true), (by first | rfl | (simp; done) | (simp [*]; done)), H', ⟨by have := HK1.out; have := HJ6.out; have := HJ18.out; first | omega | exact Nat.le_refl _⟩, ⟨by (with_reducible repeat (first | apply Kd.R_alloc | apply Kd.R_drewN | apply Kd.R_drew)); exact HO_4.out⟩, ⟨by (with_reducible repeat (first | apply Kd.R_alloc | apply Kd.R_drewN | apply Kd.R_drew)); exact HO_5.out⟩, ⟨by (with_reducible repeat (first | apply Kd.R_alloc | apply Kd.R_drewN | apply Kd.R_drew)); exact HO_6.out⟩, ⟨by repeat (first | (with_reducible first | exact HB.out | apply below_alloc | apply pw_below_drewN | apply below_drew1) | exact HB.out)⟩⟩
                          · rw [if_neg c35] at H
                            have c35b0 : ((bt a0 x7_1) == 32) = false := beq_eq_false_iff_ne.mpr c35
                            have c35b1 : ((bt a0 x7_1) != 32) = true := bne_iff_ne.mpr c35
                            by_cases c37 : (bt a0 x7_1) = 9
                            · rw [if_pos c37] at H
                              have c37b0 : ((bt a0 x7_1) == 9) = true := beq_iff_eq.mpr c37
                              have c37b1 : ((bt a0 x7_1) != 9) = false := bne_eq_false_iff_eq.mpr c37
                              clear c37
                              have H' := Aside0.mk H
                              clear H
                              have p34 : 0 ≤ (x7_1 : Int) := of_decide_eq_true (by first | (with_reducible assumption) | assumption)
                              have q34 : x7_1 < (a0.size : Int) := of_decide_eq_true (by first | (with_reducible assumption) | assumption)
                              have hx34 := bt_at a0 x7_1
                              replace p34 := eq_true p34
                              replace q34 := eq_true q34
                              have p36 : 0 ≤ (x7_1 : Int) := of_decide_eq_true (by first | (with_reducible assumption) | assumption)
                              have q36 : x7_1 < (a0.size : Int) := of_decide_eq_true (by first | (with_reducible assumption) | assumption)
                              have hx36 := bt_at a0 x7_1
                              replace p36 := eq_true p36
                              replace q36 := eq_true q36
                              go_wp2
                              go_meet
                              case rel => exact ⟨_, (true), (by first | rfl | (simp; done) | (simp [*]; done)), H', ⟨by have := HK1.out; have := HJ6.out; have := HJ18.out; first | omega | exact Nat.le_refl _⟩, ⟨by (with_reducible repeat (first | apply Kd.R_alloc | apply Kd.R_drewN | apply Kd.R_drew)); exact HO_4.out⟩, ⟨by (with_reducible repeat (first | apply Kd.R_alloc | apply Kd.R_drewN | apply Kd.R_drew)); exact HO_5.out⟩, ⟨by (with_reducible repeat (first | apply Kd.R_alloc | apply Kd.R_drewN | apply Kd.R_drew)); exact HO_6.out⟩, ⟨by repeat (first | (with_reducible first | exact HB.out | apply below_alloc | apply pw_below_drewN | apply below_drew1) | exact HB.out)⟩⟩
                            · rw [if_neg c37] at H
                              have c37b0 : ((bt a0 x7_1) == 9) = false := beq_eq_false_iff_ne.mpr c37
                              have c37b1 : ((bt a0 x7_1) != 9) = true := bne_iff_ne.mpr c37
                              by_cases c39 : (bt a0 x7_1) = 10
                              · rw [if_pos c39] at H
                                have c39b0 : ((bt a0 x7_1) == 10) = true := beq_iff_eq.mpr c39
                                have c39b1 : ((bt a0 x7_1) != 10) = false := bne_eq_false_iff_eq.mpr c39
                                clear c39
                                have H' := Aside0.mk H
                                clear H
                                have p34 : 0 ≤ (x7_1 : Int) := of_decide_eq_true (by first | (with_reducible assumption) | assumption)
                                have q34 : x7_1 < (a0.size : Int) := of_decide_eq_true (by first | (with_reducible assumption) | assumption)
                                have hx34 := bt_at a0 x7_1
                                replace p34 := eq_true p34
                                replace q34 := eq_true q34
                                have p36 : 0 ≤ (x7_1 : Int) := of_decide_eq_true (by first | (with_reducible assumption) | assumption)
                                have q36 : x7_1 < (a0.size : Int) := of_decide_eq_true (by first | (with_reducible assumption) | assumption)
                                have hx36 := bt_at a0 x7_1
                                replace p36 := eq_true p36
                                replace q36 := eq_true q36
                                have p38 : 0 ≤ (x7_1 : Int) := of_decide_eq_true (by first | (with_reducible assumption) | assumption)
                                have q38 : x7_1 < (a0.size : Int) := of_decide_eq_true (by first | (with_reducible assumption) | assumption)
                                have hx38 := bt_at a0 x7_1
                                replace p38 := eq_true p38
                                replace q38 := eq_true q38
                                go_wp2
                                go_meet
                                case rel => exact ⟨_, (true), (by first | rfl | (simp; done) | (simp [*]; done)), H', ⟨by have := HK1.out; have := HJ6.out; have := HJ18.out; first | omega | exact Nat.le_refl _⟩, ⟨by (with_reducible repeat (first | apply Kd.R_alloc | apply Kd.R_drewN | apply Kd.R_drew)); exact HO_4.out⟩, ⟨by (with_reducible repeat (first | apply Kd.R_alloc | apply Kd.R_drewN | apply Kd.R_drew)); exact HO_5.out⟩, ⟨by (with_reducible repeat (first | apply Kd.R_alloc | apply Kd.R_drewN | apply Kd.R_drew)); exact HO_6.out⟩, ⟨by repeat (first | (with_reducible first | exact HB.out | apply below_alloc | apply pw_below_drewN | apply below_drew1) | exact HB.out)⟩⟩
                              · rw [if_neg c39] at H
                                have c39b0 : ((bt a0 x7_1) == 10) = false := beq_eq_false_iff_ne.mpr c39
                                have c39b1 : ((bt a0 x7_1) != 10) = true := bne_iff_ne.mpr c39
                                have H' := Aside0.mk H
                                clear H
                                have p34 : 0 ≤ (x7_1 : Int) := of_decide_eq_true (by first | (with_reducible assumption) | assumption)
                                have q34 : x7_1 < (a0.size : Int) := of_decide_eq_true (by first | (with_reducible assumption) | assumption)
                                have hx34 := bt_at a0 x7_1
                                replace p34 := eq_true p34
                                replace q34 := eq_true q34
                                have p36 : 0 ≤ (x7_1 : Int) := of_decide_eq_true (by first | (with_reducible assumption) | assumption)
                                have q36 : x7_1 < (a0.size : Int) := of_decide_eq_true (by first | (with_reducible assumption) | assumption)
                                have hx36 := bt_at a0 x7_1
                                replace p36 := eq_true p36
                                replace q36 := eq_true q36
                                have p38 : 0 ≤ (x7_1 : Int) := of_decide_eq_true (by first | (with_reducible assumption) | assumption)
                                have q38 : x7_1 < (a0.size : Int) := of_decide_eq_true (by first | (with_reducible assumption) | assumption)
                                have hx38 := bt_at a0 x7_1
                                replace p38 := eq_true p38
                                replace q38 := eq_true q38
                                have p40 : 0 ≤ (x7_1 : Int) := of_decide_eq_true (by first | (with_reducible assumption) | assumption)
                                have q40 : x7_1 < (a0.size : Int) := of_decide_eq_true (by first | (with_reducible assumption) | assumption)
                                have hx40 := bt_at a0 x7_1
                                replace p40 := eq_true p40
                                replace q40 := eq_true q40
                                go_wp2
                                go_meet
                                case rel => exact ⟨_, (((bt a0 x7_1) == 13)), (by first | rfl | (simp; done) | (simp [*]; done)), H', ⟨by have := HK1.out; have := HJ6.out; have := HJ18.out; first | omega | exact Nat.le_refl _⟩, ⟨by (with_reducible repeat (first | apply Kd.R_alloc | apply Kd.R_drewN | apply Kd.R_drew)); exact HO_4.out⟩, ⟨by (with_reducible repeat (first | apply Kd.R_alloc | apply Kd.R_drewN | apply Kd.R_drew)); exact HO_5.out⟩, ⟨by (with_reducible repeat (first | apply Kd.R_alloc | apply Kd.R_drewN | apply Kd.R_drew)); exact HO_6.out⟩, ⟨by repeat (first | (with_reducible first | exact HB.out | apply below_alloc | apply pw_below_drewN | apply below_drew1) | exact HB.out)⟩⟩
                        · rw [if_neg c33] at H
                          exact absurd H (by simp)
                      · rw [if_neg c32] at H
                        exact absurd H (by simp)
                    case rest =>
                      clear HC31
                      try clear c1
                      try clear p1
                      try clear q1
                      try clear hx1
                      try clear c2
                      try clear p2
                      try clear q2
                      try clear c3
                      try clear p3
                      try clear q3
                      try clear hx3
                      try clear c4
                      try clear p4
                      try clear q4
                      try clear hx4
                      try clear c6
                      try clear c6b0
                      try clear p6
                      try clear c8
                      try clear c8b0
                      try clear c9
                      try clear c9b0
                      try clear q10
                      try clear c11
                      try clear c12
                      try clear c12b0
                      try clear p13
                      try clear q13
                      try clear hx13
                      try clear c16
                      try clear c17
                      try clear c20
                      try clear c20b0
                      try clear c21
                      try clear c21b0
                      try clear q22
                      try clear c23
                      try clear c25
                      try clear c25b0
                      try clear c28
                      try clear c29
                      try clear c32
                      try clear c32b0
                      try clear c33
                      try clear c33b0
                      try clear p34
                      try clear q34
                      try clear hx34
                      try clear c35
                      try clear c35b0
                      try clear c35b1
                      try clear p36
                      try clear q36
                      try clear hx36
                      try clear c37
                      try clear c37b0
                      try clear c37b1
                      try clear p38
                      try clear q38
                      try clear hx38
                      try clear c39
                      try clear c39b0
                      try clear c39b1
                      try clear p40
                      try clear q40
                      try clear hx40
                      try clear hx130_0
                      try clear hx131_0
                      try clear hx135_0
                      try clear hx136_0
                      try clear p1
                      try clear p13
                      try clear p130
                      try clear p131
                      try clear p135
                      try clear p136
                      try clear p2
                      try clear p34
                      try clear p36
                      try clear p38
                      try clear p40
                      try clear p6
                      try clear q1
                      try clear q10
                      try clear q13
                      try clear q130
                      try clear q131
                      try clear q135
                      try clear q136
                      try clear q2
                      try clear q22
                      try clear q34
                      try clear q36
                      try clear q38
                      try clear q40
                      obtain ⟨kq, x41_30, rfl, HA, HJ30, HO_4, HO_5, HO_6, HB⟩ := hcut
                      cases kq with
                      | zero => exact absurd HA.out (by simp [quarryref27_kinds.j3])
                      | succ kj30 =>
                        have H := HA.out
                        clear HA
                        simp only [quarryref27_kinds.j3] at H
                        by_cases c41 : x41_30 = true
                        · subst c41
                          have H1 : (if x6_1.length < 17592186044416 then (quarryref27_kinds.l0 kj30 a0 t124 t127 (x6_1 ++ [2]) (wrap64 (x7_1 + 1))) else (none)) = some (r1, r2) := by rw [if_pos rfl] at H; exact H
                          clear H
                          have H := H1
                          clear H1
                          by_cases c42 : x6_1.length < 17592186044416
                          · rw [if_pos c42] at H
                            have LMc42 := Aside0.mk c42
                            clear c42
                            obtain ⟨y140, hy140⟩ : ∃ y_ : List Int, y_ = (x6_1 ++ [2]) := ⟨_, rfl⟩
                            replace H : (quarryref27_kinds.l0 kj30 a0 t124 t127 y140 (wrap64 (x7_1 + 1))) = some (r1, r2) := by first | (rw [hy140]; with_reducible exact H) | (have H2_ := (Option.bind_some _ _).symm.trans H; rw [hy140]; with_reducible exact H2_) | (have H2_ := (Option.bind_some _ _).symm.trans H; with_reducible exact H2_) | with_reducible exact H | (rw [hy140]; exact H) | exact H
                            have Ny140 := Aside0.mk hy140
                            clear hy140
                            have H' := Aside0.mk H
                            clear H
                            go_wp2_with (first | ((with_reducible refine gate_builtin (b := .append) (xs := #[.tmp 99, .tmp 101]) rfl ?_); at_builtin; refine Kd.R_append (Kd.int .i64) (w0 := w) w.heap.size rfl (.tmp 99) (.tmp 101) 22 3 (.int .i64 0) 8 rfl Tryd.underlying22 info3 rfl (by decide) (by omega) u6 x6_1 2 [.int .i64 2] (fun _ => True) (fun _ => False) rfl rfl ?aP (fun _ hk => hk.elim) ?aF ?aO ?aB ?aS ?aL ?_; (case aP => exact rfl); (case aB => exact (by repeat (first | (with_reducible first | exact HB.out | apply below_alloc | apply pw_below_drewN | apply below_drew1) | exact HB.out))); (case aF => exact (fun _ _ => trivial)); (case aO => exact (by (with_reducible repeat (first | apply Kd.R_alloc | apply Kd.R_drewN | apply Kd.R_drew)); exact HO_6.out)); (case aS => exact (below_size (by repeat (first | (with_reducible first | exact HB.out | apply below_alloc | apply pw_below_drewN | apply below_drew1) | exact HB.out)))); (case aL => have := LMc42.out; omega); intro v141 w43 ho hb hg hat; rw [← Ny140.out] at ho; have n0_ := Aside0.mk (Kd.R_over' (by (with_reducible repeat (first | apply Kd.R_alloc | apply Kd.R_drewN | apply Kd.R_drew)); exact HO_4.out) (Kd.R_typed (by (with_reducible repeat (first | apply Kd.R_alloc | apply Kd.R_drewN | apply Kd.R_drew)); exact HO_6.out)) (by decide) hg); have n1_ := Aside0.mk (Kd.R_over' (by (with_reducible repeat (first | apply Kd.R_alloc | apply Kd.R_drewN | apply Kd.R_drew)); exact HO_5.out) (Kd.R_typed (by (with_reducible repeat (first | apply Kd.R_alloc | apply Kd.R_drewN | apply Kd.R_drew)); exact HO_6.out)) (by decide) hg); have n2_ := Aside0.mk (hb); have n3_ := Aside0.mk (ho); clear HO_4; clear HO_5; clear HB; clear HO_6; have HO_4 := n0_; have HO_5 := n1_; have HB := n2_; have HO142 := n3_; clear n0_ n1_ n2_ n3_; clear ho hb hg hat))
                            go_roundg kj30
                            case measure => have := HK1.out; have := HJ6.out; have := HJ18.out; have := HJ30.out; omega
                            case rel => exact ⟨(y140), (wrap64 (x7_1 + 1)), (by first | rfl | (simp; done) | (simp [*]; done)), H', ⟨by have := HK1.out; have := HJ6.out; have := HJ18.out; have := HJ30.out; omega⟩, ⟨by (with_reducible repeat (first | apply Kd.R_alloc | apply Kd.R_drewN | apply Kd.R_drew)); exact HO_4.out⟩, ⟨by (with_reducible repeat (first | apply Kd.R_alloc | apply Kd.R_drewN | apply Kd.R_drew)); exact HO_5.out⟩, ⟨by (with_reducible repeat (first | apply Kd.R_alloc | apply Kd.R_drewN | apply Kd.R_drew)); exact HO142.out⟩, ⟨by repeat (first | (with_reducible first | exact HB.out | apply below_alloc | apply pw_below_drewN | apply below_drew1) | exact HB.out)⟩⟩
                          · rw [if_neg c42] at H
                            exact absurd H (by simp)
                        · replace c41 := Bool.eq_false_iff.mpr c41
                          subst c41
                          have H1 : (if 0 ≤ x7_1 then (if x7_1 < (a0.size : Int) then (if (bt a0 x7_1) = 123 then (if x6_1.length < 17592186044416 then (quarryref27_kinds.l0 kj30 a0 t124 t127 (x6_1 ++ [3]) (wrap64 (x7_1 + 1))) else (none)) else (if (bt a0 x7_1) = 125 then (if x6_1.length < 17592186044416 then (quarryref27_kinds.l0 kj30 a0 t124 t127 (x6_1 ++ [3]) (wrap64 (x7_1 + 1))) else (none)) else (if (bt a0 x7_1) = 91 then (if x6_1.length < 17592186044416 then (quarryref27_kinds.l0 kj30 a0 t124 t127 (x6_1 ++ [3]) (wrap64 (x7_1 + 1))) else (none)) else (if (bt a0 x7_1) = 93 then (if x6_1.length < 17592186044416 then (quarryref27_kinds.l0 kj30 a0 t124 t127 (x6_1 ++ [3]) (wrap64 (x7_1 + 1))) else (none)) else (if (bt a0 x7_1) = 58 then (if x6_1.length < 17592186044416 then (quarryref27_kinds.l0 kj30 a0 t124 t127 (x6_1 ++ [3]) (wrap64 (x7_1 + 1))) else (none)) else (if (bt a0 x7_1) = 44 then (if x6_1.length < 17592186044416 then (quarryref27_kinds.l0 kj30 a0 t124 t127 (x6_1 ++ [3]) (wrap64 (x7_1 + 1))) else (none)) else (if x6_1.length < 17592186044416 then (quarryref27_kinds.l0 kj30 a0 t124 t127 (x6_1 ++ [4]) (wrap64 (x7_1 + 1))) else (none)))))))) else (none)) else (none)) = some (r1, r2) := by rw [if_neg (show ¬ (false = true) by decide)] at H; exact H
                          clear H
                          have H := H1
                          clear H1
                          by_cases c44 : 0 ≤ x7_1
                          · rw [if_pos c44] at H
                            have c44b0 : decide (0 ≤ x7_1) = true := decide_eq_true c44
                            clear c44
                            by_cases c45 : x7_1 < (a0.size : Int)
                            · rw [if_pos c45] at H
                              have c45b0 : decide (x7_1 < (a0.size : Int)) = true := decide_eq_true c45
                              clear c45
                              by_cases c47 : (bt a0 x7_1) = 123
                              · rw [if_pos c47] at H
                                have c47b0 : ((bt a0 x7_1) == 123) = true := beq_iff_eq.mpr c47
                                have c47b1 : ((bt a0 x7_1) != 123) = false := bne_eq_false_iff_eq.mpr c47
                                clear c47
                                by_cases c48 : x6_1.length < 17592186044416
                                · rw [if_pos c48] at H
                                  have LMc48 := Aside0.mk c48
                                  clear c48
                                  obtain ⟨y143, hy143⟩ : ∃ y_ : List Int, y_ = (x6_1 ++ [3]) := ⟨_, rfl⟩
                                  replace H : (quarryref27_kinds.l0 kj30 a0 t124 t127 y143 (wrap64 (x7_1 + 1))) = some (r1, r2) := by first | (rw [hy143]; with_reducible exact H) | (have H2_ := (Option.bind_some _ _).symm.trans H; rw [hy143]; with_reducible exact H2_) | (have H2_ := (Option.bind_some _ _).symm.trans H; with_reducible exact H2_) | with_reducible exact H | (rw [hy143]; exact H) | exact H
                                  have Ny143 := Aside0.mk hy143
                                  clear hy143
                                  have H' := Aside0.mk H
                                  clear H
                                  have p46 : 0 ≤ (x7_1 : Int) := of_decide_eq_true (by first | (with_reducible assumption) | assumption)
                                  have q46 : x7_1 < (a0.size : Int) := of_decide_eq_true (by first | (with_reducible assumption) | assumption)
                                  have hx46 := bt_at a0 x7_1
                                  replace p46 := eq_true p46
                                  replace q46 := eq_true q46
                                  go_wp2_with (first | ((with_reducible refine gate_builtin (b := .append) (xs := #[.tmp 99, .tmp 101]) rfl ?_); at_builtin; refine Kd.R_append (Kd.int .i64) (w0 := w) w.heap.size rfl (.tmp 99) (.tmp 101) 22 3 (.int .i64 0) 8 rfl Tryd.underlying22 info3 rfl (by decide) (by omega) u6 x6_1 3 [.int .i64 3] (fun _ => True) (fun _ => False) rfl rfl ?aP (fun _ hk => hk.elim) ?aF ?aO ?aB ?aS ?aL ?_; (case aP => exact rfl); (case aB => exact (by repeat (first | (with_reducible first | exact HB.out | apply below_alloc | apply pw_below_drewN | apply below_drew1) | exact HB.out))); (case aF => exact (fun _ _ => trivial)); (case aO => exact (by (with_reducible repeat (first | apply Kd.R_alloc | apply Kd.R_drewN | apply Kd.R_drew)); exact HO_6.out)); (case aS => exact (below_size (by repeat (first | (with_reducible first | exact HB.out | apply below_alloc | apply pw_below_drewN | apply below_drew1) | exact HB.out)))); (case aL => have := LMc48.out; omega); intro v144 w49 ho hb hg hat; rw [← Ny143.out] at ho; have n0_ := Aside0.mk (Kd.R_over' (by (with_reducible repeat (first | apply Kd.R_alloc | apply Kd.R_drewN | apply Kd.R_drew)); exact HO_4.out) (Kd.R_typed (by (with_reducible repeat (first | apply Kd.R_alloc | apply Kd.R_drewN | apply Kd.R_drew)); exact HO_6.out)) (by decide) hg); have n1_ := Aside0.mk (Kd.R_over' (by (with_reducible repeat (first | apply Kd.R_alloc | apply Kd.R_drewN | apply Kd.R_drew)); exact HO_5.out) (Kd.R_typed (by (with_reducible repeat (first | apply Kd.R_alloc | apply Kd.R_drewN | apply Kd.R_drew)); exact HO_6.out)) (by decide) hg); have n2_ := Aside0.mk (hb); have n3_ := Aside0.mk (ho); clear HO_4; clear HO_5; clear HB; clear HO_6; have HO_4 := n0_; have HO_5 := n1_; have HB := n2_; have HO145 := n3_; clear n0_ n1_ n2_ n3_; clear ho hb hg hat))
                                  go_roundg kj30
                                  case measure => have := HK1.out; have := HJ6.out; have := HJ18.out; have := HJ30.out; omega
                                  case rel => exact ⟨(y143), (wrap64 (x7_1 + 1)), (by first | rfl | (simp; done) | (simp [*]; done)), H', ⟨by have := HK1.out; have := HJ6.out; have := HJ18.out; have := HJ30.out; omega⟩, ⟨by (with_reducible repeat (first | apply Kd.R_alloc | apply Kd.R_drewN | apply Kd.R_drew)); exact HO_4.out⟩, ⟨by (with_reducible repeat (first | apply Kd.R_alloc | apply Kd.R_drewN | apply Kd.R_drew)); exact HO_5.out⟩, ⟨by (with_reducible repeat (first | apply Kd.R_alloc | apply Kd.R_drewN | apply Kd.R_drew)); exact HO145.out⟩, ⟨by repeat (first | (with_reducible first | exact HB.out | apply below_alloc | apply pw_below_drewN | apply below_drew1) | exact HB.out)⟩⟩
                                · rw [if_neg c48] at H
                                  exact absurd H (by simp)
                              · rw [if_neg c47] at H
                                have c47b0 : ((bt a0 x7_1) == 123) = false := beq_eq_false_iff_ne.mpr c47
                                have c47b1 : ((bt a0 x7_1) != 123) = true := bne_iff_ne.mpr c47
                                by_cases c51 : (bt a0 x7_1) = 125
                                · rw [if_pos c51] at H
                                  have c51b0 : ((bt a0 x7_1) == 125) = true := beq_iff_eq.mpr c51
                                  have c51b1 : ((bt a0 x7_1) != 125) = false := bne_eq_false_iff_eq.mpr c51
                                  clear c51
                                  by_cases c52 : x6_1.length < 17592186044416
                                  · rw [if_pos c52] at H
                                    have LMc52 := Aside0.mk c52
                                    clear c52
                                    obtain ⟨y146, hy146⟩ : ∃ y_ : List Int, y_ = (x6_1 ++ [3]) := ⟨_, rfl⟩
                                    replace H : (quarryref27_kinds.l0 kj30 a0 t124 t127 y146 (wrap64 (x7_1 + 1))) = some (r1, r2) := by first | (rw [hy146]; with_reducible exact H) | (have H2_ := (Option.bind_some _ _).symm.trans H; rw [hy146]; with_reducible exact H2_) | (have H2_ := (Option.bind_some _ _).symm.trans H; with_reducible exact H2_) | with_reducible exact H | (rw [hy146]; exact H) | exact H
                                    have Ny146 := Aside0.mk hy146
                                    clear hy146
                                    have H' := Aside0.mk H
                                    clear H
                                    have p46 : 0 ≤ (x7_1 : Int) := of_decide_eq_true (by first | (with_reducible assumption) | assumption)
                                    have q46 : x7_1 < (a0.size : Int) := of_decide_eq_true (by first | (with_reducible assumption) | assumption)
                                    have hx46 := bt_at a0 x7_1
                                    replace p46 := eq_true p46
                                    replace q46 := eq_true q46
                                    have p50 : 0 ≤ (x7_1 : Int) := of_decide_eq_true (by first | (with_reducible assumption) | assumption)
                                    have q50 : x7_1 < (a0.size : Int) := of_decide_eq_true (by first | (with_reducible assumption) | assumption)
                                    have hx50 := bt_at a0 x7_1
                                    replace p50 := eq_true p50
                                    replace q50 := eq_true q50
                                    go_wp2_with (first | ((with_reducible refine gate_builtin (b := .append) (xs := #[.tmp 99, .tmp 101]) rfl ?_); at_builtin; refine Kd.R_append (Kd.int .i64) (w0 := w) w.heap.size rfl (.tmp 99) (.tmp 101) 22 3 (.int .i64 0) 8 rfl Tryd.underlying22 info3 rfl (by decide) (by omega) u6 x6_1 3 [.int .i64 3] (fun _ => True) (fun _ => False) rfl rfl ?aP (fun _ hk => hk.elim) ?aF ?aO ?aB ?aS ?aL ?_; (case aP => exact rfl); (case aB => exact (by repeat (first | (with_reducible first | exact HB.out | apply below_alloc | apply pw_below_drewN | apply below_drew1) | exact HB.out))); (case aF => exact (fun _ _ => trivial)); (case aO => exact (by (with_reducible repeat (first | apply Kd.R_alloc | apply Kd.R_drewN | apply Kd.R_drew)); exact HO_6.out)); (case aS => exact (below_size (by repeat (first | (with_reducible first | exact HB.out | apply below_alloc | apply pw_below_drewN | apply below_drew1) | exact HB.out)))); (case aL => have := LMc52.out; omega); intro v147 w53 ho hb hg hat; rw [← Ny146.out] at ho; have n0_ := Aside0.mk (Kd.R_over' (by (with_reducible repeat (first | apply Kd.R_alloc | apply Kd.R_drewN | apply Kd.R_drew)); exact HO_4.out) (Kd.R_typed (by (with_reducible repeat (first | apply Kd.R_alloc | apply Kd.R_drewN | apply Kd.R_drew)); exact HO_6.out)) (by decide) hg); have n1_ := Aside0.mk (Kd.R_over' (by (with_reducible repeat (first | apply Kd.R_alloc | apply Kd.R_drewN | apply Kd.R_drew)); exact HO_5.out) (Kd.R_typed (by (with_reducible repeat (first | apply Kd.R_alloc | apply Kd.R_drewN | apply Kd.R_drew)); exact HO_6.out)) (by decide) hg); have n2_ := Aside0.mk (hb); have n3_ := Aside0.mk (ho); clear HO_4; clear HO_5; clear HB; clear HO_6; have HO_4 := n0_; have HO_5 := n1_; have HB := n2_; have HO148 := n3_; clear n0_ n1_ n2_ n3_; clear ho hb hg hat))
                                    go_roundg kj30
                                    case measure => have := HK1.out; have := HJ6.out; have := HJ18.out; have := HJ30.out; omega
                                    case rel => exact ⟨(y146), (wrap64 (x7_1 + 1)), (by first | rfl | (simp; done) | (simp [*]; done)), H', ⟨by have := HK1.out; have := HJ6.out; have := HJ18.out; have := HJ30.out; omega⟩, ⟨by (with_reducible repeat (first | apply Kd.R_alloc | apply Kd.R_drewN | apply Kd.R_drew)); exact HO_4.out⟩, ⟨by (with_reducible repeat (first | apply Kd.R_alloc | apply Kd.R_drewN | apply Kd.R_drew)); exact HO_5.out⟩, ⟨by (with_reducible repeat (first | apply Kd.R_alloc | apply Kd.R_drewN | apply Kd.R_drew)); exact HO148.out⟩, ⟨by repeat (first | (with_reducible first | exact HB.out | apply below_alloc | apply pw_below_drewN | apply below_drew1) | exact HB.out)⟩⟩
                                  · rw [if_neg c52] at H
                                    exact absurd H (by simp)
                                · rw [if_neg c51] at H
                                  have c51b0 : ((bt a0 x7_1) == 125) = false := beq_eq_false_iff_ne.mpr c51
                                  have c51b1 : ((bt a0 x7_1) != 125) = true := bne_iff_ne.mpr c51
                                  by_cases c55 : (bt a0 x7_1) = 91
                                  · rw [if_pos c55] at H
                                    have c55b0 : ((bt a0 x7_1) == 91) = true := beq_iff_eq.mpr c55
                                    have c55b1 : ((bt a0 x7_1) != 91) = false := bne_eq_false_iff_eq.mpr c55
                                    clear c55
                                    by_cases c56 : x6_1.length < 17592186044416
                                    · rw [if_pos c56] at H
                                      have LMc56 := Aside0.mk c56
                                      clear c56
                                      obtain ⟨y149, hy149⟩ : ∃ y_ : List Int, y_ = (x6_1 ++ [3]) := ⟨_, rfl⟩
                                      replace H : (quarryref27_kinds.l0 kj30 a0 t124 t127 y149 (wrap64 (x7_1 + 1))) = some (r1, r2) := by first | (rw [hy149]; with_reducible exact H) | (have H2_ := (Option.bind_some _ _).symm.trans H; rw [hy149]; with_reducible exact H2_) | (have H2_ := (Option.bind_some _ _).symm.trans H; with_reducible exact H2_) | with_reducible exact H | (rw [hy149]; exact H) | exact H
                                      have Ny149 := Aside0.mk hy149
                                      clear hy149
                                      have H' := Aside0.mk H
                                      clear H
                                      have p46 : 0 ≤ (x7_1 : Int) := of_decide_eq_true (by first | (with_reducible assumption) | assumption)
                                      have q46 : x7_1 < (a0.size : Int) := of_decide_eq_true (by first | (with_reducible assumption) | assumption)
                                      have hx46 := bt_at a0 x7_1
                                      replace p46 := eq_true p46
                                      replace q46 := eq_true q46
                                      have p50 : 0 ≤ (x7_1 : Int) := of_decide_eq_true (by first | (with_reducible assumption) | assumption)
                                      have q50 : x7_1 < (a0.size : Int) := of_decide_eq_true (by first | (with_reducible assumption) | assumption)
                                      have hx50 := bt_at a0 x7_1
                                      replace p50 := eq_true p50
                                      replace q50 := eq_true q50
                                      have p54 : 0 ≤ (x7_1 : Int) := of_decide_eq_true (by first | (with_reducible assumption) | assumption)
                                      have q54 : x7_1 < (a0.size : Int) := of_decide_eq_true (by first | (with_reducible assumption) | assumption)
                                      have hx54 := bt_at a0 x7_1
                                      replace p54 := eq_true p54
                                      replace q54 := eq_true q54
                                      go_wp2_with (first | ((with_reducible refine gate_builtin (b := .append) (xs := #[.tmp 99, .tmp 101]) rfl ?_); at_builtin; refine Kd.R_append (Kd.int .i64) (w0 := w) w.heap.size rfl (.tmp 99) (.tmp 101) 22 3 (.int .i64 0) 8 rfl Tryd.underlying22 info3 rfl (by decide) (by omega) u6 x6_1 3 [.int .i64 3] (fun _ => True) (fun _ => False) rfl rfl ?aP (fun _ hk => hk.elim) ?aF ?aO ?aB ?aS ?aL ?_; (case aP => exact rfl); (case aB => exact (by repeat (first | (with_reducible first | exact HB.out | apply below_alloc | apply pw_below_drewN | apply below_drew1) | exact HB.out))); (case aF => exact (fun _ _ => trivial)); (case aO => exact (by (with_reducible repeat (first | apply Kd.R_alloc | apply Kd.R_drewN | apply Kd.R_drew)); exact HO_6.out)); (case aS => exact (below_size (by repeat (first | (with_reducible first | exact HB.out | apply below_alloc | apply pw_below_drewN | apply below_drew1) | exact HB.out)))); (case aL => have := LMc56.out; omega); intro v150 w57 ho hb hg hat; rw [← Ny149.out] at ho; have n0_ := Aside0.mk (Kd.R_over' (by (with_reducible repeat (first | apply Kd.R_alloc | apply Kd.R_drewN | apply Kd.R_drew)); exact HO_4.out) (Kd.R_typed (by (with_reducible repeat (first | apply Kd.R_alloc | apply Kd.R_drewN | apply Kd.R_drew)); exact HO_6.out)) (by decide) hg); have n1_ := Aside0.mk (Kd.R_over' (by (with_reducible repeat (first | apply Kd.R_alloc | apply Kd.R_drewN | apply Kd.R_drew)); exact HO_5.out) (Kd.R_typed (by (with_reducible repeat (first | apply Kd.R_alloc | apply Kd.R_drewN | apply Kd.R_drew)); exact HO_6.out)) (by decide) hg); have n2_ := Aside0.mk (hb); have n3_ := Aside0.mk (ho); clear HO_4; clear HO_5; clear HB; clear HO_6; have HO_4 := n0_; have HO_5 := n1_; have HB := n2_; have HO151 := n3_; clear n0_ n1_ n2_ n3_; clear ho hb hg hat))
                                      go_roundg kj30
                                      case measure => have := HK1.out; have := HJ6.out; have := HJ18.out; have := HJ30.out; omega
                                      case rel => exact ⟨(y149), (wrap64 (x7_1 + 1)), (by first | rfl | (simp; done) | (simp [*]; done)), H', ⟨by have := HK1.out; have := HJ6.out; have := HJ18.out; have := HJ30.out; omega⟩, ⟨by (with_reducible repeat (first | apply Kd.R_alloc | apply Kd.R_drewN | apply Kd.R_drew)); exact HO_4.out⟩, ⟨by (with_reducible repeat (first | apply Kd.R_alloc | apply Kd.R_drewN | apply Kd.R_drew)); exact HO_5.out⟩, ⟨by (with_reducible repeat (first | apply Kd.R_alloc | apply Kd.R_drewN | apply Kd.R_drew)); exact HO151.out⟩, ⟨by repeat (first | (with_reducible first | exact HB.out | apply below_alloc | apply pw_below_drewN | apply below_drew1) | exact HB.out)⟩⟩
                                    · rw [if_neg c56] at H
                                      exact absurd H (by simp)
                                  · rw [if_neg c55] at H
                                    have c55b0 : ((bt a0 x7_1) == 91) = false := beq_eq_false_iff_ne.mpr c55
                                    have c55b1 : ((bt a0 x7_1) != 91) = true := bne_iff_ne.mpr c55
                                    by_cases c59 : (bt a0 x7_1) = 93
                                    · rw [if_pos c59] at H
                                      have c59b0 : ((bt a0 x7_1) == 93) = true := beq_iff_eq.mpr c59
                                      have c59b1 : ((bt a0 x7_1) != 93) = false := bne_eq_false_iff_eq.mpr c59
                                      clear c59
                                      by_cases c60 : x6_1.length < 17592186044416
                                      · rw [if_pos c60] at H
                                        have LMc60 := Aside0.mk c60
                                        clear c60
                                        obtain ⟨y152, hy152⟩ : ∃ y_ : List Int, y_ = (x6_1 ++ [3]) := ⟨_, rfl⟩
                                        replace H : (quarryref27_kinds.l0 kj30 a0 t124 t127 y152 (wrap64 (x7_1 + 1))) = some (r1, r2) := by first | (rw [hy152]; with_reducible exact H) | (have H2_ := (Option.bind_some _ _).symm.trans H; rw [hy152]; with_reducible exact H2_) | (have H2_ := (Option.bind_some _ _).symm.trans H; with_reducible exact H2_) | with_reducible exact H | (rw [hy152]; exact H) | exact H
                                        have Ny152 := Aside0.mk hy152
                                        clear hy152
                                        have H' := Aside0.mk H
                                        clear H
                                        have p46 : 0 ≤ (x7_1 : Int) := of_decide_eq_true (by first | (with_reducible assumption) | assumption)
                                        have q46 : x7_1 < (a0.size : Int) := of_decide_eq_true (by first | (with_reducible assumption) | assumption)
                                        have hx46 := bt_at a0 x7_1
                                        replace p46 := eq_true p46
                                        replace q46 := eq_true q46
                                        have p50 : 0 ≤ (x7_1 : Int) := of_decide_eq_true (by first | (with_reducible assumption) | assumption)
                                        have q50 : x7_1 < (a0.size : Int) := of_decide_eq_true (by first | (with_reducible assumption) | assumption)
                                        have hx50 := bt_at a0 x7_1
                                        replace p50 := eq_true p50
                                        replace q50 := eq_true q50
                                        have p54 : 0 ≤ (x7_1 : Int) := of_decide_eq_true (by first | (with_reducible assumption) | assumption)
                                        have q54 : x7_1 < (a0.size : Int) := of_decide_eq_true (by first | (with_reducible assumption) | assumption)
                                        have hx54 := bt_at a0 x7_1
                                        replace p54 := eq_true p54
                                        replace q54 := eq_true q54
                                        have p58 : 0 ≤ (x7_1 : Int) := of_decide_eq_true (by first | (with_reducible assumption) | assumption)
                                        have q58 : x7_1 < (a0.size : Int) := of_decide_eq_true (by first | (with_reducible assumption) | assumption)
                                        have hx58 := bt_at a0 x7_1
                                        replace p58 := eq_true p58
                                        replace q58 := eq_true q58
                                        go_wp2_with (first | ((with_reducible refine gate_builtin (b := .append) (xs := #[.tmp 99, .tmp 101]) rfl ?_); at_builtin; refine Kd.R_append (Kd.int .i64) (w0 := w) w.heap.size rfl (.tmp 99) (.tmp 101) 22 3 (.int .i64 0) 8 rfl Tryd.underlying22 info3 rfl (by decide) (by omega) u6 x6_1 3 [.int .i64 3] (fun _ => True) (fun _ => False) rfl rfl ?aP (fun _ hk => hk.elim) ?aF ?aO ?aB ?aS ?aL ?_; (case aP => exact rfl); (case aB => exact (by repeat (first | (with_reducible first | exact HB.out | apply below_alloc | apply pw_below_drewN | apply below_drew1) | exact HB.out))); (case aF => exact (fun _ _ => trivial)); (case aO => exact (by (with_reducible repeat (first | apply Kd.R_alloc | apply Kd.R_drewN | apply Kd.R_drew)); exact HO_6.out)); (case aS => exact (below_size (by repeat (first | (with_reducible first | exact HB.out | apply below_alloc | apply pw_below_drewN | apply below_drew1) | exact HB.out)))); (case aL => have := LMc60.out; omega); intro v153 w61 ho hb hg hat; rw [← Ny152.out] at ho; have n0_ := Aside0.mk (Kd.R_over' (by (with_reducible repeat (first | apply Kd.R_alloc | apply Kd.R_drewN | apply Kd.R_drew)); exact HO_4.out) (Kd.R_typed (by (with_reducible repeat (first | apply Kd.R_alloc | apply Kd.R_drewN | apply Kd.R_drew)); exact HO_6.out)) (by decide) hg); have n1_ := Aside0.mk (Kd.R_over' (by (with_reducible repeat (first | apply Kd.R_alloc | apply Kd.R_drewN | apply Kd.R_drew)); exact HO_5.out) (Kd.R_typed (by (with_reducible repeat (first | apply Kd.R_alloc | apply Kd.R_drewN | apply Kd.R_drew)); exact HO_6.out)) (by decide) hg); have n2_ := Aside0.mk (hb); have n3_ := Aside0.mk (ho); clear HO_4; clear HO_5; clear HB; clear HO_6; have HO_4 := n0_; have HO_5 := n1_; have HB := n2_; have HO154 := n3_; clear n0_ n1_ n2_ n3_; clear ho hb hg hat))
                                        go_roundg kj30
                                        case measure => have := HK1.out; have := HJ6.out; have := HJ18.out; have := HJ30.out; omega
                                        case rel => exact ⟨(y152), (wrap64 (x7_1 + 1)), (by first | rfl | (simp; done) | (simp [*]; done)), H', ⟨by have := HK1.out; have := HJ6.out; have := HJ18.out; have := HJ30.out; omega⟩, ⟨by (with_reducible repeat (first | apply Kd.R_alloc | apply Kd.R_drewN | apply Kd.R_drew)); exact HO_4.out⟩, ⟨by (with_reducible repeat (first | apply Kd.R_alloc | apply Kd.R_drewN | apply Kd.R_drew)); exact HO_5.out⟩, ⟨by (with_reducible repeat (first | apply Kd.R_alloc | apply Kd.R_drewN | apply Kd.R_drew)); exact HO154.out⟩, ⟨by repeat (first | (with_reducible first | exact HB.out | apply below_alloc | apply pw_below_drewN | apply below_drew1) | exact HB.out)⟩⟩
                                      · rw [if_neg c60] at H
                                        exact absurd H (by simp)
                                    · rw [if_neg c59] at H
                                      have c59b0 : ((bt a0 x7_1) == 93) = false := beq_eq_false_iff_ne.mpr c59
                                      have c59b1 : ((bt a0 x7_1) != 93) = true := bne_iff_ne.mpr c59
                                      by_cases c63 : (bt a0 x7_1) = 58
                                      · rw [if_pos c63] at H
                                        have c63b0 : ((bt a0 x7_1) == 58) = true := beq_iff_eq.mpr c63
                                        have c63b1 : ((bt a0 x7_1) != 58) = false := bne_eq_false_iff_eq.mpr c63
                                        clear c63
                                        by_cases c64 : x6_1.length < 17592186044416
                                        · rw [if_pos c64] at H
                                          have LMc64 := Aside0.mk c64
                                          clear c64
                                          obtain ⟨y155, hy155⟩ : ∃ y_ : List Int, y_ = (x6_1 ++ [3]) := ⟨_, rfl⟩
                                          replace H : (quarryref27_kinds.l0 kj30 a0 t124 t127 y155 (wrap64 (x7_1 + 1))) = some (r1, r2) := by first | (rw [hy155]; with_reducible exact H) | (have H2_ := (Option.bind_some _ _).symm.trans H; rw [hy155]; with_reducible exact H2_) | (have H2_ := (Option.bind_some _ _).symm.trans H; with_reducible exact H2_) | with_reducible exact H | (rw [hy155]; exact H) | exact H
                                          have Ny155 := Aside0.mk hy155
                                          clear hy155
                                          have H' := Aside0.mk H
                                          clear H
                                          have p46 : 0 ≤ (x7_1 : Int) := of_decide_eq_true (by first | (with_reducible assumption) | assumption)
                                          have q46 : x7_1 < (a0.size : Int) := of_decide_eq_true (by first | (with_reducible assumption) | assumption)
                                          have hx46 := bt_at a0 x7_1
                                          replace p46 := eq_true p46
                                          replace q46 := eq_true q46
                                          have p50 : 0 ≤ (x7_1 : Int) := of_decide_eq_true (by first | (with_reducible assumption) | assumption)
                                          have q50 : x7_1 < (a0.size : Int) := of_decide_eq_true (by first | (with_reducible assumption) | assumption)
                                          have hx50 := bt_at a0 x7_1
                                          replace p50 := eq_true p50
                                          replace q50 := eq_true q50
                                          have p54 : 0 ≤ (x7_1 : Int) := of_decide_eq_true (by first | (with_reducible assumption) | assumption)
                                          have q54 : x7_1 < (a0.size : Int) := of_decide_eq_true (by first | (with_reducible assumption) | assumption)
                                          have hx54 := bt_at a0 x7_1
                                          replace p54 := eq_true p54
                                          replace q54 := eq_true q54
                                          have p58 : 0 ≤ (x7_1 : Int) := of_decide_eq_true (by first | (with_reducible assumption) | assumption)
                                          have q58 : x7_1 < (a0.size : Int) := of_decide_eq_true (by first | (with_reducible assumption) | assumption)
                                          have hx58 := bt_at a0 x7_1
                                          replace p58 := eq_true p58
                                          replace q58 := eq_true q58
                                          have p62 : 0 ≤ (x7_1 : Int) := of_decide_eq_true (by first | (with_reducible assumption) | assumption)
                                          have q62 : x7_1 < (a0.size : Int) := of_decide_eq_true (by first | (with_reducible assumption) | assumption)
                                          have hx62 := bt_at a0 x7_1
                                          replace p62 := eq_true p62
                                          replace q62 := eq_true q62
                                          go_wp2_with (first | ((with_reducible refine gate_builtin (b := .append) (xs := #[.tmp 99, .tmp 101]) rfl ?_); at_builtin; refine Kd.R_append (Kd.int .i64) (w0 := w) w.heap.size rfl (.tmp 99) (.tmp 101) 22 3 (.int .i64 0) 8 rfl Tryd.underlying22 info3 rfl (by decide) (by omega) u6 x6_1 3 [.int .i64 3] (fun _ => True) (fun _ => False) rfl rfl ?aP (fun _ hk => hk.elim) ?aF ?aO ?aB ?aS ?aL ?_; (case aP => exact rfl); (case aB => exact (by repeat (first | (with_reducible first | exact HB.out | apply below_alloc | apply pw_below_drewN | apply below_drew1) | exact HB.out))); (case aF => exact (fun _ _ => trivial)); (case aO => exact (by (with_reducible repeat (first | apply Kd.R_alloc | apply Kd.R_drewN | apply Kd.R_drew)); exact HO_6.out)); (case aS => exact (below_size (by repeat (first | (with_reducible first | exact HB.out | apply below_alloc | apply pw_below_drewN | apply below_drew1) | exact HB.out)))); (case aL => have := LMc64.out; omega); intro v156 w65 ho hb hg hat; rw [← Ny155.out] at ho; have n0_ := Aside0.mk (Kd.R_over' (by (with_reducible repeat (first | apply Kd.R_alloc | apply Kd.R_drewN | apply Kd.R_drew)); exact HO_4.out) (Kd.R_typed (by (with_reducible repeat (first | apply Kd.R_alloc | apply Kd.R_drewN | apply Kd.R_drew)); exact HO_6.out)) (by decide) hg); have n1_ := Aside0.mk (Kd.R_over' (by (with_reducible repeat (first | apply Kd.R_alloc | apply Kd.R_drewN | apply Kd.R_drew)); exact HO_5.out) (Kd.R_typed (by (with_reducible repeat (first | apply Kd.R_alloc | apply Kd.R_drewN | apply Kd.R_drew)); exact HO_6.out)) (by decide) hg); have n2_ := Aside0.mk (hb); have n3_ := Aside0.mk (ho); clear HO_4; clear HO_5; clear HB; clear HO_6; have HO_4 := n0_; have HO_5 := n1_; have HB := n2_; have HO157 := n3_; clear n0_ n1_ n2_ n3_; clear ho hb hg hat))
                                          go_roundg kj30
                                          case measure => have := HK1.out; have := HJ6.out; have := HJ18.out; have := HJ30.out; omega
                                          case rel => exact ⟨(y155), (wrap64 (x7_1 + 1)), (by first | rfl | (simp; done) | (simp [*]; done)), H', ⟨by have := HK1.out; have := HJ6.out; have := HJ18.out; have := HJ30.out; omega⟩, ⟨by (with_reducible repeat (first | apply Kd.R_alloc | apply Kd.R_drewN | apply Kd.R_drew)); exact HO_4.out⟩, ⟨by (with_reducible repeat (first | apply Kd.R_alloc | apply Kd.R_drewN | apply Kd.R_drew)); exact HO_5.out⟩, ⟨by (with_reducible repeat (first | apply Kd.R_alloc | apply Kd.R_drewN | apply Kd.R_drew)); exact HO157.out⟩, ⟨by repeat (first | (with_reducible first | exact HB.out | apply below_alloc | apply pw_below_drewN | apply below_drew1) | exact HB.out)⟩⟩
                                        · rw [if_neg c64] at H
                                          exact absurd H (by simp)
                                      · rw [if_neg c63] at H
                                        have c63b0 : ((bt a0 x7_1) == 58) = false := beq_eq_false_iff_ne.mpr c63
                                        have c63b1 : ((bt a0 x7_1) != 58) = true := bne_iff_ne.mpr c63
                                        by_cases c67 : (bt a0 x7_1) = 44
                                        · rw [if_pos c67] at H
                                          have c67b0 : ((bt a0 x7_1) == 44) = true := beq_iff_eq.mpr c67
                                          have c67b1 : ((bt a0 x7_1) != 44) = false := bne_eq_false_iff_eq.mpr c67
                                          clear c67
                                          by_cases c68 : x6_1.length < 17592186044416
                                          · rw [if_pos c68] at H
                                            have LMc68 := Aside0.mk c68
                                            clear c68
                                            obtain ⟨y158, hy158⟩ : ∃ y_ : List Int, y_ = (x6_1 ++ [3]) := ⟨_, rfl⟩
                                            replace H : (quarryref27_kinds.l0 kj30 a0 t124 t127 y158 (wrap64 (x7_1 + 1))) = some (r1, r2) := by first | (rw [hy158]; with_reducible exact H) | (have H2_ := (Option.bind_some _ _).symm.trans H; rw [hy158]; with_reducible exact H2_) | (have H2_ := (Option.bind_some _ _).symm.trans H; with_reducible exact H2_) | with_reducible exact H | (rw [hy158]; exact H) | exact H
                                            have Ny158 := Aside0.mk hy158
                                            clear hy158
                                            have H' := Aside0.mk H
                                            clear H
                                            have p46 : 0 ≤ (x7_1 : Int) := of_decide_eq_true (by first | (with_reducible assumption) | assumption)
                                            have q46 : x7_1 < (a0.size : Int) := of_decide_eq_true (by first | (with_reducible assumption) | assumption)
                                            have hx46 := bt_at a0 x7_1
                                            replace p46 := eq_true p46
                                            replace q46 := eq_true q46
                                            have p50 : 0 ≤ (x7_1 : Int) := of_decide_eq_true (by first | (with_reducible assumption) | assumption)
                                            have q50 : x7_1 < (a0.size : Int) := of_decide_eq_true (by first | (with_reducible assumption) | assumption)
                                            have hx50 := bt_at a0 x7_1
                                            replace p50 := eq_true p50
                                            replace q50 := eq_true q50
                                            have p54 : 0 ≤ (x7_1 : Int) := of_decide_eq_true (by first | (with_reducible assumption) | assumption)
                                            have q54 : x7_1 < (a0.size : Int) := of_decide_eq_true (by first | (with_reducible assumption) | assumption)
                                            have hx54 := bt_at a0 x7_1
                                            replace p54 := eq_true p54
                                            replace q54 := eq_true q54
                                            have p58 : 0 ≤ (x7_1 : Int) := of_decide_eq_true (by first | (with_reducible assumption) | assumption)
                                            have q58 : x7_1 < (a0.size : Int) := of_decide_eq_true (by first | (with_reducible assumption) | assumption)
                                            have hx58 := bt_at a0 x7_1
                                            replace p58 := eq_true p58
                                            replace q58 := eq_true q58
                                            have p62 : 0 ≤ (x7_1 : Int) := of_decide_eq_true (by first | (with_reducible assumption) | assumption)
                                            have q62 : x7_1 < (a0.size : Int) := of_decide_eq_true (by first | (with_reducible assumption) | assumption)
                                            have hx62 := bt_at a0 x7_1
                                            replace p62 := eq_true p62
                                            replace q62 := eq_true q62
                                            have p66 : 0 ≤ (x7_1 : Int) := of_decide_eq_true (by first | (with_reducible assumption) | assumption)
                                            have q66 : x7_1 < (a0.size : Int) := of_decide_eq_true (by first | (with_reducible assumption) | assumption)
                                            have hx66 := bt_at a0 x7_1
                                            replace p66 := eq_true p66
                                            replace q66 := eq_true q66
                                            go_wp2_with (first | ((with_reducible refine gate_builtin (b := .append) (xs := #[.tmp 99, .tmp 101]) rfl ?_); at_builtin; refine Kd.R_append (Kd.int .i64) (w0 := w) w.heap.size rfl (.tmp 99) (.tmp 101) 22 3 (.int .i64 0) 8 rfl Tryd.underlying22 info3 rfl (by decide) (by omega) u6 x6_1 3 [.int .i64 3] (fun _ => True) (fun _ => False) rfl rfl ?aP (fun _ hk => hk.elim) ?aF ?aO ?aB ?aS ?aL ?_; (case aP => exact rfl); (case aB => exact (by repeat (first | (with_reducible first | exact HB.out | apply below_alloc | apply pw_below_drewN | apply below_drew1) | exact HB.out))); (case aF => exact (fun _ _ => trivial)); (case aO => exact (by (with_reducible repeat (first | apply Kd.R_alloc | apply Kd.R_drewN | apply Kd.R_drew)); exact HO_6.out)); (case aS => exact (below_size (by repeat (first | (with_reducible first | exact HB.out | apply below_alloc | apply pw_below_drewN | apply below_drew1) | exact HB.out)))); (case aL => have := LMc68.out; omega); intro v159 w69 ho hb hg hat; rw [← Ny158.out] at ho; have n0_ := Aside0.mk (Kd.R_over' (by (with_reducible repeat (first | apply Kd.R_alloc | apply Kd.R_drewN | apply Kd.R_drew)); exact HO_4.out) (Kd.R_typed (by (with_reducible repeat (first | apply Kd.R_alloc | apply Kd.R_drewN | apply Kd.R_drew)); exact HO_6.out)) (by decide) hg); have n1_ := Aside0.mk (Kd.R_over' (by (with_reducible repeat (first | apply Kd.R_alloc | apply Kd.R_drewN | apply Kd.R_drew)); exact HO_5.out) (Kd.R_typed (by (with_reducible repeat (first | apply Kd.R_alloc | apply Kd.R_drewN | apply Kd.R_drew)); exact HO_6.out)) (by decide) hg); have n2_ := Aside0.mk (hb); have n3_ := Aside0.mk (ho); clear HO_4; clear HO_5; clear HB; clear HO_6; have HO_4 := n0_; have HO_5 := n1_; have HB := n2_; have HO160 := n3_; clear n0_ n1_ n2_ n3_; clear ho hb hg hat))
                                            go_roundg kj30
                                            case measure => have := HK1.out; have := HJ6.out; have := HJ18.out; have := HJ30.out; omega
                                            case rel => exact ⟨(y158), (wrap64 (x7_1 + 1)), (by first | rfl | (simp; done) | (simp [*]; done)), H', ⟨by have := HK1.out; have := HJ6.out; have := HJ18.out; have := HJ30.out; omega⟩, ⟨by (with_reducible repeat (first | apply Kd.R_alloc | apply Kd.R_drewN | apply Kd.R_drew)); exact HO_4.out⟩, ⟨by (with_reducible repeat (first | apply Kd.R_alloc | apply Kd.R_drewN | apply Kd.R_drew)); exact HO_5.out⟩, ⟨by (with_reducible repeat (first | apply Kd.R_alloc | apply Kd.R_drewN | apply Kd.R_drew)); exact HO160.out⟩, ⟨by repeat (first | (with_reducible first | exact HB.out | apply below_alloc | apply pw_below_drewN | apply below_drew1) | exact HB.out)⟩⟩
                                          · rw [if_neg c68] at H
                                            exact absurd H (by simp)
                                        · rw [if_neg c67] at H
                                          have c67b0 : ((bt a0 x7_1) == 44) = false := beq_eq_false_iff_ne.mpr c67
                                          have c67b1 : ((bt a0 x7_1) != 44) = true := bne_iff_ne.mpr c67
                                          by_cases c70 : x6_1.length < 17592186044416
                                          · rw [if_pos c70] at H
                                            have LMc70 := Aside0.mk c70
                                            clear c70
                                            obtain ⟨y161, hy161⟩ : ∃ y_ : List Int, y_ = (x6_1 ++ [4]) := ⟨_, rfl⟩
                                            replace H : (quarryref27_kinds.l0 kj30 a0 t124 t127 y161 (wrap64 (x7_1 + 1))) = some (r1, r2) := by first | (rw [hy161]; with_reducible exact H) | (have H2_ := (Option.bind_some _ _).symm.trans H; rw [hy161]; with_reducible exact H2_) | (have H2_ := (Option.bind_some _ _).symm.trans H; with_reducible exact H2_) | with_reducible exact H | (rw [hy161]; exact H) | exact H
                                            have Ny161 := Aside0.mk hy161
                                            clear hy161
                                            have H' := Aside0.mk H
                                            clear H
                                            have p46 : 0 ≤ (x7_1 : Int) := of_decide_eq_true (by first | (with_reducible assumption) | assumption)
                                            have q46 : x7_1 < (a0.size : Int) := of_decide_eq_true (by first | (with_reducible assumption) | assumption)
                                            have hx46 := bt_at a0 x7_1
                                            replace p46 := eq_true p46
                                            replace q46 := eq_true q46
                                            have p50 : 0 ≤ (x7_1 : Int) := of_decide_eq_true (by first | (with_reducible assumption) | assumption)
                                            have q50 : x7_1 < (a0.size : Int) := of_decide_eq_true (by first | (with_reducible assumption) | assumption)
                                            have hx50 := bt_at a0 x7_1
                                            replace p50 := eq_true p50
                                            replace q50 := eq_true q50
                                            have p54 : 0 ≤ (x7_1 : Int) := of_decide_eq_true (by first | (with_reducible assumption) | assumption)
                                            have q54 : x7_1 < (a0.size : Int) := of_decide_eq_true (by first | (with_reducible assumption) | assumption)
                                            have hx54 := bt_at a0 x7_1
                                            replace p54 := eq_true p54
                                            replace q54 := eq_true q54
                                            have p58 : 0 ≤ (x7_1 : Int) := of_decide_eq_true (by first | (with_reducible assumption) | assumption)
                                            have q58 : x7_1 < (a0.size : Int) := of_decide_eq_true (by first | (with_reducible assumption) | assumption)
                                            have hx58 := bt_at a0 x7_1
                                            replace p58 := eq_true p58
                                            replace q58 := eq_true q58
                                            have p62 : 0 ≤ (x7_1 : Int) := of_decide_eq_true (by first | (with_reducible assumption) | assumption)
                                            have q62 : x7_1 < (a0.size : Int) := of_decide_eq_true (by first | (with_reducible assumption) | assumption)
                                            have hx62 := bt_at a0 x7_1
                                            replace p62 := eq_true p62
                                            replace q62 := eq_true q62
                                            have p66 : 0 ≤ (x7_1 : Int) := of_decide_eq_true (by first | (with_reducible assumption) | assumption)
                                            have q66 : x7_1 < (a0.size : Int) := of_decide_eq_true (by first | (with_reducible assumption) | assumption)
                                            have hx66 := bt_at a0 x7_1
                                            replace p66 := eq_true p66
                                            replace q66 := eq_true q66
                                            go_wp2_with (first | ((with_reducible refine gate_builtin (b := .append) (xs := #[.tmp 99, .tmp 101]) rfl ?_); at_builtin; refine Kd.R_append (Kd.int .i64) (w0 := w) w.heap.size rfl (.tmp 99) (.tmp 101) 22 3 (.int .i64 0) 8 rfl Tryd.underlying22 info3 rfl (by decide) (by omega) u6 x6_1 4 [.int .i64 4] (fun _ => True) (fun _ => False) rfl rfl ?aP (fun _ hk => hk.elim) ?aF ?aO ?aB ?aS ?aL ?_; (case aP => exact rfl); (case aB => exact (by repeat (first | (with_reducible first | exact HB.out | apply below_alloc | apply pw_below_drewN | apply below_drew1) | exact HB.out))); (case aF => exact (fun _ _ => trivial)); (case aO => exact (by (with_reducible repeat (first | apply Kd.R_alloc | apply Kd.R_drewN | apply Kd.R_drew)); exact HO_6.out)); (case aS => exact (below_size (by repeat (first | (with_reducible first | exact HB.out | apply below_alloc | apply pw_below_drewN | apply below_drew1) | exact HB.out)))); (case aL => have := LMc70.out; omega); intro v162 w71 ho hb hg hat; rw [← Ny161.out] at ho; have n0_ := Aside0.mk (Kd.R_over' (by (with_reducible repeat (first | apply Kd.R_alloc | apply Kd.R_drewN | apply Kd.R_drew)); exact HO_4.out) (Kd.R_typed (by (with_reducible repeat (first | apply Kd.R_alloc | apply Kd.R_drewN | apply Kd.R_drew)); exact HO_6.out)) (by decide) hg); have n1_ := Aside0.mk (Kd.R_over' (by (with_reducible repeat (first | apply Kd.R_alloc | apply Kd.R_drewN | apply Kd.R_drew)); exact HO_5.out) (Kd.R_typed (by (with_reducible repeat (first | apply Kd.R_alloc | apply Kd.R_drewN | apply Kd.R_drew)); exact HO_6.out)) (by decide) hg); have n2_ := Aside0.mk (hb); have n3_ := Aside0.mk (ho); clear HO_4; clear HO_5; clear HB; clear HO_6; have HO_4 := n0_; have HO_5 := n1_; have HB := n2_; have HO163 := n3_; clear n0_ n1_ n2_ n3_; clear ho hb hg hat))
                                            go_roundg kj30
                                            case measure => have := HK1.out; have := HJ6.out; have := HJ18.out; have := HJ30.out; omega
                                            case rel => exact ⟨(y161), (wrap64 (x7_1 + 1)), (by first | rfl | (simp; done) | (simp [*]; done)), H', ⟨by have := HK1.out; have := HJ6.out; have := HJ18.out; have := HJ30.out; omega⟩, ⟨by (with_reducible repeat (first | apply Kd.R_alloc | apply Kd.R_drewN | apply Kd.R_drew)); exact HO_4.out⟩, ⟨by (with_reducible repeat (first | apply Kd.R_alloc | apply Kd.R_drewN | apply Kd.R_drew)); exact HO_5.out⟩, ⟨by (with_reducible repeat (first | apply Kd.R_alloc | apply Kd.R_drewN | apply Kd.R_drew)); exact HO163.out⟩, ⟨by repeat (first | (with_reducible first | exact HB.out | apply below_alloc | apply pw_below_drewN | apply below_drew1) | exact HB.out)⟩⟩
                                          · rw [if_neg c70] at H
                                            exact absurd H (by simp)
                            · rw [if_neg c45] at H
                              exact absurd H (by simp)
                          · rw [if_neg c44] at H
                            exact absurd H (by simp)
      · rw [if_neg c6] at H
        have c6b0 : decide (x7_1 < (a0.size : Int)) = false := decide_eq_false c6
        clear c6
        simp only [Option.some.injEq, Prod.mk.injEq] at H
        obtain ⟨rfl, rfl⟩ := H
        go_wp2
        go_ret2
        exact ⟨_, _, by first | rfl | (simp [errW_none, errW_some] <;> rfl) | (simp [*, errW_none, errW_some] <;> rfl), by (with_reducible repeat (first | apply Kd.R_alloc | apply Kd.R_drewN | apply Kd.R_drew)); exact HO_6.out, by (with_reducible repeat (first | apply Kd.R_alloc | apply Kd.R_drewN | apply Kd.R_drew)); exact Kd.R_mono HO_5.out (fun _ hk => trivial), by repeat (first | (with_reducible first | exact HB.out | apply below_alloc | apply pw_below_drewN | apply below_drew1) | exact HB.out)⟩

end Go.Proofs.YtfihkkjkifkemaaDoor.PS
end
