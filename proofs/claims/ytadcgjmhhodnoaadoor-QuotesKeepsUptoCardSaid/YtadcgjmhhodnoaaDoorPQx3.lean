-- Written by a program (myprint.py, over the kit's print) for this claim. Not trusted: Lean checks it.
import Derived.Test.YtadcgjmhhodnoaaDoorMh
import Derived.Test.YtadcgjmhhodnoaaDoorPQx0
import Derived.Test.YtadcgjmhhodnoaaDoorPQx1
import Derived.Test.YtadcgjmhhodnoaaDoorPQx2
namespace Go.Proofs.YtadcgjmhhodnoaaDoor.PQ
attribute [local go_sem] Go.Proofs.YtadcgjmhhodnoaaDoorM.fieldBits0 Go.Proofs.YtadcgjmhhodnoaaDoorM.fieldBits1
open Go.RowKit Go.Proofs.YtadcgjmhhodnoaaDoorW.PrintWords Go.Proofs.YtadcgjmhhodnoaaDoorW.PrintLast Go.Proofs.YtadcgjmhhodnoaaDoorW.PrintMore
attribute [local go_sem] max2_int min2_int max_two min_two max_three min_three max_four min_four   -- for this text's walks alone
set_option linter.unusedVariables false
set_option linter.unusedSimpArgs false

/-! ### quotes_Control: function 29 -/
section
open Go.Proofs.YtadcgjmhhodnoaaDoorQ Go.Proofs.YtadcgjmhhodnoaaDoorM Go.Shelf
attribute [local go_sem] Oper.semAt_some
/-- Between two blocks: none so far. -/
structure CtlI (s : ByteArray) (w : World) (L : List (Nat × Array Value × Nat)) (m : Nat) (v1 : Value) {n : Nat} (pre : List (Fin n)) (W : World) : Prop where mk ::
  bs : Blks L W
  row : W.ownsRow w.heap.size 64 1 v1 (nwords s.size) ((wordsOf s.size (insS s)).map (Value.int .u64))
  no : ∀ x ∈ pre, ∀ j, j < 64 → 64 * x.val + j < s.size → ctq s (64 * x.val + j) = false
  ht : TabOk W
  hb : BelowH w W
  sz : m ≤ W.heap.size
theorem CtlI.kept {s : ByteArray} {w W W' : World} {L : List (Nat × Array Value × Nat)} {m : Nat} {v1 : Value} {n : Nat} {pre : List (Fin n)} (h : CtlI s w L m v1 pre W) {B : Nat} (hB : w.heap.size ≤ B) {row : Option Nat} (hg : W.grownBy W' row) (hr : ∀ r, row = some r → B ≤ r ∧ ∃ o : Obj, W.heap[r]? = some o ∧ o.isCells = false) : CtlI s w L m v1 pre W' := by
  have hr' : ∀ r, row = some r → ∃ o : Obj, W.heap[r]? = some o ∧ o.isCells = false := fun r e => (hr r e).2
  exact ⟨h.bs.kept hg hr', row_kept h.row hg hr', h.no, h.ht.kept hg hr', h.hb.kept hg hB (fun r e => (hr r e).1), Nat.le_trans h.sz hg.size⟩
theorem CtlI.below {s : ByteArray} {w W W' : World} {L : List (Nat × Array Value × Nat)} {m : Nat} {v1 : Value} {n : Nat} {pre : List (Fin n)} (h : CtlI s w L m v1 pre W) (hb : Below W.heap.size W W') : CtlI s w L m v1 pre W' :=
  ⟨h.bs.below hb, row_below h.row hb, h.no, h.ht.step hb, h.hb.step hb, Nat.le_trans h.sz hb.size⟩
/-- Behind the loop: the first one. -/
structure CtlX (s : ByteArray) (w : World) (g2 : Nat) {n : Nat} (pre : List (Fin n)) (W : World) : Prop where mk ::
  res : ∃ (x : Fin n) (p : List (Fin n)) (j : Nat), pre = p ++ [x] ∧ Blk W g2 #[.int .i64 (64 * ((x.val : Nat) : Int) + (j : Int))] 3 ∧ j < 64 ∧ 64 * x.val + j < s.size ∧ ctq s (64 * x.val + j) = true ∧ (∀ i, i < j → 64 * x.val + i < s.size → ctq s (64 * x.val + i) = false) ∧ ∀ y ∈ p, ∀ j, j < 64 → 64 * y.val + j < s.size → ctq s (64 * y.val + j) = false
  hb : BelowH w W
theorem CtlX.kept {s : ByteArray} {w W W' : World} {g2 : Nat} {n : Nat} {pre : List (Fin n)} (h : CtlX s w g2 pre W) {B : Nat} (hB : w.heap.size ≤ B) {row : Option Nat} (hg : W.grownBy W' row) (hr : ∀ r, row = some r → B ≤ r ∧ ∃ o : Obj, W.heap[r]? = some o ∧ o.isCells = false) : CtlX s w g2 pre W' := by
  have hr' : ∀ r, row = some r → ∃ o : Obj, W.heap[r]? = some o ∧ o.isCells = false := fun r e => (hr r e).2
  obtain ⟨x, p, j, h1, h2, h3⟩ := h.res
  exact ⟨⟨x, p, j, h1, h2.kept hg hr', h3⟩, h.hb.kept hg hB (fun r e => (hr r e).1)⟩
theorem ctl_none {s : ByteArray} (h : ∀ x ∈ List.finRange (nwords s.size), ∀ j, j < 64 → 64 * x.val + j < s.size → ctq s (64 * x.val + j) = false) : firstQ s.size (ctq s) = -1 := by
  refine firstQ_none fun i hi => ?_
  have hx : i / 64 < nwords s.size := by unfold nwords; omega
  have := h ⟨i / 64, hx⟩ (List.mem_finRange _) (i % 64) (by omega) (by dsimp only; omega)
  dsimp only at this
  rw [show 64 * (i / 64) + i % 64 = i from by omega] at this
  exact this
theorem ctl_last {n : Nat} {pre : List (Fin n)} {x : Fin n} (h : pre ++ [x] <+: List.finRange n) (i : Fin n) (hi : i.val < x.val) : i ∈ pre := by
  obtain ⟨t, ht⟩ := h
  have hx : (List.finRange n)[pre.length]? = some x := by
    rw [← ht, List.append_assoc, List.getElem?_append_right (Nat.le_refl _), Nat.sub_self]
    rfl
  have hl : pre.length < n := by
    have := congrArg List.length ht
    simp at this
    omega
  have hv : x.val = pre.length := by
    simp [hl] at hx
    rw [← hx]
  have hp : (List.finRange n)[i.val]? = some i := by simp
  rw [← ht, List.append_assoc, List.getElem?_append_left (by omega)] at hp
  exact List.mem_of_getElem? hp
theorem ctl_some {s : ByteArray} {pre : List (Fin (nwords s.size))} {x : Fin (nwords s.size)} {j : Nat} (h : pre ++ [x] <+: List.finRange (nwords s.size)) (h1 : j < 64) (h2 : 64 * x.val + j < s.size) (h3 : ctq s (64 * x.val + j) = true) (h4 : ∀ i, i < j → 64 * x.val + i < s.size → ctq s (64 * x.val + i) = false)
    (h5 : ∀ y ∈ pre, ∀ j, j < 64 → 64 * y.val + j < s.size → ctq s (64 * y.val + j) = false) : firstQ s.size (ctq s) = 64 * ((x.val : Nat) : Int) + (j : Int) := by
  rw [firstQ_at h2 h3 (fun i hi => ?_)]
  · omega
  · by_cases g : 64 * x.val ≤ i
    · have := h4 (i - 64 * x.val) (by omega) (by omega)
      rw [show 64 * x.val + (i - 64 * x.val) = i from by omega] at this
      exact this
    · have hx : i / 64 < nwords s.size := by have := x.isLt; omega
      have := h5 ⟨i / 64, hx⟩ (ctl_last h _ (by dsimp only; omega)) (i % 64) (by omega) (by dsimp only; omega)
      dsimp only at this
      rw [show 64 * (i / 64) + i % 64 = i from by omega] at this
      exact this
def quotes_Control.f (a0 : ByteArray) : Option Int := if a0.size ≤ 281474976702464 then some (firstQ a0.size (ctq a0)) else none
set_option maxHeartbeats 4000000 in
set_option maxRecDepth 100000 in
theorem quotes_Control.walk (s : ByteArray) (w : World) (hs : s.size ≤ 281474976702464) (hT : TabOk w) :
    Calls Tryd.prog 29 #[.string s] w fun e w' => e = .returned (.int .i64 (firstQ s.size (ctq s))) ∧ Below w.heap.size w w' := by
  obtain ⟨F, hF⟩ : ∃ F, F = Fence.wide := ⟨_, rfl⟩
  have HF := Aside0.mk hF
  refine (callsIn_wide (n := 9)).1 ?_
  rw [← hF]
  clear hF
  have hro := wide_round HF
  have HB := BelowH.refl w
  have f1 := wide_fn HF 58
  have f2 := wide_fn HF 83
  have f3 := wide_fn HF 65
  have f4 := wide_fn HF 24
  have f5 := wide_fn HF 66
  have HT := Aside0.mk hT
  clear hT
  refine callsIn_of_wp_marks Tryd.func29 rfl (wide_fn HF _) ?_ hro
  simp only [Tryd.ntmps29, List.size_toArray, List.length_cons, List.length_nil, Nat.reduceAdd, Nat.reduceSub, Array.replicate_succ, Array.replicate_zero, List.push_toArray, List.append_toArray, List.nil_append, List.cons_append]
  gi_upto_region 2 with (first
    | ((with_reducible refine gate_dstIn (N := 2) rfl ?_); refine ev_allocIn HB rfl rfl (#[.int .i64 0]) 3 ?hr ?_; (case hr => first | (go_simp; done) | (go_simp; rfl)); intro g2 w2 G_g2 GE_g2 B_g2 HBn K_g2 KO_w2; clear HB; have HB := HBn; clear HBn)
    | (gi_at_call 24; refine (callsIn_of HF (quotes_Inside.walk s _ hs)).mono ?_; rintro e w3 ⟨v1, rfl, hrow, hb3⟩; have R3 := Aside0.mk (row_mono hrow HB.le); have V1 := Aside0.mk (row_one hrow); have HK3 := Aside0.mk hb3; have HBn := HB.step hb3; clear HB hb3 hrow; have HB := HBn; clear HBn)
    | ((with_reducible refine gate_dstIn (N := 3) rfl ?_); refine ev_allocIn HB rfl rfl (#[.int .i64 0, .slice none 0 0]) 38 ?hr ?_; (case hr => first | (go_simp; done) | (go_simp; rfl)); intro g3 w4 G_g3 GE_g3 B_g3 HBn K_g3 KO_w4; clear HB; have HB := HBn; clear HBn)
    | ((with_reducible refine gate_In (Op.store 38 (.tmp 3) (.tmp 8)) rfl ?_); refine ev_storeIn HB B_g3 GE_g3 rfl 38 _ _ rfl rfl rfl (by kernel_rfl) rfl (by simp [Value.oneCell']; exact V1.out) ?_; intro w5 B3 HBn K_w5 KO_w5; clear HB; have HB := HBn; clear HBn))
  have N23 := Aside0.mk (show g2 < g3 by have := G_g3.out; have := B_g2.lt; have := HK3.out.size; omega)
  have B2 := ((B_g2.below HK3.out).below K_g3.out).other K_w5 (Nat.ne_of_lt N23.out)
  have R5 := row_other (row_below R3.out K_g3.out) B_g3 (by decide) K_w5
  have O2 : 0 < g2 := by have := GE_g2.out; have := HT.out.pos; omega
  clear B_g2 B_g3 K_g2 K_g3 K_w5 KO_w2 KO_w4 KO_w5 R3 HK3 G_g2 G_g3
  gi_wp2_with (first
    | (gi_at_call 58; refine (callsIn_of HF (block_Blocks.calls s 32 _)).mono ?_; rintro e w7 ⟨h1, h2, rfl, GE1, GE2, A1, A2, HB7⟩))
  obtain ⟨L, hL⟩ : ∃ L : List (Nat × Array Value × Nat), L = [(g3, #[.int .i64 s.size, v1], 38), (g2, #[.int .i64 0], 3), (h1, #[.string s], 9), (h2, #[.int .u8 32], 5)] := ⟨_, rfl⟩
  have CL : Blks L w7 := ⟨by
    rw [hL]
    intro b m
    simp at m
    rcases m with rfl | rfl | rfl | rfl
    · exact B3.below HB7.out
    · exact B2.below HB7.out
    · exact A1
    · exact A2⟩
  have C7 := row_below R5 HB7.out
  have LL : ∀ b ∈ L, b.1 < w7.heap.size := fun b m => (CL.out b m).lt
  have LT : ∀ b ∈ L, b.2.2 ≠ 64 := by
    rw [hL]
    intro b m
    simp at m
    rcases m with rfl | rfl | rfl | rfl <;> (dsimp only; decide)
  have M3 : (g3, #[.int .i64 s.size, v1], 38) ∈ L := by rw [hL]; simp
  have M2 : (g2, #[.int .i64 0], 3) ∈ L := by rw [hL]; simp
  have M4 : (h1, #[.string s], 9) ∈ L := by rw [hL]; simp
  have M5 : (h2, #[.int .u8 32], 5) ∈ L := by rw [hL]; simp
  have HBW := HB.step HB7.out
  have HT7 := HT.out.stepH HBW
  have LH1 := A1.lt
  have LH2 := A2.lt
  have PL := Aside0.mk (And.intro LL LT)
  have PM := Aside0.mk (And.intro M3 (And.intro M2 (And.intro M4 M5)))
  clear B2 B3 R5 HB7 HB f1 hL LL LT M2 M3 M4 M5 N23 HT O2
  refine wpIn_rangeFunc_ownH hro (by decide) (gf := 83) (lb := #[.pointer (some ⟨h1, 0, none⟩), .pointer (some ⟨h2, 0, none⟩)]) rfl f2 (enters_of Tryd.func83 (by kernel_rfl) rfl)
    (block_Blocks_1.stops F HF (9 - 1) (by decide) h1 h2 s 32 hs w7 A1 A2) Keep2.trans (fun W l o o' hl ho hc hw => Keep2.putObj LH1 LH2 W l o o' hl ho hc hw) (Below.refl _ _) (fun _ => rfl)
    (CtlI s w L w7.heap.size v1) (fun c pre W => c = .ret ∧ CtlX s w g2 pre W)
    (fun pre A B row hs hg hr => hs.kept HBW.le hg hr)
    (fun c pre A B row hs hg hr => ⟨hs.1, hs.2.kept HBW.le hg hr⟩)
    ⟨CL, C7, fun x hx => absurd hx List.not_mem_nil, HT7, HBW, Nat.le_refl _⟩
    (fun x a' W => ∃ gb, w7.heap.size ≤ gb ∧ Blk W gb (blkA (cutF s (64 * ((x.val : Nat) : Int)) 32)) 79 ∧ a' = { tmps := #[.string s, undef, .pointer (some ⟨g2, 0, none⟩), .pointer (some ⟨g3, 0, none⟩), .int .i64 (64 * ((x.val : Nat) : Int)), .pointer (some ⟨gb, 0, none⟩), undef, .string s, .agg #[.int .i64 s.size, v1], .string s, .func (.func 83) #[] #[.pointer (some ⟨h1, 0, none⟩), .pointer (some ⟨h2, 0, none⟩)], .int .i64 (64 * ((x.val : Nat) : Int)), .agg (blkA (cutF s (64 * ((x.val : Nat) : Int)) 32)), undef, undef, undef, undef, undef, undef, undef, undef, undef, undef, undef, undef, undef, undef, undef, undef, undef], defers := [] })
    (fun x a' pre A B row hs hg hr => by
      obtain ⟨gb, h1, h2, h3⟩ := hs
      exact ⟨gb, h1, h2.kept hg (fun r e => (hr r e).2), h3⟩)
    ?assign ?body ?done ?stop
  case assign =>
    intro l pre x W K hI hK
    have HB := hI.hb
    have SZ := Aside0.mk hI.sz
    dsimp only [blkEnc]
    gi_wp2_with (first
      | ((with_reducible refine gate_dstIn (N := 5) rfl ?_); refine ev_allocIn HB rfl rfl (blkA fun _ => 0) 79 ?hr ?_; (case hr => (rw [← blkA_zero]; go_simp; rfl)); intro gb w8 G_gb GE_gb B_gb HBn K_gb KO_w8; clear HB; have HB := HBn; clear HBn)
      | ((with_reducible refine gate_In (Op.store 79 (.tmp 5) (.tmp 12)) rfl ?_); refine ev_storeIn HB B_gb GE_gb rfl 79 _ _ rfl rfl rfl (size64' _) (by rw [blkA_size, blkA_size]) (blkA_one _) ?_; intro w9 B9 HBn K_w9 KO_w9; clear HB; have HB := HBn; clear HBn))
    have hKO := KO_w8.out.trans KO_w9.out
    refine hK _ _ (hKO.from _) ?_ ?_ ⟨gb, Nat.le_trans SZ.out G_gb.out, B9, rfl⟩
    · exact (Keep2.below K_gb.out (by have := SZ.out; omega) (by have := SZ.out; omega)).trans (Keep2.other K_w9 (by have := SZ.out; have := G_gb.out; omega) (by have := SZ.out; have := G_gb.out; omega))
    · have N : ∀ g, g < w7.heap.size → g ≠ gb := fun g h => by have := SZ.out; have := G_gb.out; omega
      have P7 := HT7.pos
      exact ⟨(hI.bs.below K_gb.out).other K_w9 (fun b m => N _ (PL.out.1 b m)), row_other (row_below hI.row K_gb.out) B_gb (by decide) K_w9, hI.no, (hI.ht.step K_gb.out).other (Nat.pos_of_ne_zero (Ne.symm (N 0 P7))) K_w9, HB, Nat.le_trans SZ.out (Nat.le_trans K_gb.out.size K_w9.out.1)⟩
  case body =>
    rintro l pre x a' W hl ⟨r, hr⟩ hI ⟨gb, hgb, BX, rfl⟩ hlt
    clear hr hlt
    obtain (⟨_, hn0⟩ | ⟨g, cap, cur, rfl, hbg, BG, HA⟩) := row_openN hI.row
    · have := x.isLt; omega
    obtain ⟨V, hV⟩ : ∃ V, V = iv (wordAt s.size (insS s) x.val) := ⟨_, rfl⟩
    obtain ⟨M, hM⟩ : ∃ M, M = iv (word fun j => lowX (cutF s (64 * ((x.val : Nat) : Int)) 32 j).toNat) := ⟨_, rfl⟩
    obtain ⟨BAD, hBAD⟩ : ∃ BAD, BAD = iv (wordAt s.size (ctq s) x.val) := ⟨_, rfl⟩
    have HAND : Aside0 (bits .and .u64 M V = BAD) := ⟨by rw [hM, hV, hBAD]; exact class_in s x.val lowX (insS s)⟩
    have hget : ((wordsOf s.size (insS s)).map (Value.int .u64))[x.val]? = some (.int .u64 V) := by
      rw [List.getElem?_map, wordsOf, List.getElem?_map, List.getElem?_range x.isLt, hV]
      rfl
    have EQ : Aside0 (∀ w, Calls Tryd.prog 65 #[.agg (blkA (cutF s (64 * ((x.val : Nat) : Int)) 32)), .agg #[.int .u64 4294967295, .int .u64 0, .int .u64 0, .int .u64 0]] w fun e w' => e = .returned (.int .u64 M) ∧ Below w.heap.size w w') := ⟨fun w => by
      rw [hM, ← low_cls]
      exact block_Mask.calls _ (fun i => cutF_range s _ 32 (by decide) i) lowX w⟩
    have HG := Aside0.mk (HA _ _ hget)
    have HBD := Aside0.mk hBAD
    have hq1 : 64 * ((x.val : Nat) : Int) / 64 = ((x.val : Nat) : Int) := by omega
    have hq2 : Int.tdiv (64 * ((x.val : Nat) : Int)) 64 = ((x.val : Nat) : Int) := by rw [Int.tdiv_eq_ediv_of_nonneg (by omega)]; omega
    have hq3 : (0 : Int) ≤ ((x.val : Nat) : Int) := by omega
    have hq4 : ((x.val : Nat) : Int) < ((nwords s.size : Nat) : Int) := by have := x.isLt; omega
    have hq5 : ((x.val : Nat) : Int) ≤ 4398046511104 := by have := x.isLt; unfold nwords at this; omega
    have hq6 : IntKind.i64.wrap ((x.val : Nat) : Int) = ((x.val : Nat) : Int) := by rw [i64_w]; unfold wrap64; omega
    have hbd : Aside0 (Below W.heap.size W W.drew) := ⟨below_drew (Below.refl _ _)⟩
    have HI := Aside0.mk hI
    have I' := hI.below hbd.out
    have BX' := BX.below hbd.out
    have BG' := BG.below hbd.out
    have KO' := Aside0.mk (keepsOthers_below hbd.out)
    have HZ' := Aside0.mk hbd.out.size
    clear hbg BG HA hget BX hI hV hM hBAD
    gi_upto_region 5 with (fail)
    refine wpIn_region_last_drew HF (S := fun W' => Blk W' g3 #[.int .i64 s.size, .slice (some ⟨g, 0, none⟩) (nwords s.size) cap] 38 ∧ Blk W' gb (blkA (cutF s (64 * ((x.val : Nat) : Int)) 32)) 79 ∧ Blk W' g cur 64) (ds := []) (by kernel_rfl) (by kernel_rfl) ⟨I'.bs.out _ PM.out.1, BX', BG'⟩ (fun hS => ?_)
    refine wpAnyLast_take (i := 0) (oi := Oper.mk _ _ _ _ _ _) rfl (by kernel_rfl) (by kernel_rfl) (by kernel_rfl) (by kernel_rfl) (by kernel_rfl) (fun _ _ _ h => h) (rg_load (by rfl) (fun _ hS => hS.2.1) 79 _ rfl rfl Tryd.underlying79 rfl (size64' _)) hS ?_
    try simp only [Act.put, List.setIfInBounds_toArray, List.set_cons_zero, List.set_cons_succ]
    refine' wpAnyLast_take (i := 1) (oi := Oper.mk _ _ _ _ _ _) rfl (by kernel_rfl) (by kernel_rfl) (by kernel_rfl) (by kernel_rfl) (by kernel_rfl) (fun _ _ _ h => h) (Or.inl ⟨by rfl, ?hy1⟩) hS ?rest1
    case hy1 => (intro w hSw; (try dsimp only at hSw); first | (go_simp; done) | (go_simp; with_reducible rfl))
    try simp only [Act.put, List.setIfInBounds_toArray, List.set_cons_zero, List.set_cons_succ]
    refine' wpAnyLast_take (i := 2) (oi := Oper.mk _ _ _ _ _ _) rfl (by kernel_rfl) (by kernel_rfl) (by kernel_rfl) (by kernel_rfl) (by kernel_rfl) (fun _ _ _ h => h) (Or.inl ⟨by rfl, ?hy2⟩) hS ?rest2
    case hy2 => (intro w hSw; (try dsimp only at hSw); first | (go_simp; done) | (go_simp; with_reducible rfl))
    try simp only [Act.put, List.setIfInBounds_toArray, List.set_cons_zero, List.set_cons_succ]
    refine' wpAnyLast_take (i := 4) (oi := Oper.mk _ _ _ _ _ _) rfl (by kernel_rfl) (by kernel_rfl) (by kernel_rfl) (by kernel_rfl) (by kernel_rfl) (fun _ _ _ h => h) (Or.inl ⟨by rfl, ?hy3⟩) hS ?rest3
    case hy3 => (intro w hSw; (try dsimp only at hSw); first | (go_simp; done) | (go_simp; with_reducible rfl))
    try simp only [Act.put, List.setIfInBounds_toArray, List.set_cons_zero, List.set_cons_succ]
    refine wpAnyLast_take (i := 5) (oi := Oper.mk _ _ _ _ _ _) rfl (by kernel_rfl) (by kernel_rfl) (by kernel_rfl) (by kernel_rfl) (by kernel_rfl) (fun _ _ _ h => h) (rg_load1 (by rfl) (fun _ hS => hS.1.cell (i := 1) rfl) 36 _ rfl rfl (fun _ => by simp [isAgg, run_underlying Tryd.underlying36])) hS ?_
    try simp only [Act.put, List.setIfInBounds_toArray, List.set_cons_zero, List.set_cons_succ]
    refine' wpAnyLast_take (i := 6) (oi := Oper.mk _ _ _ _ _ _) rfl (by kernel_rfl) (by kernel_rfl) (by kernel_rfl) (by kernel_rfl) (by kernel_rfl) (fun _ _ _ h => h) (Or.inl ⟨by rfl, ?hy4⟩) hS ?rest4
    case hy4 => (intro w hSw; (try dsimp only at hSw); first | (go_simp; done) | (go_simp; with_reducible rfl))
    try simp only [Act.put, List.setIfInBounds_toArray, List.set_cons_zero, List.set_cons_succ]
    refine' wpAnyLast_take (i := 7) (oi := Oper.mk _ _ _ _ _ _) rfl (by kernel_rfl) (by kernel_rfl) (by kernel_rfl) (by kernel_rfl) (by kernel_rfl) (fun _ _ _ h => h) (Or.inl ⟨by rfl, ?hy5⟩) hS ?rest5
    case hy5 => (intro w hSw; (try dsimp only at hSw); first | (go_simp; done) | (go_simp; with_reducible rfl))
    try simp only [Act.put, List.setIfInBounds_toArray, List.set_cons_zero, List.set_cons_succ]
    refine' wpAnyLast_take (i := 8) (oi := Oper.mk _ _ _ _ _ _) rfl (by kernel_rfl) (by kernel_rfl) (by kernel_rfl) (by kernel_rfl) (by kernel_rfl) (fun _ _ _ h => h) (Or.inl ⟨by rfl, ?hy6⟩) hS ?rest6
    case hy6 => (intro w hSw; (try dsimp only at hSw); first | (go_simp; done) | (go_simp; with_reducible rfl))
    try simp only [Act.put, List.setIfInBounds_toArray, List.set_cons_zero, List.set_cons_succ]
    refine wpAnyLast_take (i := 9) (oi := Oper.mk _ _ _ _ _ _) rfl (by kernel_rfl) (by kernel_rfl) (by kernel_rfl) (by kernel_rfl) (by kernel_rfl) (fun _ _ _ h => h) (rg_load1 (by rfl) (fun _ hS => hS.2.2.cell HG.out) 64 _ rfl rfl (fun _ => by simp [isAgg, run_underlying Tryd.underlying64])) hS ?_
    try simp only [Act.put, List.setIfInBounds_toArray, List.set_cons_zero, List.set_cons_succ]
    refine wpAnyLast_ready (rs := [3]) (by kernel_rfl) (by simp) ?_
    refine AllReadyL.cons (o := Oper.mk _ _ _ _ _ _) rfl (by decide) (fun K hK => ?_) ?_
    · refine rg_call (by rfl) _ _ (.int .u64 M) (by first | (go_simp; done) | (go_simp; rfl)) (EQ.out _) ?_
      intro W' hb
      have I2 := I'.below hb.out
      have BX2 := BX'.below hb.out
      have BG2 := BG'.below hb.out
      have KO2 := Aside0.mk (KO'.out.trans (keepsOthers_below hb.out))
      have HZ2 := Aside0.mk (Nat.le_trans HZ'.out hb.out.size)
      clear I' BX' BG' KO' HZ'
      refine hK.out _ _ ⟨I2.bs.out _ PM.out.1, BX2, BG2⟩ (fun hS => ?_)
      clear hK K
      try simp only [Act.put, List.setIfInBounds_toArray, List.set_cons_zero, List.set_cons_succ]
      refine' wpAnyLast_take (i := 10) (oi := Oper.mk _ _ _ _ _ _) rfl (by kernel_rfl) (by kernel_rfl) (by kernel_rfl) (by kernel_rfl) (by kernel_rfl) (fun _ _ _ h => h) (Or.inl ⟨by rfl, ?hy7⟩) hS ?rest7
      case hy7 => (intro w hSw; (try dsimp only at hSw); first | (go_simp; done) | (go_simp; with_reducible rfl))
      try simp only [Act.put, List.setIfInBounds_toArray, List.set_cons_zero, List.set_cons_succ]
      refine' wpAnyLast_take (i := 11) (oi := Oper.mk _ _ _ _ _ _) rfl (by kernel_rfl) (by kernel_rfl) (by kernel_rfl) (by kernel_rfl) (by kernel_rfl) (fun _ _ _ h => h) (Or.inl ⟨by rfl, ?hy8⟩) hS ?rest8
      case hy8 => (intro w hSw; (try dsimp only at hSw); first | (go_simp; done) | (go_simp; with_reducible rfl))
      try simp only [Act.put, List.setIfInBounds_toArray, List.set_cons_zero, List.set_cons_succ]
      refine wpAnyLast_done (by kernel_rfl) ?_ _
      refine Straight.normal ?_
      rw [HAND.out]
      have HB := I2.hb
      by_cases h0 : BAD = 0
      · have t0 : (BAD == 0) = true := beq_iff_eq.mpr h0
        have H0 := Aside0.mk h0
        clear h0
        gi_wp2
        refine ⟨KO2.out.from _, Keep2.of_blk (HI.out.bs.out _ PM.out.2.2.1) (HI.out.bs.out _ PM.out.2.2.2) (I2.bs.out _ PM.out.2.2.1) (I2.bs.out _ PM.out.2.2.2) HZ2.out, I2.bs, I2.row, ?_, I2.ht, HB, Nat.le_trans HI.out.sz HZ2.out⟩
        intro y hy j hj hn
        rcases List.mem_append.1 hy with hy | hy
        · exact I2.no y hy j hj hn
        · rw [List.mem_singleton] at hy
          subst hy
          exact block_none (HBD.out.symm.trans H0.out) j hj hn
      · have t0 : (BAD == 0) = false := beq_eq_false_iff_ne.mpr h0
        obtain ⟨j, y, hy, hyj, hj, hn, hc, hb4⟩ := block_some (n := s.size) (q := ctq s) (k := x.val) (fun e => h0 (HBD.out.trans e))
        have SEL : Aside0 (∀ w, TabOk w → Calls Tryd.prog 66 #[.int .u64 BAD, .int .i64 0] w fun e w' => e = .returned (.int .i64 (j : Int)) ∧ Below w.heap.size w w') := ⟨fun w hw => by
          have e := words_Select.walk (fun i => decide (64 * x.val + i < s.size) && ctq s (64 * x.val + i)) 0 (Int.le_refl _) (by decide) w hw
          have e2 : selW (fun i => decide (64 * x.val + i < s.size) && ctq s (64 * x.val + i)) 0 = (j : Int) := by
            unfold selW
            rw [show (0 : Int).toNat = 0 from rfl, hy, ← hyj]
          rw [e2] at e
          rw [HBD.out]
          exact e⟩
        have HW : wrap64 (64 * ((x.val : Nat) : Int) + (j : Int)) = 64 * ((x.val : Nat) : Int) + (j : Int) := by unfold wrap64; omega
        have HX := Aside0.mk (And.intro hj (And.intro hn (And.intro hc hb4)))
        have TT := Aside0.mk I2.ht
        have P2 := I2.bs.out _ PM.out.2.1
        clear h0 hy hyj hj hn hc hb4 BX2 BG2
        gi_wp2_with (first
          | (gi_at_call 66; refine (callsIn_of HF (SEL.out _ TT.out)).mono ?_; rintro e w11 ⟨rfl, hb11⟩; have P3 := P2.below hb11; have HBn := HB.step hb11; have KS := Aside0.mk (keepsOthers_below hb11); clear HB P2 hb11; have HB := HBn; clear HBn)
          | ((with_reducible refine gate_In (Op.store 3 (.tmp 2) (.tmp 29)) rfl ?_); refine ev_store1In (i := 0) HB P3 GE_g2 rfl 3 _ _ rfl rfl _ rfl (by simp) (by kernel_rfl) rfl ?_; intro w6 B6 HB6 K_w6 KO_w6))
        rw [HW] at B6
        exact ⟨((KO2.out.trans KS.out).trans KO_w6.out).from _, rfl, ⟨x, pre, j, rfl, B6, HX.out.1, HX.out.2.1, HX.out.2.2.1, HX.out.2.2.2, I2.no⟩, HB6⟩
    exact AllReadyL.nil
  case done =>
    rintro D ys W hD rfl hI hK
    have HB := hI.hb
    have b2 := hI.bs.out _ PM.out.2.1
    have HNO := Aside0.mk (ctl_none hI.no)
    have HD := Aside0.mk hD
    have HKD := Aside0.mk hK
    clear hK hD
    gi_wp2_with (first
      | ((with_reducible refine gate_In (Op.store 3 (.tmp 2) (.const (.int .i64 (-1)))) rfl ?_); refine ev_store1In (i := 0) HB b2 GE_g2 rfl 3 _ _ rfl rfl _ rfl (by simp) (by kernel_rfl) rfl ?_; intro w20 B20 HB20 K_w20 KO_w20))
    have HK20 := KO_w20.out.same D _ HKD.out rfl
    have hg := grownBy_putObj' w20 D (.deferred none)
    have hle : w.heap.size ≤ D := Nat.le_trans HBW.le HD.out
    have hr2 : ∀ r, some D = some r → ∃ o : Obj, w20.heap[r]? = some o ∧ o.isCells = false := fun r e => by
      cases e
      exact ⟨_, HK20, rfl⟩
    refine ⟨by simp, .inl ⟨_, _, rfl, run_takeDeferred HK20, ?_⟩⟩
    refine ⟨_, results_cell1 rfl _ _ g2 3 _ _ rfl (B20.kept hg hr2) Tryd.underlying3 rfl, ?_, (HB20.kept hg hle (fun r e => by cases e; exact Nat.le_refl _)).out⟩
    rw [HNO.out]
    rfl
  case stop =>
    rintro D c pre W hD hp ⟨rfl, hX⟩ hK
    obtain ⟨x, p, j, rfl, b4, h1, h2, h3, h4, h5⟩ := hX.res
    have hg := grownBy_putObj' W D (.deferred none)
    have hle : w.heap.size ≤ D := Nat.le_trans HBW.le hD
    have hr2 : ∀ r, some D = some r → ∃ o : Obj, W.heap[r]? = some o ∧ o.isCells = false := fun r e => by
      cases e
      exact ⟨_, hK, rfl⟩
    gi_wp2
    refine ⟨by simp, .inl ⟨_, _, rfl, run_takeDeferred hK, ?_⟩⟩
    refine ⟨_, results_cell1 rfl _ _ g2 3 _ _ rfl (b4.kept hg hr2) Tryd.underlying3 rfl, ?_, (hX.hb.kept hg hle (fun r e => by cases e; exact Nat.le_refl _)).out⟩
    rw [ctl_some hp h1 h2 h3 h4 h5]
theorem quotes_Control.calls (a0 : ByteArray) (r : Int) (w : World) (hT : TabOk w) (h : quotes_Control.f a0 = some r) :
    Calls Tryd.prog 29 #[.string a0] w fun e w' => e = .returned (.int .i64 r) ∧ Below w.heap.size w w' := by
  unfold quotes_Control.f at h
  by_cases hs : a0.size ≤ 281474976702464
  case neg => rw [if_neg hs] at h; cases h
  rw [if_pos hs] at h
  simp only [Option.some.injEq] at h
  subst h
  exact quotes_Control.walk a0 w hs hT
end


/-! ### bitmap_Each_1: function 88 -/
section
open Go.Proofs.YtadcgjmhhodnoaaDoorQ Go.Proofs.YtadcgjmhhodnoaaDoorM Go.Shelf
attribute [local go_sem] Oper.semAt_some
/-- A row of words, as a variable holds it: in block g. -/
structure RowV (v : Value) (g : Nat) (l : List Int) (W : World) : Prop where mk ::
  out : (v = .slice none 0 0 ∧ l = []) ∨ ∃ cap cur, v = .slice (some ⟨g, 0, none⟩) l.length cap ∧ Blk W g cur 64 ∧ RowA cur (l.map (Value.int .u64))
theorem RowV.heap {v : Value} {g : Nat} {l : List Int} {W W' : World} (h : RowV v g l W) (e : W'.heap[g]? = W.heap[g]?) : RowV v g l W' := by
  rcases h.out with h0 | ⟨cap, cur, h1, h2, h3⟩
  · exact ⟨.inl h0⟩
  · exact ⟨.inr ⟨cap, cur, h1, ⟨e.trans h2.out⟩, h3⟩⟩
/-- The set places of a row of words. -/
def bitL (l : List Int) (p : Nat) : Bool := (l.getD (p / 64) 0).toNat.testBit (p % 64)
theorem bitL_word (l : List Int) (i : Nat) (h : ∀ x ∈ l, 0 ≤ x ∧ x < 18446744073709551616) (hi : i < l.length) : (l.map (Value.int .u64))[i]? = some (.int .u64 (iv (word fun j => bitL l (64 * i + j)))) := by
  have hg : l[i]? = some (l.getD i 0) := by rw [List.getD_eq_getElem?_getD, List.getElem?_eq_getElem hi]; rfl
  rw [List.getElem?_map, hg, Option.map_some]
  obtain ⟨h0, h1⟩ := h (l.getD i 0) (List.mem_of_getElem? hg)
  have e : word (fun j => bitL l (64 * i + j)) = word (fun j => (l.getD i 0).toNat.testBit j) := word_ext fun j hj => by
    unfold bitL
    rw [show (64 * i + j) / 64 = i by omega, show (64 * i + j) % 64 = j by omega]
  rw [e, ← iv_bits h0 h1]
/-- The places of one word among those of the row. -/
def inRow (l : List Int) (i : Nat) (hi : i < l.length) (x : SetP 64 fun j => bitL l (64 * i + j)) : SetP (64 * l.length) (bitL l) := ⟨64 * i + x.val, by have := x.2.1; omega, x.2.2⟩
theorem row_set (l : List Int) (i : Nat) (hi : i < l.length) : ∀ k, k ≤ 64 → setP (64 * l.length) (bitL l) (64 * i + k) = setP (64 * l.length) (bitL l) (64 * i) ++ (setP 64 (fun j => bitL l (64 * i + j)) k).map (inRow l i hi)
  | 0, _ => by simp [setP]
  | k + 1, hk => by
    have ih := row_set l i hi k (by omega)
    by_cases h : bitL l (64 * i + k) = true
    · rw [show 64 * i + (k + 1) = (64 * i + k) + 1 by omega, setP_at ⟨by omega, h⟩, setP_at (n := 64) (q := fun j => bitL l (64 * i + j)) ⟨by omega, h⟩, ih, List.map_append, ← List.append_assoc]
      rfl
    · rw [show 64 * i + (k + 1) = (64 * i + k) + 1 by omega, setP_skip (fun c => h c.2), setP_skip (n := 64) (q := fun j => bitL l (64 * i + j)) (fun c => h c.2), ih]
/-- Between two set bits of one word. -/
structure BEI (α : Type) (J : List Nat → List α → World → Prop) (X : List Nat) (pre0 : List α) {β : Type} (f : β → α) (g2 g5 : Nat) (l i : Nat) (v : Value) (gr : Nat) (L : List Int) (W0 : World) (Ds : List Nat) (m : Nat) (pre : List β) (W : World) : Prop where mk ::
  j : J X (pre0 ++ pre.map f) W
  b2 : Blk W g2 #[.func (.yield l) #[] #[]] 105
  b5 : Blk W g5 #[.int .i64 (i : Int)] 3
  rv : RowV v gr L W
  ht : TabOk W
  mk_ : Marks W0.heap.size Ds W
  sz : m ≤ W.heap.size
theorem RowV.kept {v : Value} {g : Nat} {l : List Int} {W W' : World} (h : RowV v g l W) {row : Option Nat} (hg : W.grownBy W' row) (hr : ∀ r, row = some r → ∃ o : Obj, W.heap[r]? = some o ∧ o.isCells = false) : RowV v g l W' := by
  rcases h.out with h0 | ⟨cap, cur, h1, h2, h3⟩
  · exact ⟨.inl h0⟩
  · exact ⟨.inr ⟨cap, cur, h1, h2.kept hg hr, h3⟩⟩
theorem RowV.below {v : Value} {g : Nat} {l : List Int} {W W' : World} (h : RowV v g l W) (hb : Below W.heap.size W W') : RowV v g l W' := by
  rcases h.out with h0 | ⟨cap, cur, h1, h2, h3⟩
  · exact ⟨.inl h0⟩
  · exact ⟨.inr ⟨cap, cur, h1, h2.below hb, h3⟩⟩
theorem BEI.kept {α : Type} {J : List Nat → List α → World → Prop} {X : List Nat} {pre0 : List α} {β : Type} {f : β → α} {g2 g5 l i : Nat} {v : Value} {gr : Nat} {L : List Int} {W0 : World} {Ds : List Nat} {m : Nat} {pre : List β} {W W' : World}
    (h : BEI α J X pre0 f g2 g5 l i v gr L W0 Ds m pre W) (hJ : OwnFrom W0.heap.size (J X)) (hm : W0.heap.size ≤ m) (hD : ∀ D ∈ Ds, D < m) {row : Option Nat} (hg : W.grownBy W' row) (hr : ∀ r, row = some r → m ≤ r ∧ ∃ o : Obj, W.heap[r]? = some o ∧ o.isCells = false) : BEI α J X pre0 f g2 g5 l i v gr L W0 Ds m pre W' := by
  have hr' : ∀ r, row = some r → ∃ o : Obj, W.heap[r]? = some o ∧ o.isCells = false := fun r e => (hr r e).2
  exact ⟨hJ _ _ _ _ h.j hg (fun r e => ⟨Nat.le_trans hm (hr r e).1, (hr r e).2⟩), h.b2.kept hg hr', h.b5.kept hg hr', h.rv.kept hg hr', h.ht.kept hg hr', h.mk_.grown hg hD (fun r e => (hr r e).1), Nat.le_trans h.sz hg.size⟩
set_option maxHeartbeats 4000000 in
set_option maxRecDepth 100000 in
theorem bitmap_Each_1.stops (F : Fence) (HF : Aside0 (F = Fence.wide)) (n : Nat) (hn : 5 ≤ n) (g3 gr : Nat) (v : Value) (L : List Int) (hL : ∀ x ∈ L, 0 ≤ x ∧ x < 18446744073709551616) (hl8 : L.length ≤ 17592186044416) (w : World)
    (B3 : Blk w g3 #[v] 36) (hRV : RowV v gr L w) (hgr : gr < w.heap.size) (hT : TabOk w) :
    SeqO F n Tryd.prog 88 #[.pointer (some ⟨g3, 0, none⟩)] (fun x : SetP (64 * L.length) (bitL L) => #[.int .i64 (x.val : Int)]) (Keep2 0 gr) (fun ys => ys = setP (64 * L.length) (bitL L) (64 * L.length)) (fun pre => pre <+: setP (64 * L.length) (bitL L) (64 * L.length)) w := by
  intro l J Jx W0 hW hJo hJxo hE hA hY h0
  have HAB := Aside0.mk hA
  clear hA
  have HY := Aside0.mk hY
  have HJ0 := Aside0.mk h0
  have HT := Aside0.mk (hT.step hW)
  have HRV := Aside0.mk (hRV.below hW)
  have HGR := Aside0.mk (Nat.lt_of_lt_of_le hgr hW.size)
  have HJO := Aside0.mk hJo
  have HJXO := Aside0.mk hJxo
  have HE := Aside0.mk hE
  have HL := Aside0.mk hL
  have HL8 := Aside0.mk hl8
  have C3 := B3.below hW
  clear hJo hJxo hE hY h0 hT hRV hgr hW hL hl8 B3
  have f0 := wide_fn HF 51
  have f2 := wide_fn HF 79
  have n1 : 1 ≤ n := by omega
  have n2 : 1 ≤ n - 1 := by omega
  have n3 : 1 ≤ n - 1 - 1 := by omega
  have hro := wide_round HF
  have HB := BelowH.refl W0
  have c3 := C3.cell (i := 0) rfl
  rcases HRV.out.out with ⟨rfl, rfl⟩ | ⟨cap, cur, rfl, _, _⟩
  · refine callsIn_of_wp_marks Tryd.func88 rfl (wide_fn HF _) ?_ hro
    simp only [Tryd.ntmps88, List.size_toArray, List.length_cons, List.length_nil, Nat.reduceAdd, Nat.reduceSub, Array.replicate_succ, Array.replicate_zero, List.push_toArray, List.append_toArray, List.nil_append, List.cons_append]
    gi_wp2_with (first
      | (((with_reducible refine gate_dstIn (N := 2) rfl ?_); refine ev_allocIn HB rfl rfl (#[.func (.yield l) #[] #[]]) 105 ?hr ?_; (case hr => first | (go_simp; done) | (go_simp; rfl)); intro g2 w2 G_g2 GE_g2 B_g2 HBn K_g2 KO_w2; clear HB; have HB := HBn; clear HBn); have c3' := (C3.below K_g2.out).cell (i := 0) rfl))
    refine wpIn_loopM (fun k a W => a = { tmps := #[.func (.yield l) #[] #[], .pointer (some ⟨g3, 0, none⟩), .pointer (some ⟨g2, 0, none⟩), undef, undef, undef, .slice none 0 0, .int .i64 0, .int .i64 0, undef, undef, undef, undef, undef, undef, undef, undef, undef, undef, undef, undef, undef, undef, undef], defers := [] } ∧ W = w2) 0 ⟨rfl, rfl⟩ ?_
    rintro k a W ⟨rfl, rfl⟩ K hK
    gi_wp2
    exact ⟨_, results_none rfl _ _ _, ⟨_, rfl⟩, .inl ⟨[], [], rfl, fun k hk => (List.not_mem_nil hk).elim, HJO.out [] [] _ _ none HJ0.out ⟨K_g2.out.os, K_g2.out.tape, K_g2.out.output, K_g2.out.size, fun k hk _ => K_g2.out.block k hk⟩ (fun r e => by cases e)⟩⟩
  refine callsIn_of_wp_marks Tryd.func88 rfl (wide_fn HF _) ?_ hro
  simp only [Tryd.ntmps88, List.size_toArray, List.length_cons, List.length_nil, Nat.reduceAdd, Nat.reduceSub, Array.replicate_succ, Array.replicate_zero, List.push_toArray, List.append_toArray, List.nil_append, List.cons_append]
  gi_wp2_with (first
    | (((with_reducible refine gate_dstIn (N := 2) rfl ?_); refine ev_allocIn HB rfl rfl (#[.func (.yield l) #[] #[]]) 105 ?hr ?_; (case hr => first | (go_simp; done) | (go_simp; rfl)); intro g2 w2 G_g2 GE_g2 B_g2 HBn K_g2 KO_w2; clear HB; have HB := HBn; clear HBn); have c3' := (C3.below K_g2.out).cell (i := 0) rfl))
  have HJ2 := Aside0.mk (HJO.out [g2] [] _ _ none (HE.out [] [] W0 g2 HJ0.out G_g2.out) ⟨K_g2.out.os, K_g2.out.tape, K_g2.out.output, K_g2.out.size, fun k hk _ => K_g2.out.block k hk⟩ (fun r e => by cases e))
  have HX2 : Aside0 (∀ k ∈ [g2], W0.heap.size ≤ k ∧ k < w2.heap.size) := ⟨fun k hk => by rw [List.mem_singleton.1 hk]; exact ⟨G_g2.out, B_g2.lt⟩⟩
  have HRV2 := Aside0.mk (HRV.out.below K_g2.out)
  have HT2 := Aside0.mk (HT.out.step K_g2.out)
  have HZ2 := Aside0.mk K_g2.out.size
  refine wpIn_loopM (fun m a W => ∃ (i : Nat) (X Ds : List Nat) (z8 : Int) (u3 u4 u5 u9 u10 u11 u12 u13 u14 u15 u16 u17 u18 u19 u20 u21 u22 u23 : Value), m = L.length - i ∧ z8 = (i : Int) ∧ i ≤ L.length ∧ a = { tmps := #[.func (.yield l) #[] #[], .pointer (some ⟨g3, 0, none⟩), .pointer (some ⟨g2, 0, none⟩), u3, u4, u5, .slice (some ⟨gr, 0, none⟩) L.length cap, .int .i64 (L.length : Int), .int .i64 z8, u9, u10, u11, u12, u13, u14, u15, u16, u17, u18, u19, u20, u21, u22, u23], defers := marksD Ds } ∧
    Aside0 (J X (setP (64 * L.length) (bitL L) (64 * i)) W) ∧ Aside0 (g2 ∈ X ∧ ∀ k ∈ X, W0.heap.size ≤ k ∧ k < W.heap.size) ∧ Aside0 (Blk W g2 #[.func (.yield l) #[] #[]] 105) ∧ Aside0 (RowV (.slice (some ⟨gr, 0, none⟩) L.length cap) gr L W) ∧ Aside0 (TabOk W) ∧ Aside0 (Marks W0.heap.size Ds W) ∧ Aside0 (W0.heap.size ≤ W.heap.size)) L.length
    ⟨0, [g2], [], 0, _, _, _, _, _, _, _, _, _, _, _, _, _, _, _, _, _, _, rfl, rfl, Nat.zero_le _, rfl, HJ2, ⟨List.mem_singleton.2 rfl, HX2.out⟩, ⟨B_g2⟩, HRV2, HT2, ⟨Marks.nil⟩, HZ2⟩ ?_
  rintro m a W ⟨i, X, Ds, z8, u3, u4, u5, u9, u10, u11, u12, u13, u14, u15, u16, u17, u18, u19, u20, u21, u22, u23, rfl, hz8, hi, rfl, HJ, HX, B2, HRV, HT, HM, HZ⟩ K hK
  have HKK := Aside0.mk hK
  clear hK HJ0 HJ2 HX2 HRV2 HT2 HZ2 B_g2 C3 c3 c3' HB K_g2 KO_w2 G_g2 GE_g2
  by_cases hlt : i < L.length
  · have HLT := Aside0.mk hlt
    rcases HRV.out.out with ⟨h0, _⟩ | ⟨cap', cur', he, BG, HA⟩
    · cases h0
    have cw := BG.cell (HA.get (bitL_word L i HL.out hlt))
    obtain ⟨x, hx⟩ : ∃ x, x = iv (word fun j => bitL L (64 * i + j)) := ⟨_, rfl⟩
    rw [← hx] at cw
    have HX0 := Aside0.mk hx
    have hq1 : (i : Int) < (L.length : Int) := by omega
    have hq2 : (0 : Int) ≤ (i : Int) := by omega
    subst hz8
    have HB := BelowH.refl W
    clear hx hlt BG HA he hi
    gi_wp2_with (first
      | ((with_reducible refine gate_dstIn (N := 3) rfl ?_); refine ev_allocIn HB rfl rfl (#[.int .i64 0]) 3 ?hr ?_; (case hr => first | (go_simp; done) | (go_simp; rfl)); intro g5 w5 G_g5 GE_g5 B_g5 HBn K_g5 KO_w5; clear HB; have HB := HBn; clear HBn)
      | ((with_reducible refine gate_In (Op.store 3 (.tmp 3) (.tmp 10)) rfl ?_); refine ev_store1In (i := 0) HB B_g5 GE_g5 rfl 3 _ _ rfl rfl (.int .i64 (i : Int)) rfl (by simp) (by kernel_rfl) rfl ?_; intro w6 B6 HBn K_w6 KO_w6; clear HB; have HB := HBn; clear HBn)
      | (gi_at_call 51; refine (callsIn_of HF (words_Each.calls x _)).mono ?_; rintro e w7 ⟨g1, rfl, GE1, B1, HB7⟩))
    have HBW := HB.step HB7.out
    have B5 := B6.below HB7.out
    have E2 := B2.out.below HBW.out
    have RV7 := HRV.out.below HBW.out
    have HT7 := Aside0.mk (HT.out.step HBW.out)
    have HM7 := HM.out.below HBW.out
    have hD7 : ∀ D ∈ Ds, D < w7.heap.size := fun D hD => HM7.lt hD
    have hm7 : W0.heap.size ≤ w7.heap.size := Nat.le_trans HZ.out HBW.le
    have G15 : W.heap.size ≤ g1 := by have := HB.le; omega
    have HJ7 := HJO.out (g1 :: g5 :: X) _ _ _ none (HE.out _ _ _ g1 (HE.out _ _ _ g5 HJ.out G_g5.out) G15) ⟨HBW.out.os, HBW.out.tape, HBW.out.output, HBW.out.size, fun k hk _ => HBW.out.block k hk⟩ (fun r e => by cases e)
    have HXX : Aside0 (∀ k ∈ g1 :: g5 :: X, W0.heap.size ≤ k ∧ k < w7.heap.size) := ⟨fun k hk => by
      have z1 := HZ.out
      have z2 := HBW.le
      have z3 := B1.lt
      have z4 := B5.lt
      have z5 := G_g5.out
      rcases List.mem_cons.1 hk with rfl | hk
      · omega
      · rcases List.mem_cons.1 hk with rfl | hk
        · omega
        · have := HX.out.2 k hk
          omega⟩
    rw [HX0.out] at B1
    have P0 := HT7.out.pos
    have L1 := B1.lt
    have HP := Aside0.mk (And.intro hD7 hm7)
    have HG2 := Aside0.mk HX.out.1
    clear HB HB7 B6 B_g5 K_g5 K_w6 KO_w5 KO_w6 G_g5 GE_g5 GE1 G15 hD7 hm7 HX B2 HRV HT HM HJ cw
    refine wpIn_rangeFunc_O hro n1 (gf := 79) (lb := #[.pointer (some ⟨g1, 0, none⟩)]) rfl f2 (enters_of Tryd.func79 (by kernel_rfl) rfl)
      (words_Each_1.stopsO F HF (n - 1) (by omega) g1 (fun j => bitL L (64 * i + j)) w7 B1 HT7.out) Keep2.trans (fun W l o o' hl ho hc hw => Keep2.putObj P0 P0 W l o o' hl ho hc hw) (Below.refl _ _) (fun _ => rfl)
      (fun X' => BEI _ J (X' ++ g1 :: g5 :: X) (setP (64 * L.length) (bitL L) (64 * i)) (inRow L i HLT.out) g2 g5 l i (.slice (some ⟨gr, 0, none⟩) L.length cap) gr L W0 Ds w7.heap.size)
      (fun c pre W => c = .ret ∧ Jx (setP (64 * L.length) (bitL L) (64 * i) ++ pre.map (inRow L i HLT.out)) W ∧ Marks W0.heap.size Ds W)
      (fun _ pre A B row hs hg hr => hs.kept (HJO.out _) HP.out.2 HP.out.1 hg hr)
      (fun c pre A B row hs hg hr => ⟨hs.1, HJXO.out _ _ _ _ hs.2.1 hg (fun r e => ⟨Nat.le_trans HP.out.2 (hr r e).1, (hr r e).2⟩), hs.2.2.grown hg HP.out.1 (fun r e => (hr r e).1)⟩)
      (fun X' pre A k h hk => ⟨HE.out _ _ _ k h.j hk, h.b2, h.b5, h.rv, h.ht, h.mk_, h.sz⟩)
      (fun X' pre A C hX' h ht => by
        have z1 := HP.out.2
        have z2 := h.sz
        have hXA : ∀ k ∈ X' ++ g1 :: g5 :: X, W0.heap.size ≤ k := fun k hk => by
          rcases List.mem_append.1 hk with hk | hk
          · have := hX' k hk
            omega
          · exact (HXX.out k hk).1
        have n2 : g2 ∉ X' := not_mem_above hX' (HXX.out g2 (List.mem_cons_of_mem _ (List.mem_cons_of_mem _ HG2.out))).2
        have n5 : g5 ∉ X' := not_mem_above hX' (HXX.out g5 (List.mem_cons_of_mem _ (List.mem_cons_self ..))).2
        have nr : gr ∉ X' := not_mem_above hX' (by have := HGR.out; omega)
        have n0 : 0 ∉ X' := not_mem_above hX' (by have := HT7.out.pos; omega)
        exact ⟨HAB.out _ _ _ _ hXA h.j (ht.mono fun k hk => List.mem_append_left _ hk), h.b2.turned ht n2, h.b5.turned ht n5, h.rv.heap (ht.block gr (by have := HGR.out; omega) nr), h.ht.heap (ht.block 0 h.ht.pos n0), h.mk_.same (fun D hD => ht.block D (h.mk_.lt hD) (not_mem_above hX' (HP.out.1 D hD))), Nat.le_trans h.sz ht.size⟩)
      ⟨by rw [List.map_nil, List.append_nil]; exact HJ7, E2, B5, RV7, HT7.out, HM7, Nat.le_refl _⟩
      (fun y a' W => a' = { tmps := #[.func (.yield l) #[] #[], .pointer (some ⟨g3, 0, none⟩), .pointer (some ⟨g2, 0, none⟩), .pointer (some ⟨g5, 0, none⟩), .int .u64 x, .int .i64 ((y.val : Nat) : Int), .slice (some ⟨gr, 0, none⟩) L.length cap, .int .i64 (L.length : Int), .int .i64 (i : Int), .bool true, .int .i64 (i : Int), .pointer (some ⟨gr, i, none⟩), .int .u64 x, .int .u64 x, .func (.func 79) #[] #[.pointer (some ⟨g1, 0, none⟩)], .int .i64 ((y.val : Nat) : Int), u16, u17, u18, u19, u20, u21, u22, u23], defers := [] })
      (fun x a' pre A B row hs hg hr => hs)
      ?assign ?body ?done ?stop
    case assign =>
      intro X' l' pre y W K' hX' hI hsp hK'
      dsimp only
      gi_wp2
      exact hK' _ _ ((KeepsOthers.refl _).from _) (fun _ _ => rfl) ⟨rfl, rfl, Nat.le_refl _⟩ hI rfl
    case body =>
      rintro X' l' pre y a' W' hX' hl ⟨r, hr⟩ hI rfl hsp
      clear hr
      have hpx : (setP (64 * L.length) (bitL L) (64 * i) ++ pre.map (inRow L i HLT.out)) ++ [inRow L i HLT.out y] <+: setP (64 * L.length) (bitL L) (64 * L.length) := by
        have h1 := row_set L i HLT.out 64 (Nat.le_refl _)
        refine List.IsPrefix.trans ?_ (setP_le (i := 64 * i + 64) (by have := HLT.out; omega))
        rw [h1, List.append_assoc]
        refine (List.prefix_append_right_inj _).2 ?_
        have h2 := hsp.map (inRow L i HLT.out)
        rwa [List.map_append] at h2
      have hXi : ∀ k ∈ X' ++ g1 :: g5 :: X, W0.heap.size ≤ k ∧ k < W'.heap.size := fun k hk => by
        rcases List.mem_append.1 hk with hk | hk
        · have := hX' k hk
          have := HP.out.2
          omega
        · have := HXX.out k hk
          have := hI.sz
          omega
      obtain ⟨fn, tmps, assign, body, hy, hR⟩ := HY.out (X' ++ g1 :: g5 :: X) _ (inRow L i HLT.out y) W' hXi hI.j hpx
      have e64 : (((inRow L i HLT.out y).val : Nat) : Int) = 64 * (i : Int) + ((y.val : Nat) : Int) := by
        show ((64 * i + y.val : Nat) : Int) = _
        omega
      rw [e64] at hy
      have HR := Aside0.mk hR
      have c2 := hI.b2.cell (i := 0) rfl
      have c5 := hI.b5.cell (i := 0) rfl
      have hb1 : (i : Int) ≤ 17592186044416 := by have := HL8.out; have := HLT.out; omega
      have hb2 : ((y.val : Nat) : Int) < 64 := by have := y.2.1; omega
      have hw1 : wrap64 (64 * (i : Int)) = 64 * (i : Int) := by unfold wrap64; omega
      have hw2 : wrap64 (64 * (i : Int) + ((y.val : Nat) : Int)) = 64 * (i : Int) + ((y.val : Nat) : Int) := by unfold wrap64; omega
      clear hR e64 hpx hXi hsp
      gi_wp2
      refine (roundIn_wide HF HR.out).mono ?_
      rintro e W2 ⟨hkf, hx, (⟨rfl, hJ2, hk2⟩ | ⟨rfl, hJx2⟩)⟩
      · have R5 := hx g5 (List.mem_append_right _ (List.mem_cons_of_mem _ (List.mem_cons_self ..)))
        have R2 := hx g2 (List.mem_append_right _ (List.mem_cons_of_mem _ (List.mem_cons_of_mem _ HG2.out)))
        have HJ2 := Aside0.mk hJ2
        clear hJ2
        gi_wp2
        refine ⟨KeepsFrom.up hkf HP.out.2, fun k hk => hx k (List.mem_append_left _ hk), ⟨hk2.1, hk2.1, hkf.size⟩, ?_, ⟨R2.trans hI.b2.out⟩, ⟨R5.trans hI.b5.out⟩, hI.rv.heap hk2.2.1, hI.ht.keep hk2, hI.mk_.keeps hkf (Nat.le_refl _), Nat.le_trans hI.sz hkf.size⟩
        rw [List.map_append, ← List.append_assoc]
        exact HJ2.out
      · have HJ2 := Aside0.mk hJx2
        clear hJx2
        gi_wp2
        refine ⟨KeepsFrom.up hkf HP.out.2, fun k hk => hx k (List.mem_append_left _ hk), rfl, ?_, hI.mk_.keeps hkf (Nat.le_refl _)⟩
        rw [List.map_append, ← List.append_assoc]
        exact HJ2.out
    case done =>
      rintro D X' ys W' hD hX' rfl hI hK'
      have HXD := Aside0.mk hX'
      clear hX'
      have HDn : D ∉ Ds := fun c => by have := HP.out.1 D c; omega
      have HM' := Aside0.mk (hI.mk_.cons (Nat.le_trans HP.out.2 hD) hK' HDn)
      have hI' := Aside0.mk hI
      have hb1 : (i : Int) ≤ 17592186044416 := by have := HL8.out; have := HLT.out; omega
      have hw1 : wrap64 ((i : Int) + 1) = (i : Int) + 1 := by unfold wrap64; omega
      have HD' := Aside0.mk (Nat.le_trans HP.out.2 hI.sz)
      clear hI hK' hD HDn
      gi_wp2
      refine HKK.out (L.length - (i + 1)) _ _ (by have := HLT.out; omega) ⟨i + 1, X' ++ g1 :: g5 :: X, D :: Ds, _, _, _, _, _, _, _, _, _, _, _, _, _, _, _, _, _, _, _, rfl, by omega, by have := HLT.out; omega, rfl, ?_, ⟨List.mem_append_right _ (List.mem_cons_of_mem _ (List.mem_cons_of_mem _ HG2.out)), fun k hk => by
        rcases List.mem_append.1 hk with hk | hk
        · have := HXD.out k hk
          have := HP.out.2
          omega
        · have := HXX.out k hk
          have := hI'.out.sz
          omega⟩, ⟨hI'.out.b2⟩, ⟨hI'.out.rv⟩, ⟨hI'.out.ht⟩, HM', HD'⟩
      refine ⟨?_⟩
      rw [show 64 * (i + 1) = 64 * i + 64 by omega, row_set L i HLT.out 64 (Nat.le_refl _)]
      exact hI'.out.j
    case stop =>
      rintro D c pre W' hD hp ⟨rfl, hJ2, hM2⟩ hK'
      have HDn : D ∉ Ds := fun c => by have := HP.out.1 D c; omega
      have HM' := Aside0.mk (hM2.cons (Nat.le_trans HP.out.2 hD) hK' HDn)
      have HJ2 := Aside0.mk hJ2
      have HPR := Aside0.mk hp
      clear hJ2 hM2 hK' hD HDn hp
      gi_wp2
      refine leaves_marksS (S := fun A => Jx (setP (64 * L.length) (bitL L) (64 * i) ++ pre.map (inRow L i HLT.out)) A) (fun A D' hs h1 h2 => HJXO.out.putObj _ hs h1 h2 rfl) (D :: Ds) W' HJ2.out HM'.out fun A hA => ⟨_, results_none rfl _ _ _, ⟨_, rfl⟩, .inr ⟨_, ?_, hA⟩⟩
      have h1 := row_set L i HLT.out 64 (Nat.le_refl _)
      refine List.IsPrefix.trans ?_ (setP_le (i := 64 * i + 64) (by have := HLT.out; omega))
      rw [h1]
      exact (List.prefix_append_right_inj _).2 (HPR.out.map _)
  · have EI : i = L.length := by omega
    subst hz8
    have hq1 : decide (i < L.length) = false := decide_eq_false (by omega)
    have HI := Aside0.mk EI
    clear EI hlt hi
    gi_wp2
    refine leaves_marksS (S := fun A => J X (setP (64 * L.length) (bitL L) (64 * i)) A ∧ W.heap.size ≤ A.heap.size) (fun A D' hs h1 h2 => ⟨(HJO.out X).putObj _ hs.1 h1 h2 rfl, by simpa using hs.2⟩) Ds W ⟨HJ.out, Nat.le_refl _⟩ HM.out fun A hA => ⟨_, results_none rfl _ _ _, ⟨_, rfl⟩, .inl ⟨_, X, ?_, ?_, hA.1⟩⟩
    · rw [HI.out]
    · intro k hk
      have := HX.out.2 k hk
      have := hA.2
      omega
end


/-! ### bitmap_Each: function 68 -/
section
open Go.Proofs.YtadcgjmhhodnoaaDoorQ Go.Proofs.YtadcgjmhhodnoaaDoorM
/-- What bitmap.Each leaves: a copy of the words, in a variable. -/
structure BEachO (w w' : World) (g3 : Nat) (l : List Int) : Prop where mk ::
  out : ∃ (gr : Nat) (v : Value), w.heap.size ≤ g3 ∧ w.heap.size ≤ gr ∧ gr < w'.heap.size ∧ Blk w' g3 #[v] 36 ∧ RowV v gr l w'
  hb : BelowH w w'
set_option maxHeartbeats 4000000 in
set_option maxRecDepth 100000 in
theorem bitmap_Each.calls (n : Int) (A : Option Addr) (cap : Nat) (l : List Int) (t : Bool) (w : World) (hr : Kd.C (Kd.int .u64) w A l.length l) (hc : l.length ≤ cap) (hb8 : l.length * 8 ≤ 140737488355328) (hF : bitmap_Formed.f n l = some t) :
    Calls Tryd.prog 68 #[.agg #[.int .i64 n, .slice A l.length cap]] w fun e w' => ∃ g3 : Nat, e = .returned (.func (.func 88) #[] #[.pointer (some ⟨g3, 0, none⟩)]) ∧ BEachO w w' g3 (if t then l else []) := by
  have HB := BelowH.refl w
  have HR := Aside0.mk hr
  have HC := Aside0.mk hc
  have HF := Aside0.mk hF
  have H8 := Aside0.mk hb8
  clear hr hc hF hb8
  cases t with
  | false =>
    go_enter Tryd.func68, Tryd.ntmps68
    go_wp2_with (first
      | ((with_reducible refine gate_dst (N := 1) rfl ?_); refine ev_alloc HB rfl (#[.int .i64 n, .slice A l.length cap]) 38 ?hr ?_; (case hr => first | (go_simp; done) | (go_simp; rfl)); intro g1 w1 G_g1 GE_g1 B_g1 HBn K_g1; clear HB; have HB := HBn; clear HBn)
      | ((with_reducible refine gate_dst (N := 3) rfl ?_); refine ev_alloc HB rfl (#[.slice none 0 0]) 36 ?hr ?_; (case hr => first | (go_simp; done) | (go_simp; rfl)); intro g3 w3 G_g3 GE_g3 B_g3 HBn K_g3; clear HB; have HB := HBn; clear HBn)
      | ((with_reducible refine gate_dst (N := 4) rfl ?_); refine ev_loadS (B_g1.below K_g3.out) rfl 38 _ rfl rfl Tryd.underlying38 rfl (by kernel_rfl) ?_)
      | (go_at_call 70; refine (bitmap_Formed.calls n A cap l false _ (Kd.C_below HR.out HB.out) HC.out HF.out).mono ?_; rintro e w4 ⟨rfl, hb4⟩; have HK4 := Aside0.mk hb4; have HB4 := HB.step hb4; clear hb4))
    go_ret
    exact ⟨g3, rfl, ⟨g3, _, GE_g3.out, GE_g3.out, (B_g3.below HK4.out).lt, B_g3.below HK4.out, ⟨.inl ⟨rfl, rfl⟩⟩⟩, HB4⟩
  | true =>
    go_enter Tryd.func68, Tryd.ntmps68
    go_upto_region 3 with (first
      | ((with_reducible refine gate_dst (N := 1) rfl ?_); refine ev_alloc HB rfl (#[.int .i64 n, .slice A l.length cap]) 38 ?hr ?_; (case hr => first | (go_simp; done) | (go_simp; rfl)); intro g1 w1 G_g1 GE_g1 B_g1 HBn K_g1; clear HB; have HB := HBn; clear HBn)
      | ((with_reducible refine gate_dst (N := 3) rfl ?_); refine ev_alloc HB rfl (#[.slice none 0 0]) 36 ?hr ?_; (case hr => first | (go_simp; done) | (go_simp; rfl)); intro g3 w3 G_g3 GE_g3 B_g3 HBn K_g3; clear HB; have HB := HBn; clear HBn)
      | ((with_reducible refine gate_dst (N := 4) rfl ?_); refine ev_loadS (B_g1.below K_g3.out) rfl 38 _ rfl rfl Tryd.underlying38 rfl (by kernel_rfl) ?_)
      | (go_at_call 70; refine (bitmap_Formed.calls n A cap l true _ (Kd.C_below HR.out HB.out) HC.out HF.out).mono ?_; rintro e w4 ⟨rfl, hb4⟩; have HK4 := Aside0.mk hb4; have HB4 := HB.step hb4; clear hb4))
    have D1 := (B_g1.below K_g3.out).below HK4.out
    have D3 := B_g3.below HK4.out
    have c11 := D1.cell (i := 1) rfl
    have c3 := D3.cell (i := 0) rfl
    go_wp2_with (first
      | ((with_reducible refine gate_dst (N := 9) rfl ?_); refine print_append_row_of (w0 := w) (Value.int .u64) (0 : Int) w.heap.size rfl _ _ 36 64 (.int .u64 0) 8 rfl Tryd.underlying36 (by kernel_rfl) rfl (by decide) (fun _ => rfl) (.slice none 0 0) [] l A l.length cap rfl rfl (World.ownsRow_nil _ _ _ _) (Kd.reads_of_C (d := (0 : Int)) (Kd.C_below HR.out HB4.out)) HB4.out HB4.le (by simpa using H8.out) ?_; intro v5 w5 hrow5 hb5 hg5 hat5; have HROW := Aside0.mk hrow5; have HB5 : BelowH w w5 := ⟨hb5⟩; have HG5 := Aside0.mk hg5; have d3 : Blk w5 g3 #[.slice none 0 0] 36 := ⟨(hg5.block _ D3.lt (fun e => by simp [Value.ownBlock] at e)).trans D3.out⟩; clear hrow5 hb5 hg5 hat5)
      | ((with_reducible refine gate_ (Op.store 36 (.tmp 3) (.tmp 9)) rfl ?_); refine ev_store1 (i := 0) HB5 d3 GE_g3 rfl 36 _ _ rfl rfl v5 rfl (by simp) (by kernel_rfl) (row_one HROW.out) ?_; intro w6 B6 HB6 K_w6))
    go_ret
    obtain ⟨hl, hv⟩ := row_open HROW.out
    rcases hv with ⟨rfl, h0⟩ | ⟨g, cap', cur, rfl, hbg, BG, h1, h2, h3, HA⟩
    · refine ⟨g3, rfl, ⟨g3, _, GE_g3.out, GE_g3.out, B6.lt, B6, ⟨.inl ⟨rfl, ?_⟩⟩⟩, HB6⟩
      simpa using h0
    · have hne : g ≠ g3 := BG.ne d3 (by decide)
      have BG6 := BG.other K_w6 hne
      refine ⟨g3, rfl, ⟨g, _, GE_g3.out, hbg, BG6.lt, B6, ⟨.inr ⟨cap', cur, ?_, BG6, ?_⟩⟩⟩, HB6⟩
      · simp
      · simpa [encs] using HA
end


/-! ### quotes_Texts_1: function 67 -/
section
open Go.Proofs.YtadcgjmhhodnoaaDoorQ Go.Proofs.YtadcgjmhhodnoaaDoorM Go.Shelf
attribute [local go_sem] Oper.semAt_some
namespace TxF
theorem size_eq (n : Nat) (h : n ≤ 281474976710656) : bitmap_size.f (n : Int) = some ((nwords n : Nat) : Int) := by
  unfold bitmap_size.f
  have e1 : Int.tmod (n : Int) 64 = ((n % 64 : Nat) : Int) := rfl
  have e2 : Int.tdiv (n : Int) 64 = ((n / 64 : Nat) : Int) := rfl
  have e3 : wrap64 ((n / 64 : Nat) : Int) = ((n / 64 : Nat) : Int) := by unfold wrap64; omega
  rw [e1, e2, e3]
  have e4 : wrap64 (((n / 64 : Nat) : Int) + 1) = ((n / 64 : Nat) : Int) + 1 := by unfold wrap64; omega
  rw [e4]
  unfold nwords
  by_cases h : n % 64 = 0
  · rw [if_pos (by omega)]; congr 1; omega
  · rw [if_neg (by omega)]; congr 1; omega
/-- The bits that the last word of a row may have. -/
def tailW (n : Nat) : BitVec 64 := if n % 64 = 0 then 18446744073709551615#64 else BitVec.ofNat 64 (2 ^ (n % 64) - 1)
theorem shl_one (m : Nat) (h : m < 64) : shl .u64 1 (m : Int) = ((2 ^ m : Nat) : Int) := by
  have : ∀ m : Fin 64, shl .u64 1 ((m.val : Nat) : Int) = ((2 ^ m.val : Nat) : Int) := by decide
  exact this ⟨m, h⟩
theorem tail_eq (n : Nat) : bitmap_tail.f (n : Int) = some (iv (tailW n)) := by
  unfold bitmap_tail.f tailW
  have e1 : Int.tmod (n : Int) 64 = ((n % 64 : Nat) : Int) := rfl
  rw [e1]
  by_cases h : n % 64 = 0
  · rw [if_pos (by omega), if_pos h]; rfl
  · rw [if_neg (by omega), if_neg h, if_pos (by omega), shl_one _ (by omega)]
    have hp : 0 < 2 ^ (n % 64) := Nat.pow_pos (by decide)
    have hq : 2 ^ (n % 64) < 2 ^ 64 := Nat.pow_lt_pow_right (by decide) (by omega)
    have : ((2 ^ (n % 64) : Nat) : Int) - 1 = ((2 ^ (n % 64) - 1 : Nat) : Int) := by omega
    rw [this, wrap_nat]
    unfold iv
    rw [BitVec.toNat_ofNat]
theorem rd_words (n : Nat) (p : Nat → Bool) (k : Nat) (h : k < nwords n) : rd (wordsOf n p) (k : Int) = iv (wordAt n p k) := by
  unfold rd
  rw [Int.toNat_natCast]
  exact wordsOf_get n p k h
/-- What is told of a row of bits is well formed. -/
theorem formed_eq (n : Nat) (p : Nat → Bool) (h : n ≤ 281474976710656) : bitmap_Formed.f (n : Int) (wordsOf n p) = some true := by
  unfold bitmap_Formed.f
  rw [if_neg (by omega), size_eq n h, Option.bind_some, wordsOf_length, if_pos rfl]
  by_cases h0 : n = 0
  · rw [if_pos (by omega)]
  · have hw : 0 < nwords n := by unfold nwords; omega
    have hb : nwords n ≤ 281474976710656 := by unfold nwords; omega
    have e : wrap64 (((nwords n : Nat) : Int) - 1) = ((nwords n - 1 : Nat) : Int) := by unfold wrap64; omega
    rw [if_neg (by omega), e, if_pos (by omega), if_pos (by omega), tail_eq, Option.bind_some, rd_words n p _ (by omega), bits_andNot]
    have hz : wordAt n p (nwords n - 1) &&& ~~~tailW n = 0#64 := by
      refine BitVec.eq_of_getLsbD_eq fun i hi => ?_
      rw [BitVec.getLsbD_and, BitVec.getLsbD_not]
      unfold wordAt
      rw [word_bit]
      unfold tailW
      have hn : nwords n = (n + 63) / 64 := rfl
      by_cases g : n % 64 = 0
      · rw [if_pos g]
        have : (18446744073709551615#64).getLsbD i = true := by
          have : ∀ i : Fin 64, (18446744073709551615#64).getLsbD i.val = true := by decide
          exact this ⟨i, hi⟩
        rw [this]; simp
      · rw [if_neg g, BitVec.getLsbD_ofNat, Nat.testBit_two_pow_sub_one]
        by_cases g2 : i < n % 64
        · simp [g2, hi]
        · have : ¬ (64 * (nwords n - 1) + i < n) := by omega
          simp [this]
    rw [hz]
    rfl
end TxF
/-- Between two marks. -/
structure TxI (J : List Nat → List (Nat × Nat) → World → Prop) (X : List Nat) (gy gf g1 : Nat) (l : Nat) (s : ByteArray) {n : Nat} {q : Nat → Bool} (m : Nat) (pre : List (SetP n q)) (W : World) : Prop where mk ::
  j : J X (foldT (pre.map (·.val))).1 W
  by_ : Blk W gy #[.func (.yield l) #[] #[]] 72
  bf : Blk W gf #[.int .i64 (fromI (foldT (pre.map (·.val))).2)] 3
  bs : Blk W g1 #[.string s] 9
  ht : TabOk W
  sz : m ≤ W.heap.size
theorem TxI.kept {J : List Nat → List (Nat × Nat) → World → Prop} {X : List Nat} {gy gf g1 : Nat} {l : Nat} {s : ByteArray} {n : Nat} {q : Nat → Bool} {m : Nat} {pre : List (SetP n q)} {W W' : World}
    (h : TxI J X gy gf g1 l s m pre W) {b : Nat} (hJ : OwnFrom b (J X)) (hm : b ≤ m) {row : Option Nat} (hg : W.grownBy W' row) (hr : ∀ r, row = some r → m ≤ r ∧ ∃ o : Obj, W.heap[r]? = some o ∧ o.isCells = false) : TxI J X gy gf g1 l s m pre W' := by
  have hr' : ∀ r, row = some r → ∃ o : Obj, W.heap[r]? = some o ∧ o.isCells = false := fun r e => (hr r e).2
  exact ⟨hJ _ _ _ _ h.j hg (fun r e => ⟨Nat.le_trans hm (hr r e).1, (hr r e).2⟩), h.by_.kept hg hr', h.bf.kept hg hr', h.bs.kept hg hr', h.ht.kept hg hr', Nat.le_trans h.sz hg.size⟩
theorem marks_set (s : ByteArray) : (setP (64 * (wordsOf s.size (mkq s)).length) (bitL (wordsOf s.size (mkq s))) (64 * (wordsOf s.size (mkq s)).length)).map (·.val) = marksP s := by
  rw [setP_val, wordsOf_length]
  have e : (List.range (64 * nwords s.size)).filter (fun k => decide (k < 64 * nwords s.size) && bitL (wordsOf s.size (mkq s)) k) = (List.range (64 * nwords s.size)).filter (fun k => decide (k < s.size) && mkq s k) := List.filter_congr fun j hj => by
    have hj' := List.mem_range.1 hj
    rw [decide_eq_true hj', Bool.true_and]
    exact wordsOf_bit s.size (mkq s) j hj'
  rw [e]
  exact range_filter_le _ _ _ (by unfold nwords; omega)
/-- The encoding of a span. -/
def spanEnc (x : Nat × Nat) : Array Value := #[.agg #[.int .i64 (x.1 : Int), .int .i64 (x.2 : Int)]]
set_option maxHeartbeats 4000000 in
set_option maxRecDepth 100000 in
theorem quotes_Texts_1.stops (F : Fence) (HF : Aside0 (F = Fence.wide)) (n : Nat) (hn : 7 ≤ n) (g3 g1 : Nat) (s : ByteArray) (hs : s.size ≤ 1099511627776) (A : Option Addr) (cap : Nat) (w : World)
    (B3 : Blk w g3 #[.int .i64 s.size, .slice A (wordsOf s.size (mkq s)).length cap] 38) (hC : Kd.C (Kd.int .u64) w A (wordsOf s.size (mkq s)).length (wordsOf s.size (mkq s))) (hcap : (wordsOf s.size (mkq s)).length ≤ cap) (B1 : Blk w g1 #[.string s] 9) (hT : TabOk w) :
    SeqO F n Tryd.prog 67 #[.pointer (some ⟨g3, 0, none⟩), .pointer (some ⟨g1, 0, none⟩)] spanEnc (Keep2 0 g1) (fun ys => ys = textsL s) (fun pre => pre <+: textsL s) w := by
  intro l J Jx W0 hW hJo hJxo hE hAb hY h0
  obtain ⟨R0, hR0⟩ : ∃ R0 : Ending → World → Prop, R0 = fun e W' => (∃ v, e = .returned v) ∧ ((∃ xs X, xs = textsL s ∧ (∀ k ∈ X, W0.heap.size ≤ k ∧ k < W'.heap.size) ∧ J X xs W') ∨ (∃ pre, pre <+: textsL s ∧ Jx pre W')) := ⟨_, rfl⟩
  rw [← hR0]
  have HR0 := Aside0.mk hR0
  clear hR0
  have HAB := Aside0.mk hAb
  clear hAb
  have HY := Aside0.mk hY
  have HJ0 := Aside0.mk h0
  have HT := Aside0.mk (hT.step hW)
  have HJO := Aside0.mk hJo
  have HJXO := Aside0.mk hJxo
  have HE := Aside0.mk hE
  have HS := Aside0.mk hs
  obtain ⟨L, hL⟩ : ∃ L, L = wordsOf s.size (mkq s) := ⟨_, rfl⟩
  rw [← hL] at B3 hC hcap
  have HLL := Aside0.mk hL
  have C3 := B3.below hW
  have D1 := B1.below hW
  have HC := Aside0.mk (Kd.C_below hC hW)
  have HCP := Aside0.mk hcap
  have HLN : Aside0 (L.length = nwords s.size) := ⟨by rw [hL, wordsOf_length]⟩
  have HL8 : Aside0 (L.length ≤ 17592186044416) := ⟨by rw [HLN.out]; unfold nwords; omega⟩
  have HRG : Aside0 (∀ x ∈ L, 0 ≤ x ∧ x < 18446744073709551616) := ⟨fun x hx => by
    rw [hL] at hx
    unfold wordsOf at hx
    obtain ⟨k, _, rfl⟩ := List.mem_map.1 hx
    exact ⟨iv_nonneg _, iv_lt _⟩⟩
  have HFM : Aside0 (bitmap_Formed.f (s.size : Int) L = some true) := ⟨by rw [hL]; exact TxF.formed_eq s.size (mkq s) (by omega)⟩
  have HMS : Aside0 ((setP (64 * L.length) (bitL L) (64 * L.length)).map (·.val) = marksP s) := ⟨by rw [hL]; exact marks_set s⟩
  clear hJo hJxo hE hY h0 hT hW hs hL B3 B1 hC hcap
  have f0 := wide_fn HF 68
  have f2 := wide_fn HF 88
  have n1 : 1 ≤ n := by omega
  have n2 : 1 ≤ n - 1 := by omega
  have n3 : 1 ≤ n - 1 - 1 := by omega
  have hro := wide_round HF
  have HB := BelowH.refl W0
  have c30 := C3.cell (i := 0) rfl
  refine callsIn_of_wp_marks Tryd.func67 rfl (wide_fn HF _) ?_ hro
  simp only [Tryd.ntmps67, List.size_toArray, List.length_cons, List.length_nil, Nat.reduceAdd, Nat.reduceSub, Array.replicate_succ, Array.replicate_zero, List.push_toArray, List.append_toArray, List.nil_append, List.cons_append]
  gi_upto_region 2 with (first
    | ((with_reducible refine gate_dstIn (N := 3) rfl ?_); refine ev_allocIn HB rfl rfl (#[.func (.yield l) #[] #[]]) 72 ?hr ?_; (case hr => first | (go_simp; done) | (go_simp; rfl)); intro gy w3 G_gy GE_gy B_gy HBn K_gy KO_w3; clear HB; have HB := HBn; clear HBn)
    | ((with_reducible refine gate_dstIn (N := 4) rfl ?_); refine ev_allocIn HB rfl rfl (#[.int .i64 0]) 3 ?hr ?_; (case hr => first | (go_simp; done) | (go_simp; rfl)); intro gf w4 G_gf GE_gf B_gf HBn K_gf KO_w4; clear HB; have HB := HBn; clear HBn)
    | ((with_reducible refine gate_In (Op.store 3 (.tmp 4) (.const (.int .i64 (-1)))) rfl ?_); refine ev_store1In (i := 0) HB B_gf GE_gf rfl 3 _ _ rfl rfl (.int .i64 (-1)) rfl (by simp) (by kernel_rfl) rfl ?_; intro w5 B5 HBn K_w5 KO_w5; clear HB; have HB := HBn; clear HBn))
  have HBW := HB
  have Nyf : gy ≠ gf := by have := B_gy.lt; have := G_gf.out; omega
  have Y5 := (B_gy.below K_gf.out).other K_w5 Nyf
  have HC5 := Aside0.mk (Kd.C_below HC.out HB.out)
  have E3 := C3.below HB.out
  have EC := Aside0.mk (bitmap_Each.calls (s.size : Int) A cap L true w5 HC5.out HCP.out (by have := HL8.out; omega) HFM.out)
  clear C3 c30
  gi_wp2_with (first
    | ((with_reducible refine gate_dstIn (N := 6) rfl ?_); refine ev_loadSIn E3 rfl 38 _ rfl rfl Tryd.underlying38 rfl (by kernel_rfl) ?_)
    | (gi_at_call 68; refine (callsIn_of HF EC.out).mono ?_; rintro e w6 ⟨ge, rfl, hO⟩; have HO := Aside0.mk hO; clear hO))
  obtain ⟨⟨gr, vr, GEe, GEr, Lr, BE, RV⟩, HB6⟩ := HO.out
  have HBW := HB.step HB6.out
  have Y6 := Y5.below HB6.out
  have F6 := B5.below HB6.out
  have S6 := D1.below HBW.out
  have T6 := HT.out.step HBW.out
  have X0 : Aside0 (∀ k ∈ [gr, gf, gy], W0.heap.size ≤ k ∧ k < w6.heap.size) := ⟨fun k hk => by
    have z1 := GE_gy.out
    have z2 := GE_gf.out
    have z3 := Y6.lt
    have z4 := F6.lt
    have z5 := HB.le
    simp only [List.mem_cons, List.not_mem_nil, or_false] at hk
    rcases hk with rfl | rfl | rfl <;> omega⟩
  have J6 := HJO.out [gr, gf, gy] [] W0 w6 none (HE.out _ _ _ gr (HE.out _ _ _ gf (HE.out _ _ _ gy HJ0.out GE_gy.out) GE_gf.out) (X0.out gr (List.mem_cons_self ..)).1) ⟨HBW.out.os, HBW.out.tape, HBW.out.output, HBW.out.size, fun k hk _ => HBW.out.block k hk⟩ (fun r e => by cases e)
  have NN := Aside0.mk (And.intro Nyf HBW.le)
  have NX : Aside0 (gr ≠ gf ∧ gf < w6.heap.size ∧ 0 < gf ∧ g1 < W0.heap.size ∧ gy < w6.heap.size ∧ W0.heap.size ≤ gf) := ⟨by
    have := F6.lt
    have := GE_gf.out
    have := HT.out.pos
    have := D1.lt
    have := Y6.lt
    have := B5.lt
    omega⟩
  have P0 := T6.pos
  clear HC5 EC HO GEe GEr HB6 HB E3 Y5 B5 B_gy B_gf K_gy K_gf K_w5 KO_w3 KO_w4 KO_w5 G_gy G_gf HBW D1 Nyf
  refine wpIn_rangeFunc_O hro n1 (gf := 88) (lb := #[.pointer (some ⟨ge, 0, none⟩)]) rfl f2 (enters_of Tryd.func88 (by kernel_rfl) rfl)
    (bitmap_Each_1.stops F HF (n - 1) (by omega) ge gr vr L HRG.out HL8.out w6 BE RV Lr T6) Keep2.trans (fun W l o o' hl ho hc hw => Keep2.putObj P0 Lr W l o o' hl ho hc hw) (Below.refl _ _) (fun _ => rfl)
    (fun X => TxI J (X ++ [gr, gf, gy]) gy gf g1 l s w6.heap.size)
    (fun c pre W => c = .ret ∧ ∃ ts, ts <+: textsL s ∧ Jx ts W)
    (fun _ pre A B row hs hg hr => hs.kept (HJO.out _) NN.out.2 hg hr)
    (fun c pre A B row hs hg hr => ⟨hs.1, hs.2.imp fun ts h => ⟨h.1, HJXO.out _ _ _ _ h.2 hg (fun r e => ⟨Nat.le_trans NN.out.2 (hr r e).1, (hr r e).2⟩)⟩⟩)
    (fun X pre A k h hk => ⟨HE.out _ _ _ k h.j hk, h.by_, h.bf, h.bs, h.ht, h.sz⟩)
    (fun X pre A C hX h ht => by
      have z1 := NX.out
      have z2 := NN.out.2
      have z3 := h.sz
      have z4 := h.ht.pos
      have hXA : ∀ k ∈ X ++ [gr, gf, gy], W0.heap.size ≤ k := fun k hk => by
        rcases List.mem_append.1 hk with hk | hk
        · have := hX k hk
          omega
        · exact (X0.out k hk).1
      exact ⟨HAB.out _ _ _ _ hXA h.j (ht.mono fun k hk => List.mem_append_left _ hk), h.by_.turned ht (not_mem_above hX (by omega)), h.bf.turned ht (not_mem_above hX (by omega)), h.bs.turned ht (not_mem_above hX (by omega)), h.ht.heap (ht.block 0 z4 (not_mem_above hX (by omega))), Nat.le_trans h.sz ht.size⟩)
    ⟨J6, Y6, F6, S6, T6, Nat.le_refl _⟩
    (fun y a' W => ∃ u6, a' = { tmps := #[.func (.yield l) #[] #[], .pointer (some ⟨g3, 0, none⟩), .pointer (some ⟨g1, 0, none⟩), .pointer (some ⟨gy, 0, none⟩), .pointer (some ⟨gf, 0, none⟩), .int .i64 ((y.val : Nat) : Int), u6, .func (.func 88) #[] #[.pointer (some ⟨ge, 0, none⟩)], .int .i64 ((y.val : Nat) : Int), undef, undef, undef, undef, undef, undef, undef, undef, undef, undef, undef, undef, undef, undef, undef, undef, undef, undef], defers := [] })
    (fun x a' pre A B row hs hg hr => hs)
    ?assign ?body ?done ?stop
  case assign =>
    intro X' l' pre y W K' hX' hI hsp hK'
    dsimp only
    gi_wp2
    exact hK' _ _ ((KeepsOthers.refl _).from _) (fun _ _ => rfl) ⟨rfl, rfl, Nat.le_refl _⟩ hI ⟨_, rfl⟩
  case body =>
    rintro X' l' pre y a' W' hX' hl ⟨r, hr⟩ hI ⟨u6, rfl⟩ hsp
    clear hr
    obtain ⟨st, hst⟩ : ∃ st, st = foldT (pre.map (·.val)) := ⟨_, rfl⟩
    have hst2 : foldT ((pre ++ [y]).map (·.val)) = stepQ st y.val := by
      rw [List.map_append, hst]
      exact foldT_snoc _ _
    have hpx : (stepQ st y.val).1 <+: textsL s := by
      rw [← hst2]
      refine (foldT_prefix ?_).trans (endT_prefix _ _)
      rw [← HMS.out]
      exact hsp.map _
    have hXr : ∀ k ∈ X' ++ [gr, gf, gy], W0.heap.size ≤ k ∧ k < W'.heap.size := fun k hk => by
      have z3 := hI.sz
      have z2 := NN.out.2
      rcases List.mem_append.1 hk with hk | hk
      · have := hX' k hk
        omega
      · have := X0.out k hk
        omega
    have hIj := hI.j
    have hIf := hI.bf
    rw [← hst] at hIj hIf
    have HI := Aside0.mk hI
    have HX := Aside0.mk hX'
    have HXR := Aside0.mk hXr
    have HS2 := Aside0.mk hst2
    have cy := hI.by_.cell (i := 0) rfl
    have hyb : ((y.val : Nat) : Int) ≤ 1125899906842624 := by have := y.2.1; have := HL8.out; omega
    have hw1 : wrap64 (((y.val : Nat) : Int) + 1) = ((y.val : Nat) : Int) + 1 := by unfold wrap64; omega
    clear hI hX' hXr hst2 hsp hl
    obtain ⟨ts, o⟩ := st
    cases o with
    | none =>
      obtain ⟨wc, HBc, hwc⟩ := below_cut W' gf (Nat.le_of_lt hIf.lt)
      have GEc : Aside0 (wc.heap.size ≤ gf) := ⟨Nat.le_of_eq hwc⟩
      have HIJ := Aside0.mk hIj
      have cf := hIf.cell (i := 0) rfl
      dsimp only [fromI] at cf
      clear hIj hpx hst hwc
      gi_wp2_with (first
        | ((with_reducible refine gate_In (Op.store 3 (.tmp 4) (.tmp 12)) rfl ?_); refine ev_store1In (i := 0) HBc hIf GEc rfl 3 _ _ rfl rfl (.int .i64 (((y.val : Nat) : Int) + 1)) rfl (by simp) (by kernel_rfl) rfl ?_; intro w8 B8 HB8 K_w8 KO_w8))
      have NXo := NX.out
      have NT : Turned (X' ++ [gr, gf, gy]) W' w8 := ⟨HB8.out.os.trans HBc.out.os.symm, HB8.out.tape.trans HBc.out.tape.symm, HB8.out.output.trans HBc.out.output.symm, K_w8.out.1, fun k hk hn => K_w8.out.2 k fun c => hn (c ▸ List.mem_append_right _ (by simp))⟩
      have J8 := HAB.out _ _ _ _ (fun k hk => (HXR.out k hk).1) HIJ.out NT
      refine ⟨KO_w8.out.from _, fun k hk => K_w8.out.2 k (fun c => by have := HX.out k hk; omega), ⟨K_w8.out.2 0 (by omega), K_w8.out.2 gr (by omega), K_w8.out.1⟩, ?_, HI.out.by_.other K_w8 NN.out.1, ?_, HI.out.bs.other K_w8 (by omega), HI.out.ht.other (by omega) K_w8, Nat.le_trans HI.out.sz K_w8.out.1⟩
      · rw [HS2.out]
        exact J8
      · rw [HS2.out]
        exact B8
    | some f =>
      have cf := hIf.cell (i := 0) rfl
      dsimp only [fromI] at cf
      obtain ⟨fn, tmps, assign, body, hy, hR⟩ := HY.out (X' ++ [gr, gf, gy]) ts (f, y.val) W' HXR.out hIj hpx
      dsimp only [spanEnc] at hy
      have HR := Aside0.mk hR
      have HPX : Aside0 (ts ++ [(f, y.val)] <+: textsL s) := ⟨hpx⟩
      have hf0 : decide ((f : Int) < 0) = false := decide_eq_false (by omega)
      clear hR hpx hst hIj
      gi_wp2
      refine (roundIn_wide HF HR.out).mono ?_
      rintro e W2 ⟨hkf, hx, (⟨rfl, hJ2, hk2⟩ | ⟨rfl, hJx2⟩)⟩
      · have Ry := hx gy (List.mem_append_right _ (by simp))
        have Rf := hx gf (List.mem_append_right _ (by simp))
        have Rr := hx gr (List.mem_append_right _ (by simp))
        have F2 : Blk W2 gf #[.int .i64 (f : Int)] 3 := ⟨Rf.trans hIf.out⟩
        obtain ⟨wc, HBc, hwc⟩ := below_cut W2 gf (Nat.le_of_lt F2.lt)
        have GEc : Aside0 (wc.heap.size ≤ gf) := ⟨Nat.le_of_eq hwc⟩
        have HJ2 := Aside0.mk hJ2
        have HK2 := Aside0.mk (And.intro hkf (And.intro hx hk2))
        clear hJ2 hkf hx hk2 hwc cf cy
        gi_wp2_with (first
          | ((with_reducible refine gate_In (Op.store 3 (.tmp 4) (.const (.int .i64 (-1)))) rfl ?_); refine ev_store1In (i := 0) HBc F2 GEc rfl 3 _ _ rfl rfl (.int .i64 (-1)) rfl (by simp) (by kernel_rfl) rfl ?_; intro w8 B8 HB8 K_w8 KO_w8))
        have NXo := NX.out
        obtain ⟨hkf, hx, hk2⟩ := HK2.out
        have NT : Turned (X' ++ [gr, gf, gy]) W2 w8 := ⟨HB8.out.os.trans HBc.out.os.symm, HB8.out.tape.trans HBc.out.tape.symm, HB8.out.output.trans HBc.out.output.symm, K_w8.out.1, fun k hk hn => K_w8.out.2 k fun c => hn (c ▸ List.mem_append_right _ (by simp))⟩
        have J8 := HAB.out _ _ _ _ (fun k hk => (HXR.out k hk).1) HJ2.out NT
        refine ⟨(KeepsFrom.up hkf NN.out.2).trans (KO_w8.out.from _), fun k hk => (K_w8.out.2 k (fun c => by have := HX.out k hk; omega)).trans (hx k (List.mem_append_left _ hk)), ⟨(K_w8.out.2 0 (by omega)).trans hk2.1, (K_w8.out.2 gr (by omega)).trans Rr, Nat.le_trans hkf.size K_w8.out.1⟩, ?_, ⟨(K_w8.out.2 gy NN.out.1).trans (Ry.trans HI.out.by_.out)⟩, ?_, ⟨(K_w8.out.2 g1 (by omega)).trans (hk2.2.1.trans HI.out.bs.out)⟩, (HI.out.ht.keep hk2).other (by omega) K_w8, Nat.le_trans HI.out.sz (Nat.le_trans hkf.size K_w8.out.1)⟩
        · rw [HS2.out]
          exact J8
        · rw [HS2.out]
          exact B8
      · have HJ2 := Aside0.mk hJx2
        have HK2 := Aside0.mk (And.intro hkf hx)
        clear hJx2 hkf hx
        gi_wp2
        refine ⟨KeepsFrom.up HK2.out.1 NN.out.2, fun k hk => HK2.out.2 k (List.mem_append_left _ hk), rfl, _, HPX.out, HJ2.out⟩
  case done =>
    rintro D X' ys W' hD hX' rfl hI hK'
    have HX := Aside0.mk hX'
    have hIj := hI.j
    have hIf := hI.bf
    rw [HMS.out] at hIj hIf
    obtain ⟨st, hst⟩ : ∃ st, st = foldT (marksP s) := ⟨_, rfl⟩
    rw [← hst] at hIj hIf
    have hTX : textsL s = endT st s.size := by rw [hst]; rfl
    have HTX := Aside0.mk hTX
    have HXR : Aside0 (∀ k ∈ X' ++ [gr, gf, gy], W0.heap.size ≤ k ∧ k < W'.heap.size) := ⟨fun k hk => by
      have z3 := hI.sz
      have z2 := NN.out.2
      rcases List.mem_append.1 hk with hk | hk
      · have := hX' k hk
        omega
      · have := X0.out k hk
        omega⟩
    have hD0 := Nat.le_trans NN.out.2 hD
    have cy := hI.by_.cell (i := 0) rfl
    have cs := hI.bs.cell (i := 0) rfl
    have cf := hIf.cell (i := 0) rfl
    have HM := Aside0.mk (Marks.cons (Marks.nil (W := W')) hD0 hK' (List.not_mem_nil))
    have hsz : (s.size : Int) ≤ 1099511627776 := by have := HS.out; omega
    clear hI hX' hK' hD hst hTX hD0
    obtain ⟨ts, o⟩ := st
    cases o with
    | none =>
      dsimp only [fromI] at cf
      have HIJ := Aside0.mk hIj
      clear hIj hIf cy cs
      gi_wp2
      refine leaves_marksS (S := fun A => J (X' ++ [gr, gf, gy]) ts A ∧ W'.heap.size ≤ A.heap.size) (fun A D' hs h1 h2 => ⟨(HJO.out _).putObj _ hs.1 h1 h2 rfl, by simpa using hs.2⟩) [D] W' ⟨HIJ.out, Nat.le_refl _⟩ HM.out fun A hA => ⟨_, results_none rfl _ _ _, by rw [HR0.out]; exact ⟨⟨_, rfl⟩, .inl ⟨_, X' ++ [gr, gf, gy], HTX.out.symm, fun k hk => by have := HXR.out k hk; have := hA.2; omega, hA.1⟩⟩⟩
    | some f =>
      dsimp only [fromI] at cf
      obtain ⟨fn, tmps, assign, body, hy, hR⟩ := HY.out (X' ++ [gr, gf, gy]) ts (f, s.size) W' HXR.out hIj (by rw [HTX.out]; exact List.prefix_rfl)
      dsimp only [spanEnc] at hy
      have HR := Aside0.mk hR
      have hf0 : decide (0 ≤ (f : Int)) = true := decide_eq_true (by omega)
      clear hR hIj hIf
      gi_wp2
      refine (roundIn_any HF HR.out).mono ?_
      rintro e W2 ⟨hkf, hx, (⟨rfl, hJ2, hk2⟩ | ⟨rfl, hJx2⟩)⟩
      · have HJ2 := Aside0.mk hJ2
        have HM2 := Aside0.mk (HM.out.keeps hkf (Nat.le_refl _))
        have HZ2 := Aside0.mk hkf.size
        clear hJ2 hkf hx hk2 cy cs cf
        gi_wp2
        refine leaves_marksS (S := fun A => J (X' ++ [gr, gf, gy]) (ts ++ [(f, s.size)]) A ∧ W2.heap.size ≤ A.heap.size) (fun A D' hs h1 h2 => ⟨(HJO.out _).putObj _ hs.1 h1 h2 rfl, by simpa using hs.2⟩) [D] W2 ⟨HJ2.out, Nat.le_refl _⟩ HM2.out fun A hA => ⟨_, results_none rfl _ _ _, by rw [HR0.out]; exact ⟨⟨_, rfl⟩, .inl ⟨_, X' ++ [gr, gf, gy], HTX.out.symm, fun k hk => by have := HXR.out k hk; have := hA.2; have := HZ2.out; omega, hA.1⟩⟩⟩
      · have HJ2 := Aside0.mk hJx2
        have HM2 := Aside0.mk (HM.out.keeps hkf (Nat.le_refl _))
        clear hJx2 hkf hx cy cs cf
        gi_wp2
        refine leaves_marksS (S := fun A => Jx (ts ++ [(f, s.size)]) A) (fun A D' hs h1 h2 => HJXO.out.putObj _ hs h1 h2 rfl) [D] W2 HJ2.out HM2.out fun A hA => ⟨_, results_none rfl _ _ _, by rw [HR0.out]; exact ⟨⟨_, rfl⟩, .inr ⟨_, by rw [HTX.out]; exact List.prefix_rfl, hA⟩⟩⟩
  case stop =>
    rintro D c pre W' hD hp ⟨rfl, ts, hts, hJ2⟩ hK'
    have hD0 := Nat.le_trans NN.out.2 hD
    have HM := Aside0.mk (Marks.cons (Marks.nil (W := W')) hD0 hK' (List.not_mem_nil))
    have HJ2 := Aside0.mk hJ2
    have HTS := Aside0.mk hts
    clear hp hJ2 hts hK' hD hD0
    gi_wp2
    exact leaves_marksS (S := fun A => Jx ts A) (fun A D' hs h1 h2 => HJXO.out.putObj _ hs h1 h2 rfl) [D] W' HJ2.out HM.out fun A hA => ⟨_, results_none rfl _ _ _, by rw [HR0.out]; exact ⟨⟨_, rfl⟩, .inr ⟨_, HTS.out, hA⟩⟩⟩
end


/-! ### quotes_Texts: function 32 -/
section
open Go.Proofs.YtadcgjmhhodnoaaDoorQ Go.Proofs.YtadcgjmhhodnoaaDoorM
/-- What quotes.Texts leaves: the marks, and the text, in variables. -/
structure TextsO (s : ByteArray) (w w' : World) (g3 g1 : Nat) : Prop where mk ::
  out : ∃ (A : Option Addr) (cap : Nat), Blk w' g3 #[.int .i64 s.size, .slice A (wordsOf s.size (mkq s)).length cap] 38 ∧ Kd.C (Kd.int .u64) w' A (wordsOf s.size (mkq s)).length (wordsOf s.size (mkq s)) ∧ (wordsOf s.size (mkq s)).length ≤ cap
  b1 : Blk w' g1 #[.string s] 9
  hb : BelowH w w'
set_option maxHeartbeats 4000000 in
set_option maxRecDepth 100000 in
theorem quotes_Texts.calls (s : ByteArray) (w : World) (hs : s.size ≤ 281474976702464) :
    Calls Tryd.prog 32 #[.string s] w fun e w' => ∃ g3 g1 : Nat, e = .returned (.func (.func 67) #[] #[.pointer (some ⟨g3, 0, none⟩), .pointer (some ⟨g1, 0, none⟩)]) ∧ TextsO s w w' g3 g1 := by
  have HB := BelowH.refl w
  have MK : Aside0 (∀ w, Calls Tryd.prog 22 #[.string s] w fun e w' => ∃ v1_ : Value, e = .returned (.agg #[.int .i64 s.size, v1_]) ∧ Kd.R (Kd.int .u64) 64 w' w.heap.size (fun _ => True) v1_ (wordsOf s.size (mkq s)) ∧ Below w.heap.size w w') := ⟨fun w => quotes_Marks.calls s _ _ w (by unfold quotes_Marks.f; rw [if_pos hs])⟩
  clear hs
  go_enter Tryd.func32, Tryd.ntmps32
  go_wp2_with (first
    | (((with_reducible refine gate_dst (N := 1) rfl ?_); refine ev_alloc HB rfl (#[.string s]) 9 ?hr ?_; (case hr => first | (go_simp; done) | (go_simp; rfl)); intro g1 w1 G_g1 GE_g1 B_g1 HBn K_g1; clear HB; have HB := HBn; clear HBn); have c1 := B_g1.cell (i := 0) rfl)
    | (go_at_call 22; refine (MK.out _).mono ?_; rintro e w4 ⟨v, rfl, hR, hb4⟩; have HR4 := Aside0.mk hR; have D1 := B_g1.below hb4; have HBW := Aside0.mk (HB.step hb4); have HQ := BelowH.refl w4; clear HB; have HB := HQ; clear HQ hR hb4; obtain ⟨Ao, co, rfl⟩ := Kd.R_slice HR4.out)
    | ((with_reducible refine gate_dst (N := 3) rfl ?_); refine ev_alloc HB rfl (#[.int .i64 0, .slice none 0 0]) 38 ?hr ?_; (case hr => first | (go_simp; done) | (go_simp; rfl)); intro g3 w5 G_g3 GE_g3 B_g3 HBn K_g3; clear HB; have HB := HBn; clear HBn)
    | ((with_reducible refine gate_ (Op.store 38 (.tmp 3) (.tmp 5)) rfl ?_); refine ev_store HB B_g3 GE_g3 rfl 38 _ _ rfl rfl rfl (by kernel_rfl) rfl (by simp [Value.oneCell']) ?_; intro w6 B6 HB6 K_w6))
  go_ret
  have hC := Kd.R_reads' HR4.out
  exact ⟨g3, g1, rfl, ⟨_, _, B6, Kd.C_below hC.2.2 HB6.out, hC.2.1⟩, D1.below HB6.out, HBW.out.step HB6.out⟩
end


/-! ### quarrylaw07_told: function 33 -/
section
open Go.Proofs.YtadcgjmhhodnoaaDoorQ Go.Proofs.YtadcgjmhhodnoaaDoorM Go.Shelf
open Go.Proofs.YtadcgjmhhodnoaaDoorW.PrintWords
attribute [local go_sem] Oper.semAt_some
theorem eqSpan (a b a' b' : Int) (w : World) : (Op.equalIn 10000 30 (.agg #[.int .i64 a, .int .i64 b]) (.agg #[.int .i64 a', .int .i64 b'])).run Tryd.prog w = .ok ((a == a') && (b == b')) w := by
  have hp : Tryd.prog.plainKey 3 = true := by kernel_rfl
  have h1 := run_part_plain w hp (xs := #[.int .i64 a, .int .i64 b]) (off := 0) (v := .int .i64 a) rfl
  have h2 := run_part_plain w hp (xs := #[.int .i64 a, .int .i64 b]) (off := 1) (v := .int .i64 b) rfl
  have h3 := run_part_plain w hp (xs := #[.int .i64 a', .int .i64 b']) (off := 0) (v := .int .i64 a') rfl
  have h4 := run_part_plain w hp (xs := #[.int .i64 a', .int .i64 b']) (off := 1) (v := .int .i64 b') rfl
  have h5 := fun x y => run_equalIn_int (P := Tryd.prog) w 9998 3 .i64 .i64 x y Tryd.underlying3
  refine eqA_of Tryd.underlying30 (by kernel_rfl) ?_
  refine eqf_cons rfl h1 h3 (r := a == a') ?_ (eqf_last rfl h2 h4 (r := b == b') ?_)
  · simpa using h5 a a'
  · simpa using h5 b b'
/-- Between two spans. -/
structure ToI (w : World) (g3 g4 g5 : Nat) (vs : Value) (m : Nat) (pre : List (Nat × Nat)) (W : World) : Prop where mk ::
  b3 : Blk W g3 #[vs] 31
  b4 : Blk W g4 #[.bool false] 4
  b5 : Blk W g5 #[.int .i64 ((pre.length : Nat) : Int)] 3
  hb : BelowH w W
  sz : m ≤ W.heap.size
theorem ToI.kept {w W W' : World} {g3 g4 g5 : Nat} {vs : Value} {m : Nat} {pre : List (Nat × Nat)} (h : ToI w g3 g4 g5 vs m pre W) {B : Nat} (hB : w.heap.size ≤ B) {row : Option Nat} (hg : W.grownBy W' row) (hr : ∀ r, row = some r → B ≤ r ∧ ∃ o : Obj, W.heap[r]? = some o ∧ o.isCells = false) : ToI w g3 g4 g5 vs m pre W' := by
  have hr' : ∀ r, row = some r → ∃ o : Obj, W.heap[r]? = some o ∧ o.isCells = false := fun r e => (hr r e).2
  exact ⟨h.b3.kept hg hr', h.b4.kept hg hr', h.b5.kept hg hr', h.hb.kept hg hB (fun r e => (hr r e).1), Nat.le_trans h.sz hg.size⟩
theorem ToI.below {w W W' : World} {g3 g4 g5 : Nat} {vs : Value} {m : Nat} {pre : List (Nat × Nat)} (h : ToI w g3 g4 g5 vs m pre W) (hb : Below W.heap.size W W') : ToI w g3 g4 g5 vs m pre W' :=
  ⟨h.b3.below hb, h.b4.below hb, h.b5.below hb, h.hb.step hb, Nat.le_trans h.sz hb.size⟩
theorem prefix_get {α : Type} {pre L : List α} {x : α} (h : pre ++ [x] <+: L) : L[pre.length]? = some x ∧ pre.length < L.length := by
  obtain ⟨t, rfl⟩ := h
  refine ⟨?_, ?_⟩
  · rw [List.append_assoc, List.getElem?_append_right (Nat.le_refl _), Nat.sub_self]
    rfl
  · simp
/-- What lies in a row of spans. -/
def SpanRow (cs : Array Value) (L : List (Nat × Nat)) : Prop := ∀ i x, L[i]? = some x → cs[i * 2]? = some (.int .i64 ((x.1 : Nat) : Int)) ∧ cs[i * 2 + 1]? = some (.int .i64 ((x.2 : Nat) : Int))
set_option maxHeartbeats 4000000 in
set_option maxRecDepth 100000 in
theorem quarrylaw07_told.walk (s : ByteArray) (hs : s.size ≤ 1099511627776) (h3 h1 : Nat) (A : Option Addr) (cap : Nat) (w : World)
    (B3 : Blk w h3 #[.int .i64 s.size, .slice A (wordsOf s.size (mkq s)).length cap] 38) (hC : Kd.C (Kd.int .u64) w A (wordsOf s.size (mkq s)).length (wordsOf s.size (mkq s))) (hcap : (wordsOf s.size (mkq s)).length ≤ cap) (B1 : Blk w h1 #[.string s] 9) (hT : TabOk w)
    (A2 : Option Addr) (hrow : textsL s = [] ∨ ∃ (gw : Nat) (cs : Array Value) (tw : Nat), A2 = some ⟨gw, 0, none⟩ ∧ Blk w gw cs tw ∧ SpanRow cs (textsL s)) (hN : (textsL s).length ≤ 1125899906842624) (cap2 : Nat) :
    Calls Tryd.prog 33 #[.func (.func 67) #[] #[.pointer (some ⟨h3, 0, none⟩), .pointer (some ⟨h1, 0, none⟩)], .slice A2 (textsL s).length cap2] w fun e w' => e = .returned (.bool true) ∧ Below w.heap.size w w' := by
  obtain ⟨F, hF⟩ : ∃ F, F = Fence.wide := ⟨_, rfl⟩
  have HF := Aside0.mk hF
  refine (callsIn_wide (n := 9)).1 ?_
  rw [← hF]
  clear hF
  have hro := wide_round HF
  have HB := BelowH.refl w
  have f2 := wide_fn HF 67
  have HH := Aside0.mk (And.intro hs (And.intro hcap hN))
  have HC := Aside0.mk hC
  have HT := Aside0.mk hT
  have HBB := Aside0.mk (And.intro B3 B1)
  have HROW := Aside0.mk hrow
  obtain ⟨N, hN2⟩ : ∃ N, N = (textsL s).length := ⟨_, rfl⟩
  rw [← hN2]
  have HNN := Aside0.mk hN2
  have HNB : Aside0 (N ≤ 1125899906842624) := ⟨by rw [hN2]; exact hN⟩
  clear hs hcap hN hC hT B3 B1 hrow hN2
  refine callsIn_of_wp_marks Tryd.func33 rfl (wide_fn HF _) ?_ hro
  simp only [Tryd.ntmps33, List.size_toArray, List.length_cons, List.length_nil, Nat.reduceAdd, Nat.reduceSub, Array.replicate_succ, Array.replicate_zero, List.push_toArray, List.append_toArray, List.nil_append, List.cons_append]
  gi_wp2_with (first
    | ((with_reducible refine gate_dstIn (N := 3) rfl ?_); refine ev_allocIn HB rfl rfl (#[.slice A2 N cap2]) 31 ?hr ?_; (case hr => first | (go_simp; done) | (go_simp; rfl)); intro g3 w3 G_g3 GE_g3 B_g3 HBn K_g3 KO_w3; clear HB; have HB := HBn; clear HBn)
    | ((with_reducible refine gate_dstIn (N := 4) rfl ?_); refine ev_allocIn HB rfl rfl (#[.bool false]) 4 ?hr ?_; (case hr => first | (go_simp; done) | (go_simp; rfl)); intro g4 w4 G_g4 GE_g4 B_g4 HBn K_g4 KO_w4; clear HB; have HB := HBn; clear HBn)
    | ((with_reducible refine gate_dstIn (N := 5) rfl ?_); refine ev_allocIn HB rfl rfl (#[.int .i64 0]) 3 ?hr ?_; (case hr => first | (go_simp; done) | (go_simp; rfl)); intro g5 w5 G_g5 GE_g5 B_g5 HBn K_g5 KO_w5; clear HB; have HB := HBn; clear HBn)
    | ((with_reducible refine gate_In (Op.store 3 (.tmp 5) (.const (.int .i64 0))) rfl ?_); refine ev_store1In (i := 0) HB B_g5 GE_g5 rfl 3 _ _ rfl rfl (.int .i64 0) rfl (by simp) (by kernel_rfl) rfl ?_; intro w6 B6 HBn K_w6 KO_w6; clear HB; have HB := HBn; clear HBn))
  have N5 : g3 ≠ g5 ∧ g4 ≠ g5 := by
    have z1 := B_g3.lt
    have z2 := B_g4.lt
    have z3 := G_g4.out
    have z4 := G_g5.out
    omega
  have C3 := ((B_g3.below K_g4.out).below K_g5.out).other K_w6 N5.1
  have C4 := (B_g4.below K_g5.out).other K_w6 N5.2
  have HT6 := HT.out.step HB.out
  have L3 := C3.lt
  have L4 := C4.lt
  have L5 := B6.lt
  have P0 := HT6.pos
  have A1 := HBB.out.2.below HB.out
  have LH1 := A1.lt
  have PG : Aside0 (0 < w.heap.size ∧ h1 < w.heap.size ∧ w.heap.size ≤ g5 ∧ w.heap.size ≤ w6.heap.size) := ⟨⟨HT.out.pos, HBB.out.2.lt, GE_g5.out, HB.le⟩⟩
  have PN := Aside0.mk (And.intro N5 (And.intro L3 (And.intro L4 L5)))
  have HBW := HB
  clear HB B_g3 B_g4 B_g5 K_g3 K_g4 K_g5 K_w6 KO_w3 KO_w4 KO_w5 KO_w6 N5 G_g3 G_g4 G_g5
  refine wpIn_rangeFunc_O hro (by decide) (gf := 67) (lb := #[.pointer (some ⟨h3, 0, none⟩), .pointer (some ⟨h1, 0, none⟩)]) rfl f2 (enters_of Tryd.func67 (by kernel_rfl) rfl)
    (quotes_Texts_1.stops F HF (9 - 1) (by decide) h3 h1 s HH.out.1 A cap w6 (HBB.out.1.below HBW.out) (Kd.C_below HC.out HBW.out) HH.out.2.1 A1 HT6) Keep2.trans (fun W l o o' hl ho hc hw => Keep2.putObj P0 LH1 W l o o' hl ho hc hw) (Below.refl _ _) (fun _ => rfl)
    (fun _ => ToI w g3 g4 g5 (.slice A2 N cap2) w6.heap.size) (fun _ _ _ => False)
    (fun _ pre A B row hs hg hr => hs.kept HBW.le hg hr)
    (fun _ _ _ _ _ hs _ _ => hs)
    (fun X pre A k h hk => h)
    (fun X pre A C hX h ht => ⟨h.b3.turned ht (not_mem_above hX PN.out.2.1), h.b4.turned ht (not_mem_above hX PN.out.2.2.1), h.b5.turned ht (not_mem_above hX PN.out.2.2.2), ⟨ht.below (fun k hk => Nat.le_trans HBW.le (hX k hk)) h.hb.le h.hb.out⟩, Nat.le_trans h.sz ht.size⟩)
    ⟨C3, C4, B6, HBW, Nat.le_refl _⟩
    (fun x a' W => ∃ gb, w6.heap.size ≤ gb ∧ Blk W gb #[.int .i64 ((x.1 : Nat) : Int), .int .i64 ((x.2 : Nat) : Int)] 30 ∧ a' = { tmps := #[.func (.func 67) #[] #[.pointer (some ⟨h3, 0, none⟩), .pointer (some ⟨h1, 0, none⟩)], .slice A2 N cap2, undef, .pointer (some ⟨g3, 0, none⟩), .pointer (some ⟨g4, 0, none⟩), .pointer (some ⟨g5, 0, none⟩), .pointer (some ⟨gb, 0, none⟩), .func (.func 67) #[] #[.pointer (some ⟨h3, 0, none⟩), .pointer (some ⟨h1, 0, none⟩)], .agg #[.int .i64 ((x.1 : Nat) : Int), .int .i64 ((x.2 : Nat) : Int)], undef, undef, undef, undef, undef, undef, undef, undef, undef, undef, undef, undef, undef, undef, undef, undef, undef, undef], defers := [] })
    (fun x a' pre A B row hs hg hr => by
      obtain ⟨gb, h1, h2, h3⟩ := hs
      exact ⟨gb, h1, h2.kept hg (fun r e => (hr r e).2), h3⟩)
    ?assign ?body ?done ?stop
  case assign =>
    intro X l pre x W K hX hI hsp hK
    have HB := hI.hb
    have SZ := Aside0.mk hI.sz
    have HXA := Aside0.mk hX
    clear hX hsp
    have hz : ∀ t : Array Value, (((#[8] : Array Tmp).zip (spanEnc x)).foldl (fun t (p, v) => t.setIfInBounds p v) t) = t.setIfInBounds 8 (.agg #[.int .i64 ((x.1 : Nat) : Int), .int .i64 ((x.2 : Nat) : Int)]) := fun t => by simp [spanEnc]
    rw [hz]
    simp only [List.setIfInBounds_toArray, List.set_cons_succ, List.set_cons_zero]
    clear hz
    gi_wp2_with (first
      | ((with_reducible refine gate_dstIn (N := 6) rfl ?_); refine ev_allocIn HB rfl rfl (#[.int .i64 0, .int .i64 0]) 30 ?hr ?_; (case hr => first | (go_simp; done) | (go_simp; rfl)); intro gb w8 G_gb GE_gb B_gb HBn K_gb KO_w8; clear HB; have HB := HBn; clear HBn)
      | ((with_reducible refine gate_In (Op.store 30 (.tmp 6) (.tmp 8)) rfl ?_); refine ev_storeIn HB B_gb GE_gb rfl 30 _ _ rfl rfl rfl (by kernel_rfl) rfl (by simp [Value.oneCell']) ?_; intro w9 B9 HBn K_w9 KO_w9; clear HB; have HB := HBn; clear HBn))
    have hKO := KO_w8.out.trans KO_w9.out
    have N : ∀ g, g < W.heap.size → g ≠ gb := fun g h => by have := G_gb.out; omega
    have same : ∀ g, g < W.heap.size → w9.heap[g]? = W.heap[g]? := fun g h => (K_w9.out.2 g (N g h)).trans (K_gb.out.block g h)
    have Z := SZ.out
    have p := PN.out
    have q := PG.out
    refine hK _ _ (hKO.from _) (fun k hk => same k (HXA.out k hk).2) ⟨same 0 (by omega), same h1 (by omega), Nat.le_trans K_gb.out.size K_w9.out.1⟩ ?_ ⟨gb, Nat.le_trans SZ.out G_gb.out, B9, rfl⟩
    exact ⟨⟨(same g3 (by omega)).trans hI.b3.out⟩, ⟨(same g4 (by omega)).trans hI.b4.out⟩, ⟨(same g5 (by omega)).trans hI.b5.out⟩, HB, Nat.le_trans Z (Nat.le_trans K_gb.out.size K_w9.out.1)⟩
  case body =>
    rintro X l pre x a' W hX hl ⟨r, hr⟩ hI ⟨gb, hgb, BX, rfl⟩ hsp
    obtain ⟨hx, hlt⟩ := prefix_get hsp
    obtain (h0 | ⟨gw, cs, tw, rfl, BW, hrow⟩) := HROW.out
    · rw [h0] at hlt
      exact absurd hlt (Nat.not_lt_zero _)
    have BWI := BW.below hI.hb.out
    obtain ⟨hc1, hc2⟩ := hrow _ _ hx
    rw [← HNN.out] at hlt
    have HG1 := Aside0.mk hc1
    have HG2 := Aside0.mk hc2
    have HXA := Aside0.mk hX
    have HNB1 := HNB.out
    have hge : decide ((N : Int) ≤ ((pre.length : Nat) : Int)) = false ∧ decide (N ≤ pre.length) = false := ⟨decide_eq_false (by omega), decide_eq_false (by omega)⟩
    obtain ⟨hge1, hge2⟩ := hge
    have hq3 : (0 : Int) ≤ ((pre.length : Nat) : Int) := by omega
    have hq4 : ((pre.length : Nat) : Int) < ((N : Nat) : Int) := by omega
    have hq6 : IntKind.i64.wrap ((pre.length : Nat) : Int) = ((pre.length : Nat) : Int) := by rw [i64_w]; unfold wrap64; omega
    have hq7 : wrap64 (((pre.length : Nat) : Int) + 1) = ((pre.length : Nat) : Int) + 1 := by unfold wrap64; omega
    have EQ : ∀ w, (Op.equalIn 10000 30 (.agg #[.int .i64 ((x.1 : Nat) : Int), .int .i64 ((x.2 : Nat) : Int)]) (.agg #[.int .i64 ((x.1 : Nat) : Int), .int .i64 ((x.2 : Nat) : Int)])).run Tryd.prog w = .ok true w := fun w => by
      have := eqSpan ((x.1 : Nat) : Int) ((x.2 : Nat) : Int) ((x.1 : Nat) : Int) ((x.2 : Nat) : Int) w
      rw [beq_self_eq_true, beq_self_eq_true] at this
      exact this
    have hbd : Aside0 (Below W.heap.size W W.drew) := ⟨below_drew (Below.refl _ _)⟩
    have HI := Aside0.mk hI
    have I' := hI.below hbd.out
    have BX' := BX.below hbd.out
    have BW' := BWI.below hbd.out
    have LW := BW.lt
    have KO' := Aside0.mk (keepsOthers_below hbd.out)
    have HZ' := Aside0.mk hbd.out.size
    clear hr hl hX hsp hx hc1 hc2 hI BX HNB1 BW BWI hrow
    gi_upto_region 4 with (fail)
    refine wpIn_region_last_drew HF (S := fun W' => Blk W' g5 #[.int .i64 ((pre.length : Nat) : Int)] 3 ∧ Blk W' g3 #[.slice (some ⟨gw, 0, none⟩) N cap2] 31 ∧ Blk W' gb #[.int .i64 ((x.1 : Nat) : Int), .int .i64 ((x.2 : Nat) : Int)] 30 ∧ Blk W' gw cs tw) (ds := []) (by kernel_rfl) (by kernel_rfl) ⟨I'.b5, I'.b3, BX', BW'⟩ (fun hS => ?_)
    refine wpAnyLast_take (i := 0) (oi := Oper.mk _ _ _ _ _ _) rfl (by kernel_rfl) (by kernel_rfl) (by kernel_rfl) (by kernel_rfl) (by kernel_rfl) (fun _ _ _ h => h) (rg_load1 (by rfl) (fun _ hS => hS.1.cell (i := 0) rfl) 3 _ rfl rfl (fun _ => by simp [isAgg, run_underlying Tryd.underlying3])) hS ?_
    try simp only [Act.put, List.setIfInBounds_toArray, List.set_cons_zero, List.set_cons_succ]
    refine wpAnyLast_take (i := 1) (oi := Oper.mk _ _ _ _ _ _) rfl (by kernel_rfl) (by kernel_rfl) (by kernel_rfl) (by kernel_rfl) (by kernel_rfl) (fun _ _ _ h => h) (rg_load1 (by rfl) (fun _ hS => hS.2.1.cell (i := 0) rfl) 31 _ rfl rfl (fun _ => by simp [isAgg, run_underlying Tryd.underlying31])) hS ?_
    try simp only [Act.put, List.setIfInBounds_toArray, List.set_cons_zero, List.set_cons_succ]
    refine' wpAnyLast_take (i := 2) (oi := Oper.mk _ _ _ _ _ _) rfl (by kernel_rfl) (by kernel_rfl) (by kernel_rfl) (by kernel_rfl) (by kernel_rfl) (fun _ _ _ h => h) (Or.inl ⟨by rfl, ?hy1⟩) hS ?rest1
    case hy1 => (intro w hSw; (try dsimp only at hSw); first | (go_simp; done) | (go_simp; with_reducible rfl))
    try simp only [Act.put, List.setIfInBounds_toArray, List.set_cons_zero, List.set_cons_succ]
    refine' wpAnyLast_take (i := 3) (oi := Oper.mk _ _ _ _ _ _) rfl (by kernel_rfl) (by kernel_rfl) (by kernel_rfl) (by kernel_rfl) (by kernel_rfl) (fun _ _ _ h => h) (Or.inl ⟨by rfl, ?hy2⟩) hS ?rest2
    case hy2 => (intro w hSw; (try dsimp only at hSw); first | (go_simp; done) | (go_simp; with_reducible rfl))
    try simp only [Act.put, List.setIfInBounds_toArray, List.set_cons_zero, List.set_cons_succ]
    refine' wpAnyLast_take (i := 4) (oi := Oper.mk _ _ _ _ _ _) rfl (by kernel_rfl) (by kernel_rfl) (by kernel_rfl) (by kernel_rfl) (by kernel_rfl) (fun _ _ _ h => h) (Or.inl ⟨by rfl, ?hy3⟩) hS ?rest3
    case hy3 => (intro w hSw; (try dsimp only at hSw); first | (go_simp; done) | (go_simp; with_reducible rfl))
    try simp only [Act.put, List.setIfInBounds_toArray, List.set_cons_zero, List.set_cons_succ]
    refine wpAnyLast_take (i := 5) (oi := Oper.mk _ _ _ _ _ _) rfl (by kernel_rfl) (by kernel_rfl) (by kernel_rfl) (by kernel_rfl) (by kernel_rfl) (fun _ _ _ h => h) (rg_load (by rfl) (fun _ hS => hS.2.2.1) 30 _ rfl rfl Tryd.underlying30 rfl (by kernel_rfl)) hS ?_
    try simp only [Act.put, List.setIfInBounds_toArray, List.set_cons_zero, List.set_cons_succ]
    refine wpAnyLast_take (i := 6) (oi := Oper.mk _ _ _ _ _ _) rfl (by kernel_rfl) (by kernel_rfl) (by kernel_rfl) (by kernel_rfl) (by kernel_rfl) (fun _ _ _ h => h) (rg_load1 (by rfl) (fun _ hS => hS.2.1.cell (i := 0) rfl) 31 _ rfl rfl (fun _ => by simp [isAgg, run_underlying Tryd.underlying31])) hS ?_
    try simp only [Act.put, List.setIfInBounds_toArray, List.set_cons_zero, List.set_cons_succ]
    refine wpAnyLast_take (i := 7) (oi := Oper.mk _ _ _ _ _ _) rfl (by kernel_rfl) (by kernel_rfl) (by kernel_rfl) (by kernel_rfl) (by kernel_rfl) (fun _ _ _ h => h) (rg_load1 (by rfl) (fun _ hS => hS.1.cell (i := 0) rfl) 3 _ rfl rfl (fun _ => by simp [isAgg, run_underlying Tryd.underlying3])) hS ?_
    try simp only [Act.put, List.setIfInBounds_toArray, List.set_cons_zero, List.set_cons_succ]
    refine' wpAnyLast_take (i := 8) (oi := Oper.mk _ _ _ _ _ _) rfl (by kernel_rfl) (by kernel_rfl) (by kernel_rfl) (by kernel_rfl) (by kernel_rfl) (fun _ _ _ h => h) (Or.inl ⟨by rfl, ?hy4⟩) hS ?rest4
    case hy4 => (intro w hSw; (try dsimp only at hSw); first | (go_simp; done) | (go_simp; with_reducible rfl))
    try simp only [Act.put, List.setIfInBounds_toArray, List.set_cons_zero, List.set_cons_succ]
    refine wpAnyLast_take (i := 9) (oi := Oper.mk _ _ _ _ _ _) rfl (by kernel_rfl) (by kernel_rfl) (by kernel_rfl) (by kernel_rfl) (by kernel_rfl) (fun _ _ _ h => h) (Or.inl ⟨by rfl, fun w hSw => by obtain ⟨_, _, _, hbw⟩ := hSw; have c1 := hbw.cell HG1.out; have c2 := hbw.cell HG2.out; first | (go_simp; done) | (go_simp; rfl)⟩) hS ?_
    try simp only [Act.put, List.setIfInBounds_toArray, List.set_cons_zero, List.set_cons_succ]
    refine' wpAnyLast_take (i := 10) (oi := Oper.mk _ _ _ _ _ _) rfl (by kernel_rfl) (by kernel_rfl) (by kernel_rfl) (by kernel_rfl) (by kernel_rfl) (fun _ _ _ h => h) (Or.inl ⟨by rfl, ?hy5⟩) hS ?rest5
    case hy5 => (intro w hSw; (try dsimp only at hSw); first | (go_simp; done) | (go_simp; with_reducible rfl))
    try simp only [Act.put, List.setIfInBounds_toArray, List.set_cons_zero, List.set_cons_succ]
    refine' wpAnyLast_take (i := 11) (oi := Oper.mk _ _ _ _ _ _) rfl (by kernel_rfl) (by kernel_rfl) (by kernel_rfl) (by kernel_rfl) (by kernel_rfl) (fun _ _ _ h => h) (Or.inl ⟨by rfl, ?hy6⟩) hS ?rest6
    case hy6 => (intro w hSw; (try dsimp only at hSw); first | (go_simp; done) | (go_simp; with_reducible rfl))
    try simp only [Act.put, List.setIfInBounds_toArray, List.set_cons_zero, List.set_cons_succ]
    refine wpAnyLast_done (by kernel_rfl) ?_ _
    refine Straight.normal ?_
    have HB := I'.hb
    have b5 := I'.b5
    have c5 := b5.cell (i := 0) rfl
    gi_wp2_with (first
      | ((with_reducible refine gate_In (Op.store 3 (.tmp 5) (.tmp 22)) rfl ?_); refine ev_store1In (i := 0) HB b5 GE_g5 rfl 3 _ _ rfl rfl _ rfl (by simp) (by kernel_rfl) rfl ?_; intro w10 B10 HB10 K_w10 KO_w10))
    have p := PN.out
    have q := PG.out
    have Z := HI.out.sz
    refine ⟨(KO'.out.trans KO_w10.out).from _, fun k hk => (K_w10.out.2 k (fun c => by have := HXA.out k hk; omega)).trans (hbd.out.block k (HXA.out k hk).2), ⟨(K_w10.out.2 0 (by omega)).trans (hbd.out.block 0 (by omega)), (K_w10.out.2 h1 (by omega)).trans (hbd.out.block h1 (by omega)), Nat.le_trans HZ'.out K_w10.out.1⟩, I'.b3.other K_w10 p.1.1, I'.b4.other K_w10 p.1.2, ?_, HB10, Nat.le_trans I'.sz K_w10.out.1⟩
    rw [List.length_append, List.length_singleton]
    rw [hq7] at B10
    exact B10
  case done =>
    rintro D X ys W hD hX rfl hI hK
    have HB := hI.hb
    have c3 := hI.b3.cell (i := 0) rfl
    have b5 := hI.b5
    rw [← HNN.out] at b5
    have c5 := b5.cell (i := 0) rfl
    have HD := Aside0.mk hD
    have HKD := Aside0.mk hK
    have b4 := hI.b4
    have hee : ((N : Int) == (N : Int)) = true := beq_self_eq_true _
    clear hK hD hX hI
    gi_wp2_with (first
      | ((with_reducible refine gate_In (Op.store 4 (.tmp 4) (.tmp 26)) rfl ?_); refine ev_store1In (i := 0) HB b4 GE_g4 rfl 4 _ _ rfl rfl _ rfl (by simp) (by kernel_rfl) rfl ?_; intro w20 B20 HB20 K_w20 KO_w20))
    have HK20 := KO_w20.out.same D _ HKD.out rfl
    have hg := grownBy_putObj' w20 D (.deferred none)
    have hle : w.heap.size ≤ D := Nat.le_trans HBW.le HD.out
    have hr2 : ∀ r, some D = some r → ∃ o : Obj, w20.heap[r]? = some o ∧ o.isCells = false := fun r e => by
      cases e
      exact ⟨_, HK20, rfl⟩
    refine ⟨by simp, .inl ⟨_, _, rfl, run_takeDeferred HK20, ?_⟩⟩
    refine ⟨_, results_cell1 rfl _ _ g4 4 _ _ rfl (B20.kept hg hr2) Tryd.underlying4 rfl, ?_, (HB20.kept hg hle (fun r e => by cases e; exact Nat.le_refl _)).out⟩
    rfl
  case stop =>
    intro D c pre W hD hp hf
    exact hf.elim
end


/-! ### quarrylaw07_awake: function 28 -/
section
open Go.Proofs.YtadcgjmhhodnoaaDoorQ Go.Proofs.YtadcgjmhhodnoaaDoorM
theorem awk_row {W : World} {base : Nat} {v : Value} {x : Int} (h : W.ownsRow base 64 1 v 1 [.int .u64 x]) : ∃ g cap cur, v = .slice (some ⟨g, 0, none⟩) 1 cap ∧ Blk W g cur 64 ∧ cur[0]? = some (.int .u64 x) := by
  obtain (⟨_, h0⟩ | ⟨g, cap, cur, h1, _, h2, h3⟩) := row_openN h
  · cases h0
  · exact ⟨g, cap, cur, h1, h2, h3 0 _ rfl⟩
def quarrylaw07_awake.f : Option Bool := some true
set_option maxHeartbeats 4000000 in
set_option maxRecDepth 100000 in
theorem quarrylaw07_awake.walk (w : World) (hT : TabOk w) :
    Calls Tryd.prog 28 #[] w fun e w' => e = .returned (.bool true) ∧ Below w.heap.size w w' := by
  have HB := BelowH.refl w
  obtain ⟨s, hs⟩ : ∃ s : ByteArray, s = ⟨#[34, 97, 92, 34, 98, 34, 44, 99]⟩ := ⟨_, rfl⟩
  obtain ⟨s2, hs2⟩ : ∃ s : ByteArray, s = ⟨#[34]⟩ := ⟨_, rfl⟩
  obtain ⟨s3, hs3⟩ : ∃ s : ByteArray, s = ⟨#[34, 97, 10, 98, 34]⟩ := ⟨_, rfl⟩
  have HT := Aside0.mk hT
  have SZ : Aside0 (s.size ≤ 1099511627776) := ⟨by rw [hs]; decide⟩
  have MK : Aside0 (∀ w, Calls Tryd.prog 22 #[.string s] w fun e w' => ∃ v1_ : Value, e = .returned (.agg #[.int .i64 8, v1_]) ∧ w'.ownsRow w.heap.size 64 1 v1_ 1 [.int .u64 33] ∧ Below w.heap.size w w') := ⟨fun w => by
    have h := quotes_Marks.walk s w (by have := SZ.out; omega)
    rw [show wordsOf s.size (mkq s) = [33] by rw [hs]; decide +kernel, show nwords s.size = 1 by rw [hs]; rfl, show (s.size : Int) = 8 by rw [hs]; rfl] at h
    exact h⟩
  have IN : Aside0 (∀ w, Calls Tryd.prog 24 #[.string s] w fun e w' => ∃ v1_ : Value, e = .returned (.agg #[.int .i64 8, v1_]) ∧ w'.ownsRow w.heap.size 64 1 v1_ 1 [.int .u64 31] ∧ Below w.heap.size w w') := ⟨fun w => by
    have h := quotes_Inside.walk s w (by have := SZ.out; omega)
    rw [show wordsOf s.size (insq (mkq s)) = [31] by rw [hs]; decide +kernel, show nwords s.size = 1 by rw [hs]; rfl, show (s.size : Int) = 8 by rw [hs]; rfl] at h
    exact h⟩
  have O1 : Aside0 (∀ w, Calls Tryd.prog 26 #[.string s] w fun e w' => e = .returned (.bool false) ∧ Below w.heap.size w w') := ⟨fun w => quotes_Open.calls 1000 s false w (by rw [hs]; decide +kernel)⟩
  have O2 : Aside0 (∀ w, Calls Tryd.prog 26 #[.string s2] w fun e w' => e = .returned (.bool true) ∧ Below w.heap.size w w') := ⟨fun w => quotes_Open.calls 1000 s2 true w (by rw [hs2]; decide +kernel)⟩
  have CT : Aside0 (∀ w, TabOk w → Calls Tryd.prog 29 #[.string s3] w fun e w' => e = .returned (.int .i64 2) ∧ Below w.heap.size w w') := ⟨fun w h => quotes_Control.calls s3 2 w h (by rw [hs3]; decide +kernel)⟩
  have TL : Aside0 (textsL s = [(1, 5)]) := ⟨by rw [hs]; decide +kernel⟩
  have TD : Aside0 (∀ (g3 g1 : Nat) (w w1 : World), TextsO s w w1 g3 g1 → TabOk w → ∀ (gw : Nat) (w2 : World), Below w1.heap.size w1 w2 → Blk w2 gw #[.int .i64 1, .int .i64 5] 30 → Calls Tryd.prog 33 #[.func (.func 67) #[] #[.pointer (some ⟨g3, 0, none⟩), .pointer (some ⟨g1, 0, none⟩)], .slice (some ⟨gw, 0, none⟩) 1 1] w2 fun e w' => e = .returned (.bool true) ∧ Below w2.heap.size w2 w') := ⟨fun g3 g1 w w1 hO ht gw w2 hb B => by
    obtain ⟨A, cap, h1, h2, h3⟩ := hO.out
    have h := quarrylaw07_told.walk s SZ.out g3 g1 A cap w2 (h1.below hb) (Kd.C_below h2 hb) h3 (hO.b1.below hb) ((ht.step hO.hb.out).step hb) (some ⟨gw, 0, none⟩) (.inr ⟨gw, _, _, rfl, B, by
      rw [TL.out]
      intro i x hx
      cases i with
      | zero =>
        cases hx
        exact ⟨rfl, rfl⟩
      | succ i => cases hx⟩) (by rw [TL.out]; decide) 1
    rw [TL.out] at h
    exact h⟩
  have e1 := Aside0.mk hs
  have e2 := Aside0.mk hs2
  have e3 := Aside0.mk hs3
  clear hT hs hs2 hs3 SZ
  go_enter Tryd.func28, Tryd.ntmps28
  rw [← e1.out]
  go_upto_region 2 with (first
    | (go_at_call 22; refine (MK.out _).mono ?_; rintro e w3 ⟨v1, rfl, hrow1, hb3⟩; have R1 := Aside0.mk hrow1; have V1 := Aside0.mk (row_one hrow1); have HBn := HB.step hb3; have HK3 := Aside0.mk hb3; clear HB hb3 hrow1; have HB := HBn; clear HBn)
    | (go_at_call 24; refine (IN.out _).mono ?_; rintro e w4 ⟨v2, rfl, hrow2, hb4⟩; have R2 := Aside0.mk hrow2; have V2 := Aside0.mk (row_one hrow2); have HBn := HB.step hb4; have HK4 := Aside0.mk hb4; clear HB hb4 hrow2; have HB := HBn; clear HBn)
    | ((with_reducible refine gate_dst (N := 1) rfl ?_); refine ev_alloc HB rfl (#[.int .i64 0, .slice none 0 0]) 38 ?hr ?_; (case hr => first | (go_simp; done) | (go_simp; rfl)); intro g1 w5 G_g1 GE_g1 B_g1 HBn K_g1; clear HB; have HB := HBn; clear HBn)
    | ((with_reducible refine gate_dst (N := 2) rfl ?_); refine ev_alloc HB rfl (#[.int .i64 0, .slice none 0 0]) 38 ?hr ?_; (case hr => first | (go_simp; done) | (go_simp; rfl)); intro g2 w6 G_g2 GE_g2 B_g2 HBn K_g2; clear HB; have HB := HBn; clear HBn)
    | ((with_reducible refine gate_ (Op.store 38 (.tmp 1) (.tmp 3)) rfl ?_); refine ev_store HB B_g1' GE_g1 rfl 38 _ _ rfl rfl rfl (by kernel_rfl) rfl (by simp [Value.oneCell']; exact V1.out) ?_; intro w7 B7 HBn K_w7; clear HB; have HB := HBn; clear HBn)
    | ((with_reducible refine gate_ (Op.store 38 (.tmp 1) (.tmp 3)) rfl ?_); have B_g1' := B_g1.below K_g2.out; refine ev_store HB B_g1' GE_g1 rfl 38 _ _ rfl rfl rfl (by kernel_rfl) rfl (by simp [Value.oneCell']; exact V1.out) ?_; intro w7 B7 HBn K_w7; clear HB; have HB := HBn; clear HBn)
    | ((with_reducible refine gate_ (Op.store 38 (.tmp 2) (.tmp 4)) rfl ?_); have N12 : g2 ≠ g1 := (by have := B_g1.lt; have := G_g2.out; omega); have B_g2' := B_g2.other K_w7 N12; refine ev_store HB B_g2' GE_g2 rfl 38 _ _ rfl rfl rfl (by kernel_rfl) rfl (by simp [Value.oneCell']; exact V2.out) ?_; intro w8 B8 HBn K_w8; clear HB; have HB := HBn; clear HBn))
  have C7 := B7.other K_w8 (Ne.symm N12)
  obtain ⟨ga, ca, cu, rfl, RA, ha⟩ := awk_row (row_other (row_other (row_below (row_below (row_below R1.out HK4.out) K_g1.out) K_g2.out) B_g1' (by decide) K_w7) B_g2' (by decide) K_w8)
  obtain ⟨gb, cb, cv, rfl, RB, hb⟩ := awk_row (row_other (row_other (row_below (row_below R2.out K_g1.out) K_g2.out) B_g1' (by decide) K_w7) B_g2' (by decide) K_w8)
  have c10 := C7.cell (i := 0) rfl
  have c11 := C7.cell (i := 1) rfl
  have c20 := B8.cell (i := 0) rfl
  have c21 := B8.cell (i := 1) rfl
  have ca0 := RA.cell ha
  have cb0 := RB.cell hb
  have HTT := Aside0.mk (HT.out.step HB.out)
  clear B_g1 B_g2 B_g1' B_g2' K_g1 K_g2 G_g1 G_g2 GE_g1 GE_g2 K_w7 K_w8 R1 R2 V1 V2 HK3 HK4 B7 B8 C7 RA RB ha hb N12 HT
  go_wp2_with (first
    | (go_at_call 26; first
        | (refine (O1.out _).mono ?_; rintro e w11 ⟨rfl, hb11⟩; have HBn := HB.step hb11; have HTn := Aside0.mk (HTT.out.step hb11); clear HB hb11 HTT O1 c10 c11 c20 c21 ca0 cb0; have HB := HBn; clear HBn)
        | (rw [← e2.out]; refine (O2.out _).mono ?_; rintro e w12 ⟨rfl, hb12⟩; have HBn := HB.step hb12; have HTT := Aside0.mk (HTn.out.step hb12); clear HB hb12; have HB := HBn; clear HBn))
    | (go_at_call 29; rw [← e3.out]; refine (CT.out _ HTT.out).mono ?_; rintro e w13 ⟨rfl, hb13⟩; have HBn := HB.step hb13; have HT3 := Aside0.mk (HTT.out.step hb13); clear HB hb13; have HB := HBn; clear HBn)
    | (go_at_call 32; refine (quotes_Texts.calls s _ (by rw [e1.out]; decide)).mono ?_; rintro e w14 ⟨h3, h1, rfl, hO⟩; have HO := Aside0.mk hO; have HBn := HB.step hO.hb.out; clear HB hO; have HB := HBn; clear HBn)
    | (go_at_call 33; go_must (refine (TD.out _ _ _ _ HO.out HT3.out _ _ (below_alloc (Below.refl _ _) _) ⟨blk_new _ _⟩).mono ?_); rintro e w16 ⟨rfl, hb16⟩; have HBn := (HB.step (below_alloc (Below.refl _ _) _)).step hb16; clear HB hb16; have HB := HBn; clear HBn))
  go_ret
  exact ⟨rfl, HB.out⟩
theorem quarrylaw07_awake.calls (r : Bool) (w : World) (hT : TabOk w) (h : quarrylaw07_awake.f = some r) :
    Calls Tryd.prog 28 #[] w fun e w' => e = .returned (.bool r) ∧ Below w.heap.size w w' := by
  cases h
  exact quarrylaw07_awake.walk w hT
end


/-! ### quarryref00_CopyBits: function 34 -/
def quarryref00_CopyBits.l0 : Nat → List Int → Int → Int → List Int → Option (Int × List Int)
  | 0, _, _, _, _ => none
  | k + 1, x3, x4, x127000, x127001 => if x4 < (x127001.length : Int) then (if 0 ≤ x4 then (if x3.length < 17592186044416 then (quarryref00_CopyBits.l0 k (x3 ++ [rd x127001 x4]) (wrap64 (x4 + 1)) x127000 x127001) else (none)) else (none)) else (some (x127000, x3))
def quarryref00_CopyBits.f (k : Nat) (a0_0 : Int) (l0_1 : List Int) : Option (Int × List Int) := quarryref00_CopyBits.l0 k ([] : List Int) 0 a0_0 l0_1
theorem quarryref00_CopyBits.mono_l : ∀ k, (∀ y0 y1 y2 y3, LeO (quarryref00_CopyBits.l0 k y0 y1 y2 y3) (quarryref00_CopyBits.l0 (k + 1) y0 y1 y2 y3))
  | 0 => fun _ _ _ _ r h => by simp [quarryref00_CopyBits.l0] at h
  | k + 1 => by
    have ih0 := quarryref00_CopyBits.mono_l k
    · intro y0 y1 y2 y3
      unfold quarryref00_CopyBits.l0
      repeat' first
      | (with_reducible exact ih0 _ _ _ _)
      | (with_reducible exact LeO.refl _)
      | (with_reducible exact LeO.none _)
      | (with_reducible refine LeO.ite ?_ ?_)
      | (with_reducible refine LeO.bind ?_ (fun _ => ?_))
      | exact ih0 _ _ _ _
      | exact LeO.none _
      | refine LeO.ite ?_ ?_
      | refine LeO.bind ?_ (fun _ => ?_)
theorem quarryref00_CopyBits.mono : ∀ a0 a1 k, LeO (quarryref00_CopyBits.f k a0 a1) (quarryref00_CopyBits.f (k + 1) a0 a1) := by
  intro a0 a1 k
  have ih0 := quarryref00_CopyBits.mono_l k
  unfold quarryref00_CopyBits.f
  repeat' first
      | (with_reducible exact ih0 _ _ _ _)
      | (with_reducible exact LeO.refl _)
      | (with_reducible exact LeO.none _)
      | (with_reducible refine LeO.ite ?_ ?_)
      | (with_reducible refine LeO.bind ?_ (fun _ => ?_))
      | exact ih0 _ _ _ _
      | exact LeO.none _
      | refine LeO.ite ?_ ?_
      | refine LeO.bind ?_ (fun _ => ?_)
set_option maxHeartbeats 8000000 in
set_option maxRecDepth 100000 in
theorem quarryref00_CopyBits.calls (k : Nat) (a0_0 : Int) (A0_1 : Option Addr) (c0_1 : Nat) (l0_1 : List Int) (r1 : Int) (r2 : List Int) (w : World) (hr0_1 : Kd.C (Kd.int .u64) w A0_1 l0_1.length l0_1) (hc0_1 : l0_1.length ≤ c0_1) (h : quarryref00_CopyBits.f k a0_0 l0_1 = some (r1, r2)) :
    Calls Tryd.prog 34 #[.agg #[.int .i64 a0_0, .slice A0_1 l0_1.length c0_1]] w fun e w' => ∃ v1_ : Value, e = .returned (.agg #[.int .i64 r1, v1_]) ∧ Kd.R (Kd.int .u64) 64 w' w.heap.size (fun _ => True) v1_ r2 ∧ Below w.heap.size w w' := by
  have hu38 := Tryd.underlying38
  have HR0_1 := Aside0.mk hr0_1
  have HC0_1 := Aside0.mk hc0_1
  clear hr0_1 hc0_1
  have HB := Aside0.mk (Below.refl w.heap.size w)
  have H : (quarryref00_CopyBits.l0 k ([] : List Int) 0 a0_0 l0_1) = some (r1, r2) := h
  clear h
  have H' := Aside0.mk H
  clear H
  go_enter Tryd.func34, Tryd.ntmps34
  go_wp2_with (first | ((with_reducible refine gate_dst (N := 1) rfl ?_); refine box_event ?hg (N := 1) ?hd (cs := #[.int .i64 a0_0, .slice A0_1 l0_1.length c0_1]) (t := 38) ?hr ?_; (case hd => rfl); (case hg => rfl); (case hr => first | (go_simp; done) | (go_simp; rfl)); intro gb126 hg w2 hbox hb; have n0_ := Aside0.mk (below_step (by repeat (first | (with_reducible first | exact HB.out | apply below_alloc | apply pw_below_drewN | apply below_drew1) | exact HB.out)) hb); have n1_ := Aside0.mk (hbox); have n2_ := Aside0.mk ((by rw [hg]; exact (below_size (by repeat (first | (with_reducible first | exact HB.out | apply below_alloc | apply pw_below_drewN | apply below_drew1) | exact HB.out))) : w.heap.size ≤ gb126)); have n3_ := Aside0.mk ((by rw [hg]; exact (below_size (by repeat (first | (with_reducible first | exact HB.out | apply below_alloc | apply pw_below_drewN | apply below_drew1) | exact HB.out))) : w.heap.size ≤ gb126)); clear HB; have HB := n0_; have BK126 := n1_; have GW126 := n2_; have GE126 := n3_; clear n0_ n1_ n2_ n3_; clear hb hbox hg) | ((with_reducible refine gate_dst (N := 2) rfl ?_); refine box_event ?hg (N := 2) ?hd (cs := #[.int .i64 0, .slice none 0 0]) (t := 38) ?hr ?_; (case hd => rfl); (case hg => rfl); (case hr => first | (go_simp; done) | (go_simp; rfl)); intro gb127 hg w3 hbox hb; have n0_ := Aside0.mk (blk_below (g := gb126) (o := .cells #[.int .i64 a0_0, .slice A0_1 l0_1.length c0_1] 38 (0, 0)) (by (with_reducible repeat (first | refine blk_drewN ?_ _ | refine blk_drew ?_ | refine blk_alloc ?_ _)); exact BK126.out) hb); have n1_ := Aside0.mk (below_step (by repeat (first | (with_reducible first | exact HB.out | apply below_alloc | apply pw_below_drewN | apply below_drew1 | refine below_set ?_ GE126.out) | exact HB.out)) hb); have n2_ := Aside0.mk (hbox); have n3_ := Aside0.mk ((by rw [hg]; exact (below_size (by repeat (first | (with_reducible first | exact HB.out | apply below_alloc | apply pw_below_drewN | apply below_drew1 | refine below_set ?_ GE126.out) | exact HB.out))) : w.heap.size ≤ gb127)); have n4_ := Aside0.mk ((by rw [hg]; exact (below_size (by repeat (first | (with_reducible first | exact HB.out | apply below_alloc | apply pw_below_drewN | apply below_drew1 | refine below_set ?_ GE126.out) | exact HB.out))) : w.heap.size ≤ gb127)); have n5_ := Aside0.mk ((by rw [hg]; exact Nat.ne_of_lt (blk_lt (g := gb126) (o := .cells #[.int .i64 a0_0, .slice A0_1 l0_1.length c0_1] 38 (0, 0)) (by (with_reducible repeat (first | refine blk_drewN ?_ _ | refine blk_drew ?_ | refine blk_alloc ?_ _)); exact BK126.out)) : gb126 ≠ gb127)); have n6_ := Aside0.mk ((by rw [hg]; exact Nat.ne_of_gt (blk_lt (g := gb126) (o := .cells #[.int .i64 a0_0, .slice A0_1 l0_1.length c0_1] 38 (0, 0)) (by (with_reducible repeat (first | refine blk_drewN ?_ _ | refine blk_drew ?_ | refine blk_alloc ?_ _)); exact BK126.out)) : gb127 ≠ gb126)); clear BK126; clear HB; have BK126 := n0_; have HB := n1_; have BK127 := n2_; have GW127 := n3_; have GE127 := n4_; have NB126_127 := n5_; have NB127_126 := n6_; clear n0_ n1_ n2_ n3_ n4_ n5_ n6_; clear hb hbox hg))
  go_loopg [3, 4] k (fun kq v3 v4 w' => ∃ (x3_1 : List Int) (x4_1 : Int), v4 = .int .i64 x4_1 ∧ Aside0 (quarryref00_CopyBits.l0 kq x3_1 x4_1 a0_0 l0_1 = some (r1, r2)) ∧ Aside0 (kq ≤ k) ∧ Aside0 (Kd.R (Kd.int .u64) 64 w' w.heap.size (fun _ => True) v3 x3_1) ∧ Aside0 (w'.heap[gb126]? = some (.cells #[.int .i64 a0_0, (.slice A0_1 l0_1.length c0_1)] 38 (0, 0))) ∧ Aside0 (w'.heap[gb127]? = some (.cells #[.int .i64 0, (.slice none 0 0)] 38 (0, 0))) ∧ Aside0 (Below w.heap.size w w'))
  case atStart => exact ⟨(([] : List Int)), (0), (by first | rfl | (simp; done) | (simp [*]; done)), H', ⟨Nat.le_refl _⟩, ⟨by first | exact Kd.R_nil _ _ _ _ _ | exact Kd.N_nil _ _ _ _ _ | exact Kd.V_nil _ _ _ _ _ | exact Kd.Q_nil _ _ _ _ _ | exact Kd.S_nil _ _ _ _ _⟩, ⟨by (with_reducible repeat (first | refine blk_drewN ?_ _ | refine blk_drew ?_ | refine blk_alloc ?_ _)); exact BK126.out⟩, ⟨by (with_reducible repeat (first | refine blk_drewN ?_ _ | refine blk_drew ?_ | refine blk_alloc ?_ _)); exact BK127.out⟩, ⟨by repeat (first | (with_reducible first | exact HB.out | apply below_alloc | apply pw_below_drewN | apply below_drew1 | refine below_set ?_ GE126.out | refine below_set ?_ GE127.out) | exact HB.out)⟩⟩
  case round =>
    clear H'
    try clear p2
    try clear c3
    obtain ⟨x3_1, x4_1, rfl, HA, HK1, HO_3, BK126, BK127, HB⟩ := hrel
    cases gk with
    | zero => exact absurd HA.out (by simp [quarryref00_CopyBits.l0])
    | succ k1 =>
      have H := HA.out
      clear HA
      simp only [quarryref00_CopyBits.l0] at H
      by_cases c4 : x4_1 < (l0_1.length : Int)
      · rw [if_pos c4] at H
        have c4b0 : decide (x4_1 < (l0_1.length : Int)) = true := decide_eq_true c4
        clear c4
        by_cases c5 : 0 ≤ x4_1
        · rw [if_pos c5] at H
          have c5b0 : decide (0 ≤ x4_1) = true := decide_eq_true c5
          clear c5
          by_cases c6 : x3_1.length < 17592186044416
          · rw [if_pos c6] at H
            have LMc6 := Aside0.mk c6
            clear c6
            obtain ⟨y129, hy129⟩ : ∃ y_ : List Int, y_ = (x3_1 ++ [rd l0_1 x4_1]) := ⟨_, rfl⟩
            replace H : (quarryref00_CopyBits.l0 k1 y129 (wrap64 (x4_1 + 1)) a0_0 l0_1) = some (r1, r2) := by first | (rw [hy129]; with_reducible exact H) | (have H2_ := (Option.bind_some _ _).symm.trans H; rw [hy129]; with_reducible exact H2_) | (have H2_ := (Option.bind_some _ _).symm.trans H; with_reducible exact H2_) | with_reducible exact H | (rw [hy129]; exact H) | exact H
            have Ny129 := Aside0.mk hy129
            clear hy129
            have H' := Aside0.mk H
            clear H
            have hnb7 := NB126_127.out
            have hnc7 := NB127_126.out
            have hcz8_0 : wr.cell? ⟨gb126, 0, none⟩ = some (.int .i64 a0_0) := (blk_cell BK126.out 0).trans rfl
            have hcz8_1 : wr.cell? ⟨gb126, 1, none⟩ = some (.slice A0_1 l0_1.length c0_1) := (blk_cell BK126.out 1).trans rfl
            have hfz8_0 := blk_frozen BK126.out 0
            have hfz8_1 := blk_frozen BK126.out 1
            have p128 : 0 ≤ (x4_1 : Int) := of_decide_eq_true (by first | (with_reducible assumption) | assumption)
            have q128 : x4_1 < (l0_1.length : Int) := of_decide_eq_true (by first | (with_reducible assumption) | assumption)
            obtain ⟨ad128, e128, hx128_0⟩ := Kd.at_int HR0_1.out x4_1 p128 q128
            cases e128
            replace hx128_0 := (HB.out.cell (World.block_lt_of_cell? w _ hx128_0)).trans hx128_0
            replace p128 := eq_true p128
            replace q128 := eq_true q128
            go_wp2_with (first | ((with_reducible refine gate_builtin (b := .append) (xs := #[.tmp 12, .tmp 18]) rfl ?_); at_builtin; refine Kd.R_append (Kd.int .u64) (w0 := w) w.heap.size rfl (.tmp 12) (.tmp 18) 36 64 (.int .u64 0) 8 rfl Tryd.underlying36 info64 rfl (by decide) (by omega) u3 x3_1 (rd l0_1 x4_1) [.int .u64 (rd l0_1 x4_1)] (fun _ => True) (fun _ => False) rfl rfl ?aP (fun _ hk => hk.elim) ?aF ?aO ?aB ?aS ?aL ?_; (case aP => exact rfl); (case aB => exact (by repeat (first | (with_reducible first | exact HB.out | apply below_alloc | apply pw_below_drewN | apply below_drew1 | refine below_set ?_ GE126.out | refine below_set ?_ GE127.out) | exact HB.out))); (case aF => exact (fun _ _ => trivial)); (case aO => exact (by (with_reducible repeat (first | apply Kd.R_alloc | apply Kd.R_drewN | apply Kd.R_drew)); exact HO_3.out)); (case aS => exact (below_size (by repeat (first | (with_reducible first | exact HB.out | apply below_alloc | apply pw_below_drewN | apply below_drew1 | refine below_set ?_ GE126.out | refine below_set ?_ GE127.out) | exact HB.out)))); (case aL => have := LMc6.out; omega); intro v130 w9 ho hb hg hat; rw [← Ny129.out] at ho; have n0_ := Aside0.mk (blk_grown (g := gb126) (o := .cells #[.int .i64 a0_0, .slice (some ad128) l0_1.length c0_1] 38 (0, 0)) (by (with_reducible repeat (first | refine blk_drewN ?_ _ | refine blk_drew ?_ | refine blk_alloc ?_ _)); exact BK126.out) hg (Kd.R_ne HO_3.out BK126.out (by decide))); have n1_ := Aside0.mk (blk_grown (g := gb127) (o := .cells #[.int .i64 0, .slice none 0 0] 38 (0, 0)) (by (with_reducible repeat (first | refine blk_drewN ?_ _ | refine blk_drew ?_ | refine blk_alloc ?_ _)); exact BK127.out) hg (Kd.R_ne HO_3.out BK127.out (by decide))); have n2_ := Aside0.mk (hb); have n3_ := Aside0.mk (ho); clear BK126; clear BK127; clear HB; clear HO_3; have BK126 := n0_; have BK127 := n1_; have HB := n2_; have HO131 := n3_; clear n0_ n1_ n2_ n3_; clear ho hb hg hat))
            go_roundg k1
            case measure => have := HK1.out; omega
            case rel => exact ⟨(y129), (wrap64 (x4_1 + 1)), (by first | rfl | (simp; done) | (simp [*]; done)), H', ⟨by have := HK1.out; omega⟩, ⟨by (with_reducible repeat (first | apply Kd.R_alloc | apply Kd.R_drewN | apply Kd.R_drew)); exact HO131.out⟩, ⟨by (with_reducible repeat (first | refine blk_drewN ?_ _ | refine blk_drew ?_ | refine blk_alloc ?_ _)); exact BK126.out⟩, ⟨by (with_reducible repeat (first | refine blk_drewN ?_ _ | refine blk_drew ?_ | refine blk_alloc ?_ _)); exact BK127.out⟩, ⟨by repeat (first | (with_reducible first | exact HB.out | apply below_alloc | apply pw_below_drewN | apply below_drew1 | refine below_set ?_ GE126.out | refine below_set ?_ GE127.out) | exact HB.out)⟩⟩
          · rw [if_neg c6] at H
            exact absurd H (by simp)
        · rw [if_neg c5] at H
          exact absurd H (by simp)
      · rw [if_neg c4] at H
        have c4b0 : decide (x4_1 < (l0_1.length : Int)) = false := decide_eq_false c4
        clear c4
        simp only [Option.some.injEq, Prod.mk.injEq] at H
        obtain ⟨rfl, rfl⟩ := H
        have hnb10 := NB126_127.out
        have hnc10 := NB127_126.out
        have hcz11_0 : wr.cell? ⟨gb126, 0, none⟩ = some (.int .i64 a0_0) := (blk_cell BK126.out 0).trans rfl
        have hcz11_1 : wr.cell? ⟨gb126, 1, none⟩ = some (.slice A0_1 l0_1.length c0_1) := (blk_cell BK126.out 1).trans rfl
        have hfz11_0 := blk_frozen BK126.out 0
        have hfz11_1 := blk_frozen BK126.out 1
        obtain ⟨Ao12, co12, eo12⟩ := Kd.R_slice HO_3.out
        subst eo12
        have hcz13_0 : wr.cell? ⟨gb127, 0, none⟩ = some (.int .i64 0) := (blk_cell BK127.out 0).trans rfl
        have hcz13_1 : wr.cell? ⟨gb127, 1, none⟩ = some (.slice none 0 0) := (blk_cell BK127.out 1).trans rfl
        have hfz13_0 := blk_frozen BK127.out 0
        have hfz13_1 := blk_frozen BK127.out 1
        go_wp2
        refine bodyPost_ret (results_cell_row rfl _ _ gb127 38 #[.int .i64 a0_0, .slice Ao12 x3_1.length co12] (0, 0) _ rfl (by (with_reducible repeat (first | refine blk_drewN ?_ _ | refine blk_drew ?_ | refine blk_alloc ?_ _)); refine blk_put (cs := #[.int .i64 a0_0, .slice none 0 0]) ?_ 1 _ rfl; (with_reducible repeat (first | refine blk_drewN ?_ _ | refine blk_drew ?_ | refine blk_alloc ?_ _)); refine blk_put (cs := #[.int .i64 0, .slice none 0 0]) ?_ 0 _ rfl; (with_reducible repeat (first | refine blk_drewN ?_ _ | refine blk_drew ?_ | refine blk_alloc ?_ _)); exact BK127.out) Tryd.underlying38 rfl (by kernel_rfl)) rfl ?_
        exact ⟨_, by first | rfl | (simp [errW_none, errW_some] <;> rfl) | (simp [*, errW_none, errW_some] <;> rfl), by (with_reducible repeat (first | apply Kd.R_alloc | apply Kd.R_drewN | apply Kd.R_drew)); exact Kd.R_mono (Kd.R_far (p := ⟨gb127, 1, none⟩) (Kd.R_far (p := ⟨gb127, 0, none⟩) (Kd.R_types HO_3.out BK127.out (by decide)) (fun _ hk => hk.2) (.int .i64 a0_0)) (fun _ hk => hk.2) (.slice Ao12 x3_1.length co12)) (fun _ hk => trivial), by repeat (first | (with_reducible first | exact HB.out | apply below_alloc | apply pw_below_drewN | apply below_drew1 | refine below_set ?_ GE126.out | refine below_set ?_ GE127.out) | exact HB.out)⟩

/-! ### quarrykit_mark: function 89 -/
def quarrykit_mark.f (a0 : Int) (a1 : Int) : Option (Int) := some (wrap64 ((wrap64 (1000003 * (wrap64 (a0 + 7)))) + a1))
set_option maxHeartbeats 8000000 in
set_option maxRecDepth 100000 in
theorem quarrykit_mark.calls (a0 : Int) (a1 : Int) (r : Int) (w : World) (h : quarrykit_mark.f a0 a1 = some r) :
    Calls Tryd.prog 89 #[.int .i64 a0, .int .i64 a1] w fun e w' => e = .returned (.int .i64 r) ∧ Drawn0 w w' := by
  have H : (some (wrap64 ((wrap64 (1000003 * (wrap64 (a0 + 7)))) + a1))) = some r := h
  clear h
  obtain rfl := Option.some.inj H
  go_enter Tryd.func89, Tryd.ntmps89
  go_wp2
  go_ret
  exact ⟨by first | rfl | (simp; done) | (simp [*]; done), by repeat (first | exact Drawn0.refl _ | apply Drawn0.step)⟩

end Go.Proofs.YtadcgjmhhodnoaaDoor.PQ
