-- Written by a program (myprint.py, over the kit's print) for this claim. Not trusted: Lean checks it.
import Derived.Test.YtoimelcdhkmceaaPHx0
import Derived.Test.YtoimelcdhkmceaaPHx1
namespace Go.Proofs.Ytoimelcdhkmceaa.PH
open Go.RowKit Go.Proofs.YtoimelcdhkmceaaW.PrintWords Go.Proofs.YtoimelcdhkmceaaW.PrintLast Go.Proofs.YtoimelcdhkmceaaW.PrintMore
attribute [local go_sem] max2_int min2_int max_two min_two max_three min_three max_four min_four   -- for this text's walks alone
set_option linter.unusedVariables false
set_option linter.unusedSimpArgs false

/-! ### quarrylaw02_BlockWhole: function 9 -/
section
open Go.Proofs.YtoimelcdhkmceaaQ Go.Proofs.YtoimelcdhkmceaaM Go.Shelf
attribute [local go_sem] Oper.semAt_some
/-- The first bytes of a text, as cells. -/
def headB (s : ByteArray) (k : Nat) : List Value := nums .u8 ((bytesOf s).take k)
theorem headB_succ {s : ByteArray} {k : Nat} (h : k < s.size) : headB s (k + 1) = headB s k ++ [.int .u8 (bt s (k : Int))] := by
  have hl : k < (bytesOf s).length := by rw [bytesOf_length]; exact h
  unfold headB nums
  rw [List.take_succ_eq_append_getElem hl, List.map_append]
  congr 2
  have h1 := rd_bytesOf s (k : Int)
  unfold rd at h1
  rw [Int.toNat_natCast, List.getD_eq_getElem?_getD, List.getElem?_eq_getElem hl] at h1
  rw [← h1]
  rfl
theorem strOfNums_bytesOf (s : ByteArray) : strOfNums (bytesOf s) = s := by
  unfold strOfNums bytesOf
  rw [List.map_map]
  have : ((fun n : Int => UInt8.ofNat n.toNat) ∘ fun (b : UInt8) => (b.toNat : Int)) = id := by
    funext b
    simp
  rw [this, List.map_id]
/-- Between two blocks. -/
structure WholeI (s : ByteArray) (w : World) (L : List (Nat × Array Value × Nat)) (m g4 g5 g6 : Nat) {n : Nat} (pre : List (Fin n)) (W : World) : Prop where mk ::
  bs : Blks L W
  b4 : Blk W g4 #[.bool false] 4
  b6 : Blk W g6 #[.int .i64 (pre.length : Int)] 3
  row : ∃ v, Blk W g5 #[v] 50 ∧ W.ownsRow m 5 1 v (min (64 * pre.length) s.size) (headB s (min (64 * pre.length) s.size))
  hb : BelowH w W
  sz : m ≤ W.heap.size
theorem WholeI.kept {s : ByteArray} {w W W' : World} {L : List (Nat × Array Value × Nat)} {m g4 g5 g6 n : Nat} {pre : List (Fin n)} (h : WholeI s w L m g4 g5 g6 pre W) {B : Nat} (hB : w.heap.size ≤ B) {row : Option Nat} (hg : W.grownBy W' row) (hr : ∀ r, row = some r → B ≤ r ∧ ∃ o : Obj, W.heap[r]? = some o ∧ o.isCells = false) : WholeI s w L m g4 g5 g6 pre W' := by
  have hr' : ∀ r, row = some r → ∃ o : Obj, W.heap[r]? = some o ∧ o.isCells = false := fun r e => (hr r e).2
  obtain ⟨v, b5, hrow⟩ := h.row
  exact ⟨h.bs.kept hg hr', h.b4.kept hg hr', h.b6.kept hg hr', ⟨v, b5.kept hg hr', row_kept hrow hg hr'⟩, h.hb.kept hg hB (fun r e => (hr r e).1), Nat.le_trans h.sz hg.size⟩
theorem w64_mulW (k : Nat) (h : k ≤ 1125899906842624) : wrap64 (64 * (k : Int)) = 64 * (k : Int) := by unfold wrap64; omega
theorem w64_succW (k : Nat) (h : k ≤ 1125899906842624) : wrap64 ((k : Int) + 1) = (k : Int) + 1 := by unfold wrap64; omega
theorem lt_nwordsW {k n : Nat} (h : k < nwords n) (hn : n ≤ 281474976702464) : k ≤ 1125899906842624 := by unfold nwords at h; omega
theorem prefix_lastW {n : Nat} {pre : List (Fin n)} {x : Fin n} (h : pre ++ [x] <+: List.finRange n) : x.val = pre.length := by
  obtain ⟨t, ht⟩ := h
  have h1 := congrArg (fun l => (l[pre.length]?).map (·.val)) ht
  have hl : pre.length < n := by
    have := congrArg List.length ht
    simp at this
    omega
  simp [hl] at h1
  exact h1
theorem cutN_nat (s : ByteArray) (k : Nat) (h : 64 * k < s.size) : cutN s (64 * (k : Int)) = ((min 64 (s.size - 64 * k) : Nat) : Int) := by
  unfold cutN
  by_cases g : 64 ≤ s.size - 64 * k
  · rw [if_neg (by omega), if_pos (by omega)]; omega
  · rw [if_neg (by omega), if_neg (by omega)]; omega
theorem cutF_in (s : ByteArray) (pad : Int) {k i : Nat} (h : 64 * k + i < s.size) : cutF s (64 * (k : Int)) pad i = bt s ((64 * k + i : Nat) : Int) := by
  unfold cutF
  rw [if_pos (by omega)]
  congr 1
theorem cutF_out (s : ByteArray) (pad : Int) {k i : Nat} (h : s.size ≤ 64 * k + i) : cutF s (64 * (k : Int)) pad i = pad := by
  unfold cutF
  rw [if_neg (by omega)]
def quarrylaw02_BlockWhole.Pure : Prop := True
set_option maxHeartbeats 4000000 in
set_option maxRecDepth 100000 in
theorem quarrylaw02_BlockWhole.walk (_ : quarrylaw02_BlockWhole.Pure) (s : ByteArray) (pad : Int) (w : World) (w0 : s.size ≤ 140737488351232) (_ : (Lit.int .u8 pad).wf = true) :
    Calls Try.prog 9 #[.string s, .int .u8 pad] w fun e w' => e = .returned (.bool true) ∧ Below w.heap.size w w' := by
  have hs : s.size ≤ 281474976702464 := by omega
  have HR := Aside0.mk w0
  clear w0
  obtain ⟨F, hF⟩ : ∃ F, F = Fence.wide := ⟨_, rfl⟩
  have HF := Aside0.mk hF
  refine (callsIn_wide (n := 9)).1 ?_
  rw [← hF]
  clear hF
  have hro := wide_round HF
  have HB := BelowH.refl w
  have f2 := wide_fn HF 47
  have f3 := wide_fn HF 19
  have f4 := wide_fn HF 37
  have f5 := wide_fn HF 31
  have QF : ∀ (w : World) (f : Fn) (a c : Array Value), (binOp .eql 42 (.func f a c) .nilFunc).run Try.prog w = .ok (.bool false) w := fun w f a c => run_eql_func_nil (ps := #[69]) (rs := #[]) (vd := false) _ (by kernel_rfl) w f a c
  refine callsIn_of_wp_marks Try.func9 rfl (wide_fn HF _) ?_ hro
  simp only [Try.ntmps9, List.size_toArray, List.length_cons, List.length_nil, Nat.reduceAdd, Nat.reduceSub, Array.replicate_succ, Array.replicate_zero, List.push_toArray, List.append_toArray, List.nil_append, List.cons_append]
  gi_upto_region 1 with (first
    | ((with_reducible refine gate_dstIn (N := 2) rfl ?_); refine ev_allocIn HB rfl rfl (#[.string s]) 9 ?hr ?_; (case hr => first | (go_simp; done) | (go_simp; rfl)); intro g2 w2 G_g2 GE_g2 B_g2 HBn K_g2 KO_w2; clear HB; have HB := HBn; clear HBn)
    | ((with_reducible refine gate_dstIn (N := 3) rfl ?_); refine ev_allocIn HB rfl rfl (#[.int .u8 pad]) 5 ?hr ?_; (case hr => first | (go_simp; done) | (go_simp; rfl)); intro g3 w3 G_g3 GE_g3 B_g3 HBn K_g3 KO_w3; clear HB; have HB := HBn; clear HBn)
    | ((with_reducible refine gate_dstIn (N := 4) rfl ?_); refine ev_allocIn HB rfl rfl (#[.bool false]) 4 ?hr ?_; (case hr => first | (go_simp; done) | (go_simp; rfl)); intro g4 w4 G_g4 GE_g4 B_g4 HBn K_g4 KO_w4; clear HB; have HB := HBn; clear HBn))
  gi_upto_region 5 with (first
    | (gi_at_call 37; refine (callsIn_of HF (quarrylaw02_awake.calls _)).mono ?_; rintro e wa ⟨rfl, hba⟩; have HKa := Aside0.mk hba; have HBn := HB.step hba; clear HB hba; have HB := HBn; clear HBn)
    | ((with_reducible refine gate_dstIn (N := 5) rfl ?_); refine ev_allocIn HB rfl rfl (#[.slice none 0 0]) 50 ?hr ?_; (case hr => first | (go_simp; done) | (go_simp; rfl)); intro g5 w5 G_g5 GE_g5 B_g5 HBn K_g5 KO_w5; clear HB; have HB := HBn; clear HBn)
    | ((with_reducible refine gate_dstIn (N := 6) rfl ?_); refine ev_allocIn HB rfl rfl (#[.int .i64 0]) 3 ?hr ?_; (case hr => first | (go_simp; done) | (go_simp; rfl)); intro g6 w6 G_g6 GE_g6 B_g6 HBn K_g6 KO_w6; clear HB; have HB := HBn; clear HBn)
    | ((with_reducible refine gate_In (Op.store 3 (.tmp 6) (.const (.int .i64 0))) rfl ?_); refine ev_store1In (i := 0) HB B_g6 GE_g6 rfl 3 _ _ rfl rfl (.int .i64 0) rfl (by simp) (by kernel_rfl) rfl ?_; intro w7 B6 HBn K_w7 KO_w7; clear HB; have HB := HBn; clear HBn))
  have s3 := K_g3.out.size
  have s4 := K_g4.out.size
  have sa := HKa.out.size
  have s5 := K_g5.out.size
  have s6 := K_g6.out.size
  have s7 := K_w7.out.1
  have l2 := B_g2.lt
  have l3 := B_g3.lt
  have l4 := B_g4.lt
  have l5 := B_g5.lt
  have l6 := B6.lt
  have o3 := G_g3.out
  have o4 := G_g4.out
  have o5 := G_g5.out
  have o6 := G_g6.out
  have ka := below_step K_g5.out K_g6.out
  have k4 := below_step HKa.out ka
  have k3 := below_step K_g4.out k4
  have D2 := (B_g2.below (below_step K_g3.out k3)).other K_w7 (by omega)
  have D3 := (B_g3.below k3).other K_w7 (by omega)
  have D4 := (B_g4.below k4).other K_w7 (by omega)
  have D5 := (B_g5.below K_g6.out).other K_w7 (by omega)
  have N := Aside0.mk (show g2 < g4 ∧ g3 < g4 ∧ g4 < g5 ∧ g5 < g6 ∧ g6 < w7.heap.size by omega)
  clear s3 s4 sa s5 s6 s7 l2 l3 l4 l5 l6 o3 o4 o5 o6 ka k4 k3 K_g2 K_g3 K_g4 HKa K_g5 K_g6 K_w7 B_g2 B_g3 B_g4 B_g5 B_g6 G_g2 G_g3 G_g4 G_g5 G_g6 KO_w2 KO_w3 KO_w4 KO_w5 KO_w6 KO_w7
  have c2 := D2.cell (i := 0) rfl
  have c3 := D3.cell (i := 0) rfl
  gi_upto_region 6 with (first
    | (gi_at_call 31; refine (callsIn_of HF (block_Blocks.calls s pad _)).mono ?_; rintro e w8 ⟨h1, h2, rfl, GE1, GE2, A1, A2, HB8⟩))
  obtain ⟨L, hL⟩ : ∃ L : List (Nat × Array Value × Nat), L = [(g2, #[.string s], 9), (g3, #[.int .u8 pad], 5), (h1, #[.string s], 9), (h2, #[.int .u8 pad], 5)] := ⟨_, rfl⟩
  have CL : Blks L w8 := ⟨by
    rw [hL]
    intro b m
    simp at m
    rcases m with rfl | rfl | rfl | rfl
    · exact D2.below HB8.out
    · exact D3.below HB8.out
    · exact A1
    · exact A2⟩
  have C4 := D4.below HB8.out
  have C5 := D5.below HB8.out
  have C6 := B6.below HB8.out
  have L4 := C4.lt
  have L5 := C5.lt
  have L6 := C6.lt
  have LL : ∀ b ∈ L, b.1 < w8.heap.size := fun b m => (CL.out b m).lt
  have LN : ∀ b ∈ L, b.1 ≠ g4 ∧ b.1 ≠ g5 ∧ b.1 ≠ g6 := by
    have := N.out
    rw [hL]
    intro b m
    simp at m
    rcases m with rfl | rfl | rfl | rfl <;> (dsimp only; omega)
  have M2 : (g2, #[.string s], 9) ∈ L := by rw [hL]; simp
  have M3 : (g3, #[.int .u8 pad], 5) ∈ L := by rw [hL]; simp
  have M4 : (h1, #[.string s], 9) ∈ L := by rw [hL]; simp
  have M5 : (h2, #[.int .u8 pad], 5) ∈ L := by rw [hL]; simp
  have HBW := HB.step HB8.out
  have LH1 := A1.lt
  have LH2 := A2.lt
  have N45 : g4 ≠ g5 := by have := N.out; omega
  have N46 : g4 ≠ g6 := by have := N.out; omega
  have N56 : g5 ≠ g6 := by have := N.out; omega
  have PL := Aside0.mk (And.intro LL LN)
  have PM := Aside0.mk (And.intro M2 (And.intro M3 (And.intro M4 M5)))
  clear D2 D3 D4 D5 B6 HB8 HB c2 c3 hL LL LN M2 M3 M4 M5 N
  gi_wp2
  clear QF
  refine wpIn_rangeFunc_ownH hro (by decide) (gf := 47) (lb := #[.pointer (some ⟨h1, 0, none⟩), .pointer (some ⟨h2, 0, none⟩)]) rfl f2 (enters_of Try.func47 (by kernel_rfl) rfl)
    (block_Blocks_1.stops F HF (9 - 1) (by decide) h1 h2 s pad hs w8 A1 A2) Keep2.trans (fun W l o o' hl ho hc hw => Keep2.putObj LH1 LH2 W l o o' hl ho hc hw) (Below.refl _ _) (fun _ => rfl)
    (WholeI s w L w8.heap.size g4 g5 g6) (fun c pre W => c = .ret ∧ ¬ pre <+: List.finRange (nwords s.size))
    (fun pre A B row hs hg hr => hs.kept HBW.le hg hr)
    (fun c pre A B row hs hg hr => hs)
    ⟨CL, C4, C6, ⟨_, C5, by simp [headB, nums]; exact World.ownsRow_nil _ _ _ _⟩, HBW, Nat.le_refl _⟩
    (fun x a' W => ∃ gb, w8.heap.size ≤ gb ∧ Blk W gb (blkA (cutF s (64 * ((x.val : Nat) : Int)) pad)) 26 ∧ a' = { tmps := #[.string s, .int .u8 pad, .pointer (some ⟨g2, 0, none⟩), .pointer (some ⟨g3, 0, none⟩), .pointer (some ⟨g4, 0, none⟩), .pointer (some ⟨g5, 0, none⟩), .pointer (some ⟨g6, 0, none⟩), (.func (.func 47) #[] #[.pointer (some ⟨h1, 0, none⟩), .pointer (some ⟨h2, 0, none⟩)]), .int .i64 (64 * ((x.val : Nat) : Int)), .pointer (some ⟨gb, 0, none⟩), undef, undef, undef, .bool true, .bool false, .string s, .int .u8 pad, (.func (.func 47) #[] #[.pointer (some ⟨h1, 0, none⟩), .pointer (some ⟨h2, 0, none⟩)]), (.func (.func 47) #[] #[.pointer (some ⟨h1, 0, none⟩), .pointer (some ⟨h2, 0, none⟩)]), .bool false, (.func (.func 47) #[] #[.pointer (some ⟨h1, 0, none⟩), .pointer (some ⟨h2, 0, none⟩)]), .int .i64 (64 * ((x.val : Nat) : Int)), .agg (blkA (cutF s (64 * ((x.val : Nat) : Int)) pad)), undef, undef, undef, undef, undef, undef, undef, undef, undef, undef, undef, undef, undef, undef, undef, undef, undef, undef, undef, undef, undef, undef, undef, undef, undef, undef, undef, undef, undef, undef, undef, undef, undef, undef, undef, undef, undef, undef, undef, undef, undef, undef, undef, undef, undef, undef, undef, undef], defers := [] })
    (fun x a' pre A B row hs hg hr => by
      obtain ⟨gb, h1, h2, h3⟩ := hs
      exact ⟨gb, h1, h2.kept hg (fun r e => (hr r e).2), h3⟩)
    ?assign ?body ?done ?stop
  case assign =>
    intro l pre x W K hI hK
    have HB := hI.hb
    have SZ := Aside0.mk hI.sz
    dsimp only [blkEnc]
    gi_wp2_with (first
      | ((with_reducible refine gate_dstIn (N := 9) rfl ?_); refine ev_allocIn HB rfl rfl (blkA fun _ => 0) 26 ?hr ?_; (case hr => (rw [← blkA_zero]; go_simp; rfl)); intro gb w15 G_gb GE_gb B_gb HBn K_gb KO_w15; clear HB; have HB := HBn; clear HBn)
      | ((with_reducible refine gate_In (Op.store 26 (.tmp 9) (.tmp 22)) rfl ?_); refine ev_storeIn HB B_gb GE_gb rfl 26 _ _ rfl rfl rfl (size64' _) (by rw [blkA_size, blkA_size]) (blkA_one _) ?_; intro w16 B16 HBn K_w16 KO_w16; clear HB; have HB := HBn; clear HBn))
    have hKO := KO_w15.out.trans KO_w16.out
    refine hK _ _ (hKO.from _) ?_ ?_ ⟨gb, Nat.le_trans SZ.out G_gb.out, B16, rfl⟩
    · exact (Keep2.below K_gb.out (by have := SZ.out; omega) (by have := SZ.out; omega)).trans (Keep2.other K_w16 (by have := SZ.out; have := G_gb.out; omega) (by have := SZ.out; have := G_gb.out; omega))
    · have N : ∀ g, g < w8.heap.size → g ≠ gb := fun g h => by have := SZ.out; have := G_gb.out; omega
      obtain ⟨v, b5, hrow⟩ := hI.row
      exact ⟨(hI.bs.below K_gb.out).other K_w16 (fun b m => N _ (PL.out.1 b m)), (hI.b4.below K_gb.out).other K_w16 (N _ L4), (hI.b6.below K_gb.out).other K_w16 (N _ L6), ⟨v, (b5.below K_gb.out).other K_w16 (N _ L5), row_other (row_below hrow K_gb.out) B_gb (by decide) K_w16⟩, HB, Nat.le_trans SZ.out (Nat.le_trans K_gb.out.size K_w16.out.1)⟩
  case body =>
    rintro l pre x a' W hl ⟨r, hr⟩ hI ⟨gb, hgb, BX, rfl⟩ hlt
    have HB := hI.hb
    clear hr
    have hx : 64 * x.val < s.size := by have := x.isLt; unfold nwords at this; omega
    have HX := Aside0.mk hx
    have HLT := Aside0.mk hlt
    have HS := Aside0.mk hs
    obtain ⟨c, hc⟩ : ∃ c, c = min 64 (s.size - 64 * x.val) := ⟨_, rfl⟩
    have RC : Aside0 (∀ w, Calls Try.prog 19 #[.string s, .int .i64 (64 * ((x.val : Nat) : Int)), .int .u8 pad] w fun e w' => e = .returned (.tuple #[.agg (blkA (cutF s (64 * ((x.val : Nat) : Int)) pad)), .int .i64 (c : Int)]) ∧ Below w.heap.size w w') := ⟨fun w => by
      have h := block_Cut.calls s (64 * ((x.val : Nat) : Int)) pad w HS.out
      rw [cutN_nat s x.val hx, ← hc] at h
      exact h⟩
    obtain ⟨cn, hcn⟩ : ∃ cn, cn = (c : Int) := ⟨_, rfl⟩
    rw [← hcn] at RC
    have hn1 : decide (cn < 1) = false := decide_eq_false (by omega)
    have hn2 : decide (64 < cn) = false := decide_eq_false (by omega)
    have HC := Aside0.mk hc
    have HCN := Aside0.mk hcn
    clear hc hcn
    have c2 := (hI.bs.out _ PM.out.1).cell (i := 0) rfl
    have c3 := (hI.bs.out _ PM.out.2.1).cell (i := 0) rfl
    have EQ : ∀ (d : Nat) (W : World), (Op.equalIn (d + 2) 26 (.agg (blkA (cutF s (64 * ((x.val : Nat) : Int)) pad))) (.agg (blkA (cutF s (64 * ((x.val : Nat) : Int)) pad)))).run Try.prog W = .ok true W := by
      intro d W
      rw [run_eqArr (P := Try.prog) Try.underlying26 (by kernel_rfl) (by kernel_rfl) Try.underlying5 (cutF s (64 * ((x.val : Nat) : Int)) pad) (cutF s (64 * ((x.val : Nat) : Int)) pad) (fun j hj => blkA_get _ hj) (fun j hj => blkA_get _ hj) d W, all_eq_true fun _ _ => rfl]
    clear hx hlt hs
    gi_upto_region 12 with (first
      | (gi_at_call 19; refine (CallsIn.inRound l (callsIn_of HF (RC.out _))).mono ?_; rintro e w13 ⟨rfl, hb13⟩; have HK13 := Aside0.mk hb13; have HB13 := HB.step hb13; clear HB hb13; have HB := HB13; clear HB13)
      | ((with_reducible refine gate_dstIn (N := 10) rfl ?_); refine ev_allocIn HB rfl rfl (blkA fun _ => 0) 26 ?hr ?_; (case hr => (rw [← blkA_zero]; go_simp; rfl)); intro gw w14 G_gw GE_gw B_gw HBn K_gw KO_w14; clear HB; have HB := HBn; clear HBn)
      | ((with_reducible refine gate_In (Op.store 26 (.tmp 10) (.tmp 28)) rfl ?_); refine ev_storeIn HB B_gw GE_gw rfl 26 _ _ rfl rfl rfl (size64' _) (by rw [blkA_size, blkA_size]) (blkA_one _) ?_; intro w15 B15 HBn K_w15 KO_w15; clear HB; have HB := HBn; clear HBn))
    have z13 := HK13.out.size
    have NW : ∀ g, g < W.heap.size → g ≠ gw := fun g h => by have := G_gw.out; omega
    obtain ⟨v5, b5, hrow⟩ := hI.row
    have E15 := ((hI.bs.below HK13.out).below K_gw.out).other K_w15 (fun b m => NW _ (Nat.lt_of_lt_of_le (PL.out.1 b m) hI.sz))
    have X15 := ((BX.below HK13.out).below K_gw.out).other K_w15 (NW _ BX.lt)
    have D4 := ((hI.b4.below HK13.out).below K_gw.out).other K_w15 (NW _ hI.b4.lt)
    have D5 := ((b5.below HK13.out).below K_gw.out).other K_w15 (NW _ b5.lt)
    have D6 := ((hI.b6.below HK13.out).below K_gw.out).other K_w15 (NW _ hI.b6.lt)
    have R15 := row_other (row_below (row_below hrow HK13.out) K_gw.out) B_gw (by decide) K_w15
    have hsz : W.heap.size ≤ w15.heap.size := Nat.le_trans HK13.out.size (Nat.le_trans K_gw.out.size K_w15.out.1)
    have KO := Aside0.mk (((keepsOthers_below HK13.out).trans KO_w14.out).trans KO_w15.out)
    have c6 := D6.cell (i := 0) rfl
    have hw := w64_mulW _ (lt_nwordsW HLT.out HS.out)
    clear z13 NW HK13 K_gw K_w15 KO_w14 KO_w15 B_gw G_gw GE_gw c2 c3 b5 hrow
    by_cases hk : x.val = pre.length
    · have HKx := Aside0.mk hk
      have hne : ((64 * ((x.val : Nat) : Int)) != 64 * (pre.length : Int)) = false := by rw [hk]; simp
      clear hk
      gi_upto_region 14 with (first
        | ((with_reducible refine gate_dstIn (N := 30) rfl ?_); refine ev_loadIn B15 rfl 26 _ rfl rfl Try.underlying26 (size64' _) ?_)
        | ((with_reducible refine gate_dstIn (N := 31) rfl ?_); refine ev_loadIn X15 rfl 26 _ rfl rfl Try.underlying26 (size64' _) ?_))
      clear EQ hne hn1 hn2
      have hw1 := w64_succW _ (lt_nwordsW HLT.out HS.out)
      gi_wp2_with (first
        | ((with_reducible refine gate_In (Op.store 3 (.tmp 6) (.tmp 48)) rfl ?_); refine ev_store1In (i := 0) HB D6 GE_g6 rfl 3 _ _ rfl rfl (.int .i64 (wrap64 ((pre.length : Int) + 1))) rfl (by simp) (by kernel_rfl) rfl ?_; intro w16 B16 HB16 K_w16 KO_w16))
      rw [hw1] at B16
      have E16 := E15.other K_w16 (fun b m => (PL.out.2 b m).2.2)
      have D4' := D4.other K_w16 N46
      have D5' := D5.other K_w16 N56
      have X16 := X15.other K_w16 (by have := L6; omega)
      have R16 := row_other R15 D6 (by decide) K_w16
      have hsz16 : W.heap.size ≤ w16.heap.size := Nat.le_trans hsz K_w16.out.1
      have KO16 := Aside0.mk (KO.out.trans KO_w16.out)
      have HSZ := Aside0.mk hsz16
      have HI := Aside0.mk hI
      clear hw hw1 X15 B15 E15 D4 D5 D6 R15 K_w16 KO_w16 KO HB c6 BX hsz hsz16 hI
      gi_loopw [12] (fun v wr => ∃ i : Nat, v = .int .i64 (i : Int) ∧ Aside0 (i ≤ 64) ∧ Blks L wr ∧ Blk wr g4 #[.bool false] 4 ∧ Blk wr g6 #[.int .i64 ((pre.length : Int) + 1)] 3 ∧ Aside0 (∃ v5, Blk wr g5 #[v5] 50 ∧ wr.ownsRow w8.heap.size 5 1 v5 (min (64 * pre.length + i) s.size) (headB s (min (64 * pre.length + i) s.size))) ∧ BelowH w wr ∧ Blk wr gb (blkA (cutF s (64 * ((x.val : Nat) : Int)) pad)) 26 ∧ Aside0 (KeepsOthers W wr) ∧ Aside0 (W.heap.size ≤ wr.heap.size)) (fun v _ => 64 - (intOf v).toNat)
      case atStart => exact ⟨0, rfl, ⟨Nat.zero_le _⟩, E16, D4', B16, ⟨_, D5', R16⟩, HB16, X16, KO16, HSZ⟩
      case round =>
        clear E16 D4' D5' B16 R16 HB16 X16 KO16 HSZ
        obtain ⟨i, rfl, HI6, E, D4, D6, HRW, HB, BX, KO, HZ⟩ := hrel
        by_cases hi : i < 64
        · have HIL := Aside0.mk hi
          have hi1 : (i : Int) < 64 := by omega
          have hi0 : (0 : Int) ≤ (i : Int) := by omega
          clear hi
          have hbd : Aside0 (Below wr.heap.size wr wr.drew) := ⟨below_drew (Below.refl _ _)⟩
          obtain ⟨v5, D5, R⟩ := HRW.out
          clear HRW
          by_cases hic : i < c
          · have hic1 : decide ((i : Int) < cn) = true := decide_eq_true (by have := HCN.out; omega)
            have hin : 64 * pre.length + i < s.size := by have := HC.out; have := HKx.out; omega
            have hget := blkA_get (cutF s (64 * ((x.val : Nat) : Int)) pad) HIL.out
            obtain ⟨bv, hbv⟩ : ∃ bv, bv = bt s ((64 * pre.length + i : Nat) : Int) := ⟨_, rfl⟩
            rw [show cutF s (64 * ((x.val : Nat) : Int)) pad i = bv by rw [cutF_in s pad (by rw [HKx.out]; exact hin), HKx.out, ← hbv]] at hget
            have HG := Aside0.mk hget
            have HIN := Aside0.mk hin
            have HBV := Aside0.mk hbv
            clear hic hget hin hbv
            gi_upto_region 19 with (fail)
            clear hic1
            have E' := E.below hbd.out
            have D4' := D4.below hbd.out
            have D6' := D6.below hbd.out
            have D5' := D5.below hbd.out
            have R' := row_below R hbd.out
            have HB' := HB.step hbd.out
            have KO' := Aside0.mk (KO.out.trans (keepsOthers_below hbd.out))
            have BX' := BX.below hbd.out
            clear E D4 D6 D5 R HB KO BX
            refine wpIn_region_held_drew HF (S := fun W' => Blk W' gb (blkA (cutF s (64 * ((x.val : Nat) : Int)) pad)) 26) (by kernel_rfl) (by kernel_rfl) BX' (fun hS => ?_)
            refine' wpAnyH_take (i := 1) (oi := Oper.mk _ _ _ _ _ _) rfl (by kernel_rfl) (by kernel_rfl) (by kernel_rfl) (fun _ _ _ h => h) (Or.inl ⟨by rfl, ?hy1⟩) hS ?rest1
            case hy1 => (intro w hSw; (try dsimp only at hSw); first | (go_simp; done) | (go_simp; with_reducible rfl))
            try simp only [Act.put, List.setIfInBounds_toArray, List.set_cons_zero, List.set_cons_succ]
            refine' wpAnyH_take (i := 2) (oi := Oper.mk _ _ _ _ _ _) rfl (by kernel_rfl) (by kernel_rfl) (by kernel_rfl) (fun _ _ _ h => h) (Or.inl ⟨by rfl, ?hy2⟩) hS ?rest2
            case hy2 => (intro w hSw; (try dsimp only at hSw); first | (go_simp; done) | (go_simp; with_reducible rfl))
            try simp only [Act.put, List.setIfInBounds_toArray, List.set_cons_zero, List.set_cons_succ]
            refine wpAnyH_take (i := 3) (oi := Oper.mk _ _ _ _ _ _) rfl (by kernel_rfl) (by kernel_rfl) (by kernel_rfl) (fun _ _ _ h => h) (rg_load1 (by rfl) (fun _ hS => hS.cell HG.out) 5 _ rfl rfl (fun _ => by simp [isAgg, run_underlying Try.underlying5])) hS ?_
            try simp only [Act.put, List.setIfInBounds_toArray, List.set_cons_zero, List.set_cons_succ]
            refine wpAnyH_ready (rs := [0, 4]) (by kernel_rfl) (by simp) ?_
            refine AllReadyH.cons (o := Oper.mk _ _ _ _ _ _) rfl (fun K hK => ?_) ?_
            · refine rg_loadNow (by rfl) (D5'.cell (i := 0) rfl) 50 _ rfl rfl (fun _ => by simp [isAgg, run_underlying Try.underlying50]) ?_
              refine hK.out _ _ hS (fun hS => ?_)
              clear hK K
              try simp only [Act.put, List.setIfInBounds_toArray, List.set_cons_zero, List.set_cons_succ]
              refine wpAnyH_ready (rs := [4]) (by kernel_rfl) (by simp) ?_
              refine AllReadyH.cons (o := Oper.mk _ _ _ _ _ _) rfl (fun K hK => ?_) ?_
              · refine rg_lit HB' (by rfl) (.int .u8 bv) 5 (by first | (go_simp; done) | (go_simp; rfl)) ?_
                intro gN wn BN HBn hbn
                have En := E'.below hbn.out
                have D4n := D4'.below hbn.out
                have D5n := D5'.below hbn.out
                have D6n := D6'.below hbn.out
                have BXn := BX'.below hbn.out
                have Rn := row_below R' hbn.out
                have KOn := Aside0.mk (KO'.out.trans (keepsOthers_below hbn.out))
                have HZn := Aside0.mk (Nat.le_trans HZ.out (below_size (below_step hbd.out hbn.out)))
                refine hK.out _ _ BXn (fun hS => ?_)
                clear hK K
                try simp only [Act.put, List.setIfInBounds_toArray, List.set_cons_zero, List.set_cons_succ]
                refine wpAnyH_ready (rs := [5]) (by kernel_rfl) (by simp) ?_
                refine AllReadyH.cons (o := Oper.mk _ _ _ _ _ _) rfl (fun K hK => ?_) ?_
                · refine rg_append1 HBn (by rfl) _ _ 50 5 (.int .u8 0) 1 rfl Try.underlying50 (by kernel_rfl) rfl (by decide) v5 _ _ rfl Rn (by have := HBW.le; have := HI.out.sz; have := HZn.out; omega) gN (.int .u8 bv) rfl BN rfl (by have := HIN.out; have := HR.out; omega) ?_
                  intro v6 w22 R22 HB22 K22 FV
                  obtain ⟨g', cap', rfl⟩ := FV.out
                  have E22 := En.appended_lt PL.out.1 Rn K22
                  have D422 := D4n.appended_lt L4 Rn K22
                  have D522 := D5n.appended_lt L5 Rn K22
                  have D622 := D6n.appended_lt L6 Rn K22
                  have X22 := BXn.appended (by decide) Rn K22
                  have KO22 := Aside0.mk (KOn.out.trans (keepsOthers_rowK Rn K22))
                  have HZ22 := Aside0.mk (Nat.le_trans HZn.out K22.out.1)
                  refine hK.out _ _ X22 (fun hS => ?_)
                  clear hK K En D4n D5n D6n BXn KOn HZn Rn HBn BN
                  try simp only [Act.put, List.setIfInBounds_toArray, List.set_cons_zero, List.set_cons_succ]
                  refine wpAnyH_ready (rs := [6]) (by kernel_rfl) (by simp) ?_
                  refine AllReadyH.cons (o := Oper.mk _ _ _ _ _ _) rfl (fun K hK => ?_) ?_
                  · refine rg_store1 (i := 0) HB22 (by rfl) D522 GE_g5 50 _ _ rfl rfl _ rfl (by simp) (by kernel_rfl) rfl ?_
                    intro w23 B23 HB23 K23
                    have E23 := E22.other K23 (fun b m => (PL.out.2 b m).2.1)
                    have D423 := D422.other K23 N45
                    have D623 := D622.other K23 (Ne.symm N56)
                    have X23 := X22.other K23 (by have := L5; omega)
                    have R23 := row_other R22 D522 (by decide) K23
                    have KO23 := Aside0.mk (KO22.out.trans (keepsOthers_other D522 K23))
                    have HZ23 := Aside0.mk (Nat.le_trans HZ22.out K23.out.1)
                    refine hK.out _ _ X23 (fun hS => ?_)
                    clear hK K E22 D422 D522 D622 X22 KO22 HZ22 R22 HB22
                    try simp only [Act.put, List.setIfInBounds_toArray, List.set_cons_zero, List.set_cons_succ]
                    refine wpAnyH_done (by kernel_rfl) ?_ _
                    refine Straight.normal ?_
                    gi_wp2
                    go_roundw
                    case rel =>
                      refine ⟨i + 1, by go_num, ⟨by have := HIL.out; omega⟩, E23, D423, D623, ⟨_, B23, ?_⟩, HB23, X23, KO23, HZ23⟩
                      have e1 : min (64 * pre.length + i) s.size = 64 * pre.length + i := by have := HIN.out; omega
                      have e2 : min (64 * pre.length + (i + 1)) s.size = 64 * pre.length + i + 1 := by have := HIN.out; omega
                      rw [e2, headB_succ HIN.out, ← HBV.out]
                      rw [e1] at R23 ⊢
                      exact R23
                    case measure => (simp [intOf]; have := HIL.out; omega)
                  exact AllReadyH.nil
                exact AllReadyH.nil
              exact AllReadyH.nil
            refine AllReadyH.cons (o := Oper.mk _ _ _ _ _ _) rfl (fun K hK => ?_) ?_
            · refine rg_lit HB' (by rfl) (.int .u8 bv) 5 (by first | (go_simp; done) | (go_simp; rfl)) ?_
              intro gN wn BN HBn hbn
              have En := E'.below hbn.out
              have D4n := D4'.below hbn.out
              have D5n := D5'.below hbn.out
              have D6n := D6'.below hbn.out
              have BXn := BX'.below hbn.out
              have Rn := row_below R' hbn.out
              have KOn := Aside0.mk (KO'.out.trans (keepsOthers_below hbn.out))
              have HZn := Aside0.mk (Nat.le_trans HZ.out (below_size (below_step hbd.out hbn.out)))
              refine hK.out _ _ BXn (fun hS => ?_)
              clear hK K
              try simp only [Act.put, List.setIfInBounds_toArray, List.set_cons_zero, List.set_cons_succ]
              refine wpAnyH_ready (rs := [0]) (by kernel_rfl) (by simp) ?_
              refine AllReadyH.cons (o := Oper.mk _ _ _ _ _ _) rfl (fun K hK => ?_) ?_
              · refine rg_loadNow (by rfl) (D5n.cell (i := 0) rfl) 50 _ rfl rfl (fun _ => by simp [isAgg, run_underlying Try.underlying50]) ?_
                refine hK.out _ _ hS (fun hS => ?_)
                clear hK K
                try simp only [Act.put, List.setIfInBounds_toArray, List.set_cons_zero, List.set_cons_succ]
                refine wpAnyH_ready (rs := [5]) (by kernel_rfl) (by simp) ?_
                refine AllReadyH.cons (o := Oper.mk _ _ _ _ _ _) rfl (fun K hK => ?_) ?_
                · refine rg_append1 HBn (by rfl) _ _ 50 5 (.int .u8 0) 1 rfl Try.underlying50 (by kernel_rfl) rfl (by decide) v5 _ _ rfl Rn (by have := HBW.le; have := HI.out.sz; have := HZn.out; omega) gN (.int .u8 bv) rfl BN rfl (by have := HIN.out; have := HR.out; omega) ?_
                  intro v6 w22 R22 HB22 K22 FV
                  obtain ⟨g', cap', rfl⟩ := FV.out
                  have E22 := En.appended_lt PL.out.1 Rn K22
                  have D422 := D4n.appended_lt L4 Rn K22
                  have D522 := D5n.appended_lt L5 Rn K22
                  have D622 := D6n.appended_lt L6 Rn K22
                  have X22 := BXn.appended (by decide) Rn K22
                  have KO22 := Aside0.mk (KOn.out.trans (keepsOthers_rowK Rn K22))
                  have HZ22 := Aside0.mk (Nat.le_trans HZn.out K22.out.1)
                  refine hK.out _ _ X22 (fun hS => ?_)
                  clear hK K En D4n D5n D6n BXn KOn HZn Rn HBn BN
                  try simp only [Act.put, List.setIfInBounds_toArray, List.set_cons_zero, List.set_cons_succ]
                  refine wpAnyH_ready (rs := [6]) (by kernel_rfl) (by simp) ?_
                  refine AllReadyH.cons (o := Oper.mk _ _ _ _ _ _) rfl (fun K hK => ?_) ?_
                  · refine rg_store1 (i := 0) HB22 (by rfl) D522 GE_g5 50 _ _ rfl rfl _ rfl (by simp) (by kernel_rfl) rfl ?_
                    intro w23 B23 HB23 K23
                    have E23 := E22.other K23 (fun b m => (PL.out.2 b m).2.1)
                    have D423 := D422.other K23 N45
                    have D623 := D622.other K23 (Ne.symm N56)
                    have X23 := X22.other K23 (by have := L5; omega)
                    have R23 := row_other R22 D522 (by decide) K23
                    have KO23 := Aside0.mk (KO22.out.trans (keepsOthers_other D522 K23))
                    have HZ23 := Aside0.mk (Nat.le_trans HZ22.out K23.out.1)
                    refine hK.out _ _ X23 (fun hS => ?_)
                    clear hK K E22 D422 D522 D622 X22 KO22 HZ22 R22 HB22
                    try simp only [Act.put, List.setIfInBounds_toArray, List.set_cons_zero, List.set_cons_succ]
                    refine wpAnyH_done (by kernel_rfl) ?_ _
                    refine Straight.normal ?_
                    gi_wp2
                    go_roundw
                    case rel =>
                      refine ⟨i + 1, by go_num, ⟨by have := HIL.out; omega⟩, E23, D423, D623, ⟨_, B23, ?_⟩, HB23, X23, KO23, HZ23⟩
                      have e1 : min (64 * pre.length + i) s.size = 64 * pre.length + i := by have := HIN.out; omega
                      have e2 : min (64 * pre.length + (i + 1)) s.size = 64 * pre.length + i + 1 := by have := HIN.out; omega
                      rw [e2, headB_succ HIN.out, ← HBV.out]
                      rw [e1] at R23 ⊢
                      exact R23
                    case measure => (simp [intOf]; have := HIL.out; omega)
                  exact AllReadyH.nil
                exact AllReadyH.nil
              exact AllReadyH.nil
            exact AllReadyH.nil
          · have hic1 : decide ((i : Int) < cn) = false := decide_eq_false (by have := HCN.out; omega)
            have hin : s.size ≤ 64 * pre.length + i := by have := HC.out; have := HKx.out; have := HX.out; omega
            have hget := blkA_get (cutF s (64 * ((x.val : Nat) : Int)) pad) HIL.out
            rw [cutF_out s pad (by rw [HKx.out]; exact hin)] at hget
            have HG := Aside0.mk hget
            have HIN := Aside0.mk hin
            clear hic hget hin
            gi_upto_region 20 with (fail)
            clear hic1
            have E' := E.below hbd.out
            have D4' := D4.below hbd.out
            have D6' := D6.below hbd.out
            have D5' := D5.below hbd.out
            have R' := row_below R hbd.out
            have HB' := HB.step hbd.out
            have KO' := Aside0.mk (KO.out.trans (keepsOthers_below hbd.out))
            have BX' := BX.below hbd.out
            clear E D4 D6 D5 R HB KO BX
            have P3 := E'.out _ PM.out.2.1
            refine wpIn_region_held_drew HF (S := fun W' => Blk W' gb (blkA (cutF s (64 * ((x.val : Nat) : Int)) pad)) 26 ∧ Blk W' g3 #[.int .u8 pad] 5) (by kernel_rfl) (by kernel_rfl) ⟨BX', P3⟩ (fun hS => ?_)
            refine' wpAnyH_take (i := 0) (oi := Oper.mk _ _ _ _ _ _) rfl (by kernel_rfl) (by kernel_rfl) (by kernel_rfl) (fun _ _ _ h => h) (Or.inl ⟨by rfl, ?hy3⟩) hS ?rest3
            case hy3 => (intro w hSw; (try dsimp only at hSw); first | (go_simp; done) | (go_simp; with_reducible rfl))
            try simp only [Act.put, List.setIfInBounds_toArray, List.set_cons_zero, List.set_cons_succ]
            refine' wpAnyH_take (i := 1) (oi := Oper.mk _ _ _ _ _ _) rfl (by kernel_rfl) (by kernel_rfl) (by kernel_rfl) (fun _ _ _ h => h) (Or.inl ⟨by rfl, ?hy4⟩) hS ?rest4
            case hy4 => (intro w hSw; (try dsimp only at hSw); first | (go_simp; done) | (go_simp; with_reducible rfl))
            try simp only [Act.put, List.setIfInBounds_toArray, List.set_cons_zero, List.set_cons_succ]
            refine wpAnyH_take (i := 2) (oi := Oper.mk _ _ _ _ _ _) rfl (by kernel_rfl) (by kernel_rfl) (by kernel_rfl) (fun _ _ _ h => h) (rg_load1 (by rfl) (fun _ hS => hS.1.cell HG.out) 5 _ rfl rfl (fun _ => by simp [isAgg, run_underlying Try.underlying5])) hS ?_
            try simp only [Act.put, List.setIfInBounds_toArray, List.set_cons_zero, List.set_cons_succ]
            refine wpAnyH_take (i := 3) (oi := Oper.mk _ _ _ _ _ _) rfl (by kernel_rfl) (by kernel_rfl) (by kernel_rfl) (fun _ _ _ h => h) (rg_load1 (by rfl) (fun _ hS => hS.2.cell (i := 0) rfl) 5 _ rfl rfl (fun _ => by simp [isAgg, run_underlying Try.underlying5])) hS ?_
            try simp only [Act.put, List.setIfInBounds_toArray, List.set_cons_zero, List.set_cons_succ]
            refine' wpAnyH_take (i := 4) (oi := Oper.mk _ _ _ _ _ _) rfl (by kernel_rfl) (by kernel_rfl) (by kernel_rfl) (fun _ _ _ h => h) (Or.inl ⟨by rfl, ?hy5⟩) hS ?rest5
            case hy5 => (intro w hSw; (try dsimp only at hSw); first | (go_simp; done) | (go_simp; with_reducible rfl))
            try simp only [Act.put, List.setIfInBounds_toArray, List.set_cons_zero, List.set_cons_succ]
            refine wpAnyH_done (by kernel_rfl) ?_ _
            refine Straight.normal ?_
            gi_wp2
            go_roundw
            case rel =>
              refine ⟨i + 1, by go_num, ⟨by have := HIL.out; omega⟩, E', D4', D6', ⟨_, D5', ?_⟩, HB', BX', KO', ⟨Nat.le_trans HZ.out (below_size hbd.out)⟩⟩
              have e1 : min (64 * pre.length + i) s.size = s.size := by have := HIN.out; omega
              have e2 : min (64 * pre.length + (i + 1)) s.size = s.size := by have := HIN.out; omega
              rw [e1] at R'
              rw [e2]
              exact R'
            case measure => (simp [intOf]; have := HIL.out; omega)
        · obtain rfl : i = 64 := by have := HI6.out; omega
          clear hi
          obtain ⟨v5, D5, R⟩ := HRW.out
          gi_wp2
          have hle : (((pre ++ [x]).length : Nat) : Int) = (pre.length : Int) + 1 := by simp
          have hle2 : 64 * (pre ++ [x]).length = 64 * pre.length + 64 := by simp; omega
          exact ⟨KO.out.from _, Keep2.of_blk (HI.out.bs.out _ PM.out.2.2.1) (HI.out.bs.out _ PM.out.2.2.2) (E.out _ PM.out.2.2.1) (E.out _ PM.out.2.2.2) HZ.out, E, D4, by rw [hle]; exact D6, ⟨v5, D5, by rw [hle2]; exact R⟩, HB, Nat.le_trans HI.out.sz HZ.out⟩
    · have hne : ((64 * ((x.val : Nat) : Int)) != 64 * (pre.length : Int)) = true := bne_iff_ne.mpr (by omega)
      have HKx := Aside0.mk hk
      clear hk
      gi_wp2_with (first
        | ((with_reducible refine gate_dstIn (N := 30) rfl ?_); refine ev_loadIn B15 rfl 26 _ rfl rfl Try.underlying26 (size64' _) ?_)
        | ((with_reducible refine gate_dstIn (N := 31) rfl ?_); refine ev_loadIn X15 rfl 26 _ rfl rfl Try.underlying26 (size64' _) ?_)
        | ((with_reducible refine gate_In (Op.store 4 (.tmp 4) (.const (.bool false))) rfl ?_); refine ev_store1In (i := 0) HB D4 GE_g4 rfl 4 _ _ rfl rfl (.bool false) rfl (by simp) (by kernel_rfl) rfl ?_; intro w16 B16 HB16 K_w16 KO_w16))
      exact ⟨(KO.out.trans KO_w16.out).from _, rfl, fun hp => HKx.out (prefix_lastW hp)⟩
  case done =>
    rintro D ys W hD rfl hI hK
    have HB := hI.hb
    obtain ⟨v5, b5, hrow⟩ := hI.row
    have c2 := (hI.bs.out _ PM.out.1).cell (i := 0) rfl
    have c5 := b5.cell (i := 0) rfl
    rw [List.length_finRange, show min (64 * nwords s.size) s.size = s.size by unfold nwords; omega] at hrow
    have hsb : strOfNums ((bytesOf s).take s.size) = s := by
      rw [← bytesOf_length s, List.take_length]
      exact strOfNums_bytesOf s
    have CV : ∀ W', W'.ownsRow w8.heap.size 5 1 v5 s.size (headB s s.size) → (convert 50 9 v5).run Try.prog W' = .ok (.string s) W' := fun W' h => by
      have h1 := own_string (dst := 9) Try.underlying50 Try.underlying5 Try.underlying9 h
      rw [hsb] at h1
      exact h1
    have CW := CV W hrow
    clear hrow CV hsb
    have HD := Aside0.mk hD
    have HKD := Aside0.mk hK
    clear hK hD hs
    gi_wp2_with (first
      | ((with_reducible refine gate_In (Op.store 4 (.tmp 4) (.tmp 70)) rfl ?_); refine ev_store1In (i := 0) HB hI.b4 GE_g4 rfl 4 _ _ rfl rfl (.bool true) rfl (by simp) (by kernel_rfl) rfl ?_; intro w20 B20 HB20 K_w20 KO_w20))
    have HK20 := KO_w20.out.same D _ HKD.out rfl
    have hg := grownBy_putObj' w20 D (.deferred none)
    have hle : w.heap.size ≤ D := Nat.le_trans HBW.le HD.out
    have hr2 : ∀ r, some D = some r → ∃ o : Obj, w20.heap[r]? = some o ∧ o.isCells = false := fun r e => by
      cases e
      exact ⟨_, HK20, rfl⟩
    refine ⟨by simp, .inl ⟨_, _, rfl, run_takeDeferred HK20, ?_⟩⟩
    refine ⟨_, results_cell1 rfl _ _ g4 4 _ _ rfl (B20.kept hg hr2) Try.underlying4 rfl, rfl, (HB20.kept hg hle (fun r e => by cases e; exact Nat.le_refl _)).out⟩
  case stop =>
    rintro D c pre W hD hp ⟨rfl, hX⟩ hK
    exact absurd hp hX
end


end Go.Proofs.Ytoimelcdhkmceaa.PH
