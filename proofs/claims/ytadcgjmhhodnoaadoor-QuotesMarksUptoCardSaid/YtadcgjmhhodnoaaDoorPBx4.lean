-- Written by a program (myprint.py, over the kit's print) for this claim. Not trusted: Lean checks it.
import Derived.Test.YtadcgjmhhodnoaaDoorPBx0
import Derived.Test.YtadcgjmhhodnoaaDoorPBx1
import Derived.Test.YtadcgjmhhodnoaaDoorPBx2
import Derived.Test.YtadcgjmhhodnoaaDoorPBx3
namespace Go.Proofs.YtadcgjmhhodnoaaDoor.PB
open Go.RowKit Go.Proofs.YtadcgjmhhodnoaaDoorW.PrintWords Go.Proofs.YtadcgjmhhodnoaaDoorW.PrintLast Go.Proofs.YtadcgjmhhodnoaaDoorW.PrintMore
attribute [local go_sem] max2_int min2_int max_two min_two max_three min_three max_four min_four   -- for this text's walks alone
set_option linter.unusedVariables false
set_option linter.unusedSimpArgs false

/-! ### words_Select: function 66 -/
section
open Go.Proofs.YtadcgjmhhodnoaaDoorQ Go.Proofs.YtadcgjmhhodnoaaDoorM Go.Shelf
attribute [local go_sem] Oper.semAt_some
/-- The place of the k-th set bit. -/
def selW (q : Nat → Bool) (k : Int) : Int := match (setP 64 q 64)[k.toNat]? with | some x => (x.val : Int) | none => -1
/-- Between two set bits. -/
structure SelI (w : World) (g3 g4 m : Nat) (k : Int) {α : Type} (pre : List α) (W : World) : Prop where mk ::
  b3 : Blk W g3 #[.int .i64 (k - (pre.length : Int))] 3
  b4 : Blk W g4 #[.int .i64 0] 3
  hk : (pre.length : Int) ≤ k
  ht : TabOk W
  hb : BelowH w W
  sz : m ≤ W.heap.size
structure SelX (w : World) (g4 : Nat) (k : Int) {q : Nat → Bool} (pre : List (SetP 64 q)) (W : World) : Prop where mk ::
  res : ∃ x : SetP 64 q, Blk W g4 #[.int .i64 (x.val : Int)] 3 ∧ ∃ p : List (SetP 64 q), pre = p ++ [x] ∧ k = (p.length : Int)
  hb : BelowH w W
theorem SelI.kept {w W W' : World} {g3 g4 m : Nat} {k : Int} {α : Type} {pre : List α} (h : SelI w g3 g4 m k pre W) {B : Nat} (hB : w.heap.size ≤ B) {row : Option Nat} (hg : W.grownBy W' row) (hr : ∀ r, row = some r → B ≤ r ∧ ∃ o : Obj, W.heap[r]? = some o ∧ o.isCells = false) : SelI w g3 g4 m k pre W' := by
  have hr' : ∀ r, row = some r → ∃ o : Obj, W.heap[r]? = some o ∧ o.isCells = false := fun r e => (hr r e).2
  exact ⟨h.b3.kept hg hr', h.b4.kept hg hr', h.hk, h.ht.kept hg hr', h.hb.kept hg hB (fun r e => (hr r e).1), Nat.le_trans h.sz hg.size⟩
theorem SelX.kept {w W W' : World} {g4 : Nat} {k : Int} {q : Nat → Bool} {pre : List (SetP 64 q)} (h : SelX w g4 k pre W) {B : Nat} (hB : w.heap.size ≤ B) {row : Option Nat} (hg : W.grownBy W' row) (hr : ∀ r, row = some r → B ≤ r ∧ ∃ o : Obj, W.heap[r]? = some o ∧ o.isCells = false) : SelX w g4 k pre W' := by
  have hr' : ∀ r, row = some r → ∃ o : Obj, W.heap[r]? = some o ∧ o.isCells = false := fun r e => (hr r e).2
  obtain ⟨x, b, hp⟩ := h.res
  exact ⟨⟨x, b.kept hg hr', hp⟩, h.hb.kept hg hB (fun r e => (hr r e).1)⟩
set_option maxHeartbeats 4000000 in
set_option maxRecDepth 100000 in
theorem words_Select.walk (q : Nat → Bool) (k : Int) (hk0 : 0 ≤ k) (hk1 : k < 9223372036854775808) (w : World) (hT : TabOk w) :
    Calls Tryd.prog 66 #[.int .u64 (iv (word q)), .int .i64 k] w fun e w' => e = .returned (.int .i64 (selW q k)) ∧ Below w.heap.size w w' := by
  obtain ⟨F, hF⟩ : ∃ F, F = Fence.wide := ⟨_, rfl⟩
  have HF := Aside0.mk hF
  refine (callsIn_wide (n := 9)).1 ?_
  rw [← hF]
  clear hF
  have hro := wide_round HF
  have HB := BelowH.refl w
  have f1 := wide_fn HF 51
  have f2 := wide_fn HF 79
  have HT := Aside0.mk hT
  have HK := Aside0.mk (And.intro hk0 hk1)
  obtain ⟨u, hu⟩ : ∃ u, u = iv (word q) := ⟨_, rfl⟩
  rw [← hu]
  have HU := Aside0.mk hu
  clear hT hk0 hk1 hu
  refine callsIn_of_wp_marks Tryd.func66 rfl (wide_fn HF _) ?_ hro
  simp only [Tryd.ntmps66, List.size_toArray, List.length_cons, List.length_nil, Nat.reduceAdd, Nat.reduceSub, Array.replicate_succ, Array.replicate_zero, List.push_toArray, List.append_toArray, List.nil_append, List.cons_append]
  gi_wp2_with (first
    | ((with_reducible refine gate_dstIn (N := 3) rfl ?_); refine ev_allocIn HB rfl rfl (#[.int .i64 k]) 3 ?hr ?_; (case hr => first | (go_simp; done) | (go_simp; rfl)); intro g3 w3 G_g3 GE_g3 B_g3 HBn K_g3 KO_w3; clear HB; have HB := HBn; clear HBn)
    | ((with_reducible refine gate_dstIn (N := 4) rfl ?_); refine ev_allocIn HB rfl rfl (#[.int .i64 0]) 3 ?hr ?_; (case hr => first | (go_simp; done) | (go_simp; rfl)); intro g4 w4 G_g4 GE_g4 B_g4 HBn K_g4 KO_w4; clear HB; have HB := HBn; clear HBn)
    | (gi_at_call 51; refine (callsIn_of HF (words_Each.calls u _)).mono ?_; rintro e w5 ⟨g1, rfl, GE1, B1, HB5⟩))
  have HT5 := Aside0.mk (HT.out.stepH (HB.step HB5.out))
  have C3 := (B_g3.below K_g4.out).below HB5.out
  have C4 := B_g4.below HB5.out
  have L1 := B1.lt
  have L3 := C3.lt
  have L4 := C4.lt
  have P0 := HT5.out.pos
  have HBW := HB.step HB5.out
  have N34 : g3 ≠ g4 := by have := B_g3.lt; have := G_g4.out; omega
  have O3 : 0 < g3 := by have := GE_g3.out; have := HT.out.pos; omega
  have O4 : 0 < g4 := by have := GE_g4.out; have := HT.out.pos; omega
  have N13 : g1 ≠ g3 ∧ g1 ≠ g4 := by have := B_g3.lt; have := B_g4.lt; have := K_g4.out.size; omega
  have PN := Aside0.mk (And.intro N34 (And.intro O3 (And.intro O4 N13)))
  rw [HU.out] at B1
  clear HB HB5 B_g3 B_g4 K_g3 K_g4 KO_w3 KO_w4 N34 O3 O4 N13 HT
  refine wpIn_rangeFunc_ownH hro (by decide) (gf := 79) (lb := #[.pointer (some ⟨g1, 0, none⟩)]) rfl f2 (enters_of Tryd.func79 (by kernel_rfl) rfl)
    (words_Each_1.stops F HF (9 - 1) (by decide) g1 q w5 B1 HT5.out) Keep2.trans (fun W l o o' hl ho hc hw => Keep2.putObj P0 P0 W l o o' hl ho hc hw) (Below.refl _ _) (fun _ => rfl)
    (SelI w g3 g4 w5.heap.size k) (fun c pre W => c = .ret ∧ SelX w g4 k pre W)
    (fun pre A B row hs hg hr => hs.kept HBW.le hg hr)
    (fun c pre A B row hs hg hr => ⟨hs.1, hs.2.kept HBW.le hg hr⟩)
    ⟨by simpa using C3, C4, by simpa using HK.out.1, HT5.out, HBW, Nat.le_refl _⟩
    (fun x a' W => a' = { tmps := #[.int .u64 u, .int .i64 k, undef, .pointer (some ⟨g3, 0, none⟩), .pointer (some ⟨g4, 0, none⟩), .int .i64 ((x.val : Nat) : Int), .int .u64 u, .func (.func 79) #[] #[.pointer (some ⟨g1, 0, none⟩)], .int .i64 ((x.val : Nat) : Int), undef, undef, undef, undef, undef], defers := [] })
    (fun x a' pre A B row hs hg hr => hs)
    ?assign ?body ?done ?stop
  case assign =>
    intro l pre x W K hI hK
    dsimp only
    gi_wp2
    exact hK _ _ ((KeepsOthers.refl _).from _) ⟨rfl, rfl, Nat.le_refl _⟩ hI rfl
  case body =>
    rintro l pre x a' W hl ⟨r, hr⟩ hI rfl hlt
    have c3 := hI.b3.cell (i := 0) rfl
    have HKI := Aside0.mk hI.hk
    have HB := hI.hb
    clear hr
    by_cases h0 : k - (pre.length : Int) = 0
    · have t0 : (k - (pre.length : Int) == 0) = true := beq_iff_eq.mpr h0
      have H0 := Aside0.mk h0
      clear h0
      gi_wp2_with (first
        | ((with_reducible refine gate_In (Op.store 3 (.tmp 4) (.tmp 11)) rfl ?_); refine ev_store1In (i := 0) HB hI.b4 GE_g4 rfl 3 _ _ rfl rfl _ rfl (by simp) (by kernel_rfl) rfl ?_; intro w6 B6 HB6 K_w6 KO_w6))
      exact ⟨KO_w6.out.from _, rfl, ⟨x, B6, pre, rfl, by have := H0.out; omega⟩, HB6⟩
    · have t0 : (k - (pre.length : Int) == 0) = false := beq_eq_false_iff_ne.mpr h0
      have H0 := Aside0.mk h0
      have hw : wrap64 (k - (pre.length : Int) - 1) = k - ((pre ++ [x]).length : Int) := by
        have := HK.out
        have := HKI.out
        rw [List.length_append]
        simp only [List.length_cons, List.length_nil]
        unfold wrap64
        omega
      have HW := Aside0.mk hw
      clear h0 hw
      gi_wp2_with (first
        | ((with_reducible refine gate_In (Op.store 3 (.tmp 3) (.tmp 13)) rfl ?_); refine ev_store1In (i := 0) HB hI.b3 GE_g3 rfl 3 _ _ rfl rfl _ rfl (by simp) (by kernel_rfl) rfl ?_; intro w6 B6 HB6 K_w6 KO_w6))
      refine ⟨KO_w6.out.from _, Keep2.other K_w6 (by have := PN.out.2.1; omega) (by have := PN.out.2.1; omega), ?_, hI.b4.other K_w6 (Ne.symm PN.out.1), ?_, hI.ht.other PN.out.2.1 K_w6, HB6, Nat.le_trans hI.sz K_w6.out.1⟩
      · rw [← HW.out]
        exact B6
      · have := HKI.out
        have := H0.out
        simp
        omega
  case done =>
    rintro D ys W hD rfl hI hK
    have HB := hI.hb
    have HD := Aside0.mk hD
    have HKD := Aside0.mk hK
    clear hK hD
    gi_wp2_with (first
      | ((with_reducible refine gate_In (Op.store 3 (.tmp 4) (.const (.int .i64 (-1)))) rfl ?_); refine ev_store1In (i := 0) HB hI.b4 GE_g4 rfl 3 _ _ rfl rfl _ rfl (by simp) (by kernel_rfl) rfl ?_; intro w20 B20 HB20 K_w20 KO_w20))
    have HK20 := KO_w20.out.same D _ HKD.out rfl
    have hg := grownBy_putObj' w20 D (.deferred none)
    have hle : w.heap.size ≤ D := Nat.le_trans HBW.le HD.out
    have hr2 : ∀ r, some D = some r → ∃ o : Obj, w20.heap[r]? = some o ∧ o.isCells = false := fun r e => by
      cases e
      exact ⟨_, HK20, rfl⟩
    refine ⟨by simp, .inl ⟨_, _, rfl, run_takeDeferred HK20, ?_⟩⟩
    refine ⟨_, results_cell1 rfl _ _ g4 3 _ _ rfl (B20.kept hg hr2) Tryd.underlying3 rfl, ?_, (HB20.kept hg hle (fun r e => by cases e; exact Nat.le_refl _)).out⟩
    have := hI.hk
    unfold selW
    rw [List.getElem?_eq_none (by omega)]
    rfl
  case stop =>
    rintro D c pre W hD hp ⟨rfl, hX⟩ hK
    obtain ⟨x, b4, p, rfl, hpk⟩ := hX.res
    have hg := grownBy_putObj' W D (.deferred none)
    have hle : w.heap.size ≤ D := Nat.le_trans HBW.le hD
    have hr2 : ∀ r, some D = some r → ∃ o : Obj, W.heap[r]? = some o ∧ o.isCells = false := fun r e => by
      cases e
      exact ⟨_, hK, rfl⟩
    gi_wp2
    refine ⟨by simp, .inl ⟨_, _, rfl, run_takeDeferred hK, ?_⟩⟩
    refine ⟨_, results_cell1 rfl _ _ g4 3 _ _ rfl (b4.kept hg hr2) Tryd.underlying3 rfl, ?_, (hX.hb.kept hg hle (fun r e => by cases e; exact Nat.le_refl _)).out⟩
    obtain ⟨t, ht⟩ := hp
    unfold selW
    rw [← ht, hpk, Int.toNat_natCast, List.append_assoc, List.getElem?_append_right (Nat.le_refl _), Nat.sub_self]
    rfl
def words_Select.f (a0 a1 : Int) : Option Int := if 0 ≤ a0 ∧ a0 < 18446744073709551616 ∧ 0 ≤ a1 ∧ a1 < 9223372036854775808 then some (selW (fun j => a0.toNat.testBit j) a1) else none
theorem iv_bits {x : Int} (h0 : 0 ≤ x) (h1 : x < 18446744073709551616) : x = iv (word fun j => x.toNat.testBit j) := by
  obtain ⟨v, rfl⟩ := iv_of h0 h1
  exact congrArg iv (eq_word fun i _ => rfl)
theorem words_Select.calls (a0 a1 r : Int) (w : World) (hT : TabOk w) (h : words_Select.f a0 a1 = some r) :
    Calls Tryd.prog 66 #[.int .u64 a0, .int .i64 a1] w fun e w' => e = .returned (.int .i64 r) ∧ Below w.heap.size w w' := by
  unfold words_Select.f at h
  by_cases hs : 0 ≤ a0 ∧ a0 < 18446744073709551616 ∧ 0 ≤ a1 ∧ a1 < 9223372036854775808
  case neg => rw [if_neg hs] at h; cases h
  rw [if_pos hs] at h
  simp only [Option.some.injEq] at h
  subst h
  obtain ⟨h1, h2, h3, h4⟩ := hs
  have e := words_Select.walk (fun j => a0.toNat.testBit j) a1 h3 h4 w hT
  rw [← iv_bits h1 h2] at e
  exact e
end


/-! ### quotes_Control: function 29 -/
section
open Go.Proofs.YtadcgjmhhodnoaaDoorQ Go.Proofs.YtadcgjmhhodnoaaDoorM Go.Shelf
attribute [local go_sem] Oper.semAt_some
/-- Between two blocks: none so far. -/
structure CtlI (s : ByteArray) (w : World) (L : List (Nat × Array Value × Nat)) (m : Nat) (v1 : Value) {n : Nat} (pre : List (Fin n)) (W : World) : Prop where mk ::
  bs : Blks L W
  row : W.ownsRow w.heap.size 64 1 v1 (nwords s.size) ((wordsOf s.size (insS s)).map (Value.int .u64))
  no : ∀ x ∈ pre, ∀ j, j < 64 → 64 * x.val + j < s.size → ctq s (64 * x.val + j) = false
  ht : TabOk W
  hb : BelowH w W
  sz : m ≤ W.heap.size
theorem CtlI.kept {s : ByteArray} {w W W' : World} {L : List (Nat × Array Value × Nat)} {m : Nat} {v1 : Value} {n : Nat} {pre : List (Fin n)} (h : CtlI s w L m v1 pre W) {B : Nat} (hB : w.heap.size ≤ B) {row : Option Nat} (hg : W.grownBy W' row) (hr : ∀ r, row = some r → B ≤ r ∧ ∃ o : Obj, W.heap[r]? = some o ∧ o.isCells = false) : CtlI s w L m v1 pre W' := by
  have hr' : ∀ r, row = some r → ∃ o : Obj, W.heap[r]? = some o ∧ o.isCells = false := fun r e => (hr r e).2
  exact ⟨h.bs.kept hg hr', row_kept h.row hg hr', h.no, h.ht.kept hg hr', h.hb.kept hg hB (fun r e => (hr r e).1), Nat.le_trans h.sz hg.size⟩
theorem CtlI.below {s : ByteArray} {w W W' : World} {L : List (Nat × Array Value × Nat)} {m : Nat} {v1 : Value} {n : Nat} {pre : List (Fin n)} (h : CtlI s w L m v1 pre W) (hb : Below W.heap.size W W') : CtlI s w L m v1 pre W' :=
  ⟨h.bs.below hb, row_below h.row hb, h.no, h.ht.step hb, h.hb.step hb, Nat.le_trans h.sz hb.size⟩
/-- Behind the loop: the first one. -/
structure CtlX (s : ByteArray) (w : World) (g2 : Nat) {n : Nat} (pre : List (Fin n)) (W : World) : Prop where mk ::
  res : ∃ (x : Fin n) (p : List (Fin n)) (j : Nat), pre = p ++ [x] ∧ Blk W g2 #[.int .i64 (64 * ((x.val : Nat) : Int) + (j : Int))] 3 ∧ j < 64 ∧ 64 * x.val + j < s.size ∧ ctq s (64 * x.val + j) = true ∧ (∀ i, i < j → 64 * x.val + i < s.size → ctq s (64 * x.val + i) = false) ∧ ∀ y ∈ p, ∀ j, j < 64 → 64 * y.val + j < s.size → ctq s (64 * y.val + j) = false
  hb : BelowH w W
theorem CtlX.kept {s : ByteArray} {w W W' : World} {g2 : Nat} {n : Nat} {pre : List (Fin n)} (h : CtlX s w g2 pre W) {B : Nat} (hB : w.heap.size ≤ B) {row : Option Nat} (hg : W.grownBy W' row) (hr : ∀ r, row = some r → B ≤ r ∧ ∃ o : Obj, W.heap[r]? = some o ∧ o.isCells = false) : CtlX s w g2 pre W' := by
  have hr' : ∀ r, row = some r → ∃ o : Obj, W.heap[r]? = some o ∧ o.isCells = false := fun r e => (hr r e).2
  obtain ⟨x, p, j, h1, h2, h3⟩ := h.res
  exact ⟨⟨x, p, j, h1, h2.kept hg hr', h3⟩, h.hb.kept hg hB (fun r e => (hr r e).1)⟩
theorem ctl_none {s : ByteArray} (h : ∀ x ∈ List.finRange (nwords s.size), ∀ j, j < 64 → 64 * x.val + j < s.size → ctq s (64 * x.val + j) = false) : firstQ s.size (ctq s) = -1 := by
  refine firstQ_none fun i hi => ?_
  have hx : i / 64 < nwords s.size := by unfold nwords; omega
  have := h ⟨i / 64, hx⟩ (List.mem_finRange _) (i % 64) (by omega) (by dsimp only; omega)
  dsimp only at this
  rw [show 64 * (i / 64) + i % 64 = i from by omega] at this
  exact this
theorem ctl_last {n : Nat} {pre : List (Fin n)} {x : Fin n} (h : pre ++ [x] <+: List.finRange n) (i : Fin n) (hi : i.val < x.val) : i ∈ pre := by
  obtain ⟨t, ht⟩ := h
  have hx : (List.finRange n)[pre.length]? = some x := by
    rw [← ht, List.append_assoc, List.getElem?_append_right (Nat.le_refl _), Nat.sub_self]
    rfl
  have hl : pre.length < n := by
    have := congrArg List.length ht
    simp at this
    omega
  have hv : x.val = pre.length := by
    simp [hl] at hx
    rw [← hx]
  have hp : (List.finRange n)[i.val]? = some i := by simp
  rw [← ht, List.append_assoc, List.getElem?_append_left (by omega)] at hp
  exact List.mem_of_getElem? hp
theorem ctl_some {s : ByteArray} {pre : List (Fin (nwords s.size))} {x : Fin (nwords s.size)} {j : Nat} (h : pre ++ [x] <+: List.finRange (nwords s.size)) (h1 : j < 64) (h2 : 64 * x.val + j < s.size) (h3 : ctq s (64 * x.val + j) = true) (h4 : ∀ i, i < j → 64 * x.val + i < s.size → ctq s (64 * x.val + i) = false)
    (h5 : ∀ y ∈ pre, ∀ j, j < 64 → 64 * y.val + j < s.size → ctq s (64 * y.val + j) = false) : firstQ s.size (ctq s) = 64 * ((x.val : Nat) : Int) + (j : Int) := by
  rw [firstQ_at h2 h3 (fun i hi => ?_)]
  · omega
  · by_cases g : 64 * x.val ≤ i
    · have := h4 (i - 64 * x.val) (by omega) (by omega)
      rw [show 64 * x.val + (i - 64 * x.val) = i from by omega] at this
      exact this
    · have hx : i / 64 < nwords s.size := by have := x.isLt; omega
      have := h5 ⟨i / 64, hx⟩ (ctl_last h _ (by dsimp only; omega)) (i % 64) (by omega) (by dsimp only; omega)
      dsimp only at this
      rw [show 64 * (i / 64) + i % 64 = i from by omega] at this
      exact this
def quotes_Control.f (a0 : ByteArray) : Option Int := if a0.size ≤ 281474976702464 then some (firstQ a0.size (ctq a0)) else none
set_option maxHeartbeats 4000000 in
set_option maxRecDepth 100000 in
theorem quotes_Control.walk (s : ByteArray) (w : World) (hs : s.size ≤ 281474976702464) (hT : TabOk w) :
    Calls Tryd.prog 29 #[.string s] w fun e w' => e = .returned (.int .i64 (firstQ s.size (ctq s))) ∧ Below w.heap.size w w' := by
  obtain ⟨F, hF⟩ : ∃ F, F = Fence.wide := ⟨_, rfl⟩
  have HF := Aside0.mk hF
  refine (callsIn_wide (n := 9)).1 ?_
  rw [← hF]
  clear hF
  have hro := wide_round HF
  have HB := BelowH.refl w
  have f1 := wide_fn HF 58
  have f2 := wide_fn HF 83
  have f3 := wide_fn HF 65
  have f4 := wide_fn HF 24
  have f5 := wide_fn HF 66
  have HT := Aside0.mk hT
  clear hT
  refine callsIn_of_wp_marks Tryd.func29 rfl (wide_fn HF _) ?_ hro
  simp only [Tryd.ntmps29, List.size_toArray, List.length_cons, List.length_nil, Nat.reduceAdd, Nat.reduceSub, Array.replicate_succ, Array.replicate_zero, List.push_toArray, List.append_toArray, List.nil_append, List.cons_append]
  gi_upto_region 2 with (first
    | ((with_reducible refine gate_dstIn (N := 2) rfl ?_); refine ev_allocIn HB rfl rfl (#[.int .i64 0]) 3 ?hr ?_; (case hr => first | (go_simp; done) | (go_simp; rfl)); intro g2 w2 G_g2 GE_g2 B_g2 HBn K_g2 KO_w2; clear HB; have HB := HBn; clear HBn)
    | (gi_at_call 24; refine (callsIn_of HF (quotes_Inside.walk s _ hs)).mono ?_; rintro e w3 ⟨v1, rfl, hrow, hb3⟩; have R3 := Aside0.mk (row_mono hrow HB.le); have V1 := Aside0.mk (row_one hrow); have HK3 := Aside0.mk hb3; have HBn := HB.step hb3; clear HB hb3 hrow; have HB := HBn; clear HBn)
    | ((with_reducible refine gate_dstIn (N := 3) rfl ?_); refine ev_allocIn HB rfl rfl (#[.int .i64 0, .slice none 0 0]) 38 ?hr ?_; (case hr => first | (go_simp; done) | (go_simp; rfl)); intro g3 w4 G_g3 GE_g3 B_g3 HBn K_g3 KO_w4; clear HB; have HB := HBn; clear HBn)
    | ((with_reducible refine gate_In (Op.store 38 (.tmp 3) (.tmp 8)) rfl ?_); refine ev_storeIn HB B_g3 GE_g3 rfl 38 _ _ rfl rfl rfl (by kernel_rfl) rfl (by simp [Value.oneCell']; exact V1.out) ?_; intro w5 B3 HBn K_w5 KO_w5; clear HB; have HB := HBn; clear HBn))
  have N23 := Aside0.mk (show g2 < g3 by have := G_g3.out; have := B_g2.lt; have := HK3.out.size; omega)
  have B2 := ((B_g2.below HK3.out).below K_g3.out).other K_w5 (Nat.ne_of_lt N23.out)
  have R5 := row_other (row_below R3.out K_g3.out) B_g3 (by decide) K_w5
  have O2 : 0 < g2 := by have := GE_g2.out; have := HT.out.pos; omega
  clear B_g2 B_g3 K_g2 K_g3 K_w5 KO_w2 KO_w4 KO_w5 R3 HK3 G_g2 G_g3
  gi_wp2_with (first
    | (gi_at_call 58; refine (callsIn_of HF (block_Blocks.calls s 32 _)).mono ?_; rintro e w7 ⟨h1, h2, rfl, GE1, GE2, A1, A2, HB7⟩))
  obtain ⟨L, hL⟩ : ∃ L : List (Nat × Array Value × Nat), L = [(g3, #[.int .i64 s.size, v1], 38), (g2, #[.int .i64 0], 3), (h1, #[.string s], 9), (h2, #[.int .u8 32], 5)] := ⟨_, rfl⟩
  have CL : Blks L w7 := ⟨by
    rw [hL]
    intro b m
    simp at m
    rcases m with rfl | rfl | rfl | rfl
    · exact B3.below HB7.out
    · exact B2.below HB7.out
    · exact A1
    · exact A2⟩
  have C7 := row_below R5 HB7.out
  have LL : ∀ b ∈ L, b.1 < w7.heap.size := fun b m => (CL.out b m).lt
  have LT : ∀ b ∈ L, b.2.2 ≠ 64 := by
    rw [hL]
    intro b m
    simp at m
    rcases m with rfl | rfl | rfl | rfl <;> (dsimp only; decide)
  have M3 : (g3, #[.int .i64 s.size, v1], 38) ∈ L := by rw [hL]; simp
  have M2 : (g2, #[.int .i64 0], 3) ∈ L := by rw [hL]; simp
  have M4 : (h1, #[.string s], 9) ∈ L := by rw [hL]; simp
  have M5 : (h2, #[.int .u8 32], 5) ∈ L := by rw [hL]; simp
  have HBW := HB.step HB7.out
  have HT7 := HT.out.stepH HBW
  have LH1 := A1.lt
  have LH2 := A2.lt
  have PL := Aside0.mk (And.intro LL LT)
  have PM := Aside0.mk (And.intro M3 (And.intro M2 (And.intro M4 M5)))
  clear B2 B3 R5 HB7 HB f1 hL LL LT M2 M3 M4 M5 N23 HT O2
  refine wpIn_rangeFunc_ownH hro (by decide) (gf := 83) (lb := #[.pointer (some ⟨h1, 0, none⟩), .pointer (some ⟨h2, 0, none⟩)]) rfl f2 (enters_of Tryd.func83 (by kernel_rfl) rfl)
    (block_Blocks_1.stops F HF (9 - 1) (by decide) h1 h2 s 32 hs w7 A1 A2) Keep2.trans (fun W l o o' hl ho hc hw => Keep2.putObj LH1 LH2 W l o o' hl ho hc hw) (Below.refl _ _) (fun _ => rfl)
    (CtlI s w L w7.heap.size v1) (fun c pre W => c = .ret ∧ CtlX s w g2 pre W)
    (fun pre A B row hs hg hr => hs.kept HBW.le hg hr)
    (fun c pre A B row hs hg hr => ⟨hs.1, hs.2.kept HBW.le hg hr⟩)
    ⟨CL, C7, fun x hx => absurd hx List.not_mem_nil, HT7, HBW, Nat.le_refl _⟩
    (fun x a' W => ∃ gb, w7.heap.size ≤ gb ∧ Blk W gb (blkA (cutF s (64 * ((x.val : Nat) : Int)) 32)) 79 ∧ a' = { tmps := #[.string s, undef, .pointer (some ⟨g2, 0, none⟩), .pointer (some ⟨g3, 0, none⟩), .int .i64 (64 * ((x.val : Nat) : Int)), .pointer (some ⟨gb, 0, none⟩), undef, .string s, .agg #[.int .i64 s.size, v1], .string s, .func (.func 83) #[] #[.pointer (some ⟨h1, 0, none⟩), .pointer (some ⟨h2, 0, none⟩)], .int .i64 (64 * ((x.val : Nat) : Int)), .agg (blkA (cutF s (64 * ((x.val : Nat) : Int)) 32)), undef, undef, undef, undef, undef, undef, undef, undef, undef, undef, undef, undef, undef, undef, undef, undef, undef], defers := [] })
    (fun x a' pre A B row hs hg hr => by
      obtain ⟨gb, h1, h2, h3⟩ := hs
      exact ⟨gb, h1, h2.kept hg (fun r e => (hr r e).2), h3⟩)
    ?assign ?body ?done ?stop
  case assign =>
    intro l pre x W K hI hK
    have HB := hI.hb
    have SZ := Aside0.mk hI.sz
    dsimp only [blkEnc]
    gi_wp2_with (first
      | ((with_reducible refine gate_dstIn (N := 5) rfl ?_); refine ev_allocIn HB rfl rfl (blkA fun _ => 0) 79 ?hr ?_; (case hr => (rw [← blkA_zero]; go_simp; rfl)); intro gb w8 G_gb GE_gb B_gb HBn K_gb KO_w8; clear HB; have HB := HBn; clear HBn)
      | ((with_reducible refine gate_In (Op.store 79 (.tmp 5) (.tmp 12)) rfl ?_); refine ev_storeIn HB B_gb GE_gb rfl 79 _ _ rfl rfl rfl (size64' _) (by rw [blkA_size, blkA_size]) (blkA_one _) ?_; intro w9 B9 HBn K_w9 KO_w9; clear HB; have HB := HBn; clear HBn))
    have hKO := KO_w8.out.trans KO_w9.out
    refine hK _ _ (hKO.from _) ?_ ?_ ⟨gb, Nat.le_trans SZ.out G_gb.out, B9, rfl⟩
    · exact (Keep2.below K_gb.out (by have := SZ.out; omega) (by have := SZ.out; omega)).trans (Keep2.other K_w9 (by have := SZ.out; have := G_gb.out; omega) (by have := SZ.out; have := G_gb.out; omega))
    · have N : ∀ g, g < w7.heap.size → g ≠ gb := fun g h => by have := SZ.out; have := G_gb.out; omega
      have P7 := HT7.pos
      exact ⟨(hI.bs.below K_gb.out).other K_w9 (fun b m => N _ (PL.out.1 b m)), row_other (row_below hI.row K_gb.out) B_gb (by decide) K_w9, hI.no, (hI.ht.step K_gb.out).other (Nat.pos_of_ne_zero (Ne.symm (N 0 P7))) K_w9, HB, Nat.le_trans SZ.out (Nat.le_trans K_gb.out.size K_w9.out.1)⟩
  case body =>
    rintro l pre x a' W hl ⟨r, hr⟩ hI ⟨gb, hgb, BX, rfl⟩ hlt
    clear hr hlt
    obtain (⟨_, hn0⟩ | ⟨g, cap, cur, rfl, hbg, BG, HA⟩) := row_openN hI.row
    · have := x.isLt; omega
    obtain ⟨V, hV⟩ : ∃ V, V = iv (wordAt s.size (insS s) x.val) := ⟨_, rfl⟩
    obtain ⟨M, hM⟩ : ∃ M, M = iv (word fun j => lowX (cutF s (64 * ((x.val : Nat) : Int)) 32 j).toNat) := ⟨_, rfl⟩
    obtain ⟨BAD, hBAD⟩ : ∃ BAD, BAD = iv (wordAt s.size (ctq s) x.val) := ⟨_, rfl⟩
    have HAND : Aside0 (bits .and .u64 M V = BAD) := ⟨by rw [hM, hV, hBAD]; exact class_in s x.val lowX (insS s)⟩
    have hget : ((wordsOf s.size (insS s)).map (Value.int .u64))[x.val]? = some (.int .u64 V) := by
      rw [List.getElem?_map, wordsOf, List.getElem?_map, List.getElem?_range x.isLt, hV]
      rfl
    have EQ : Aside0 (∀ w, Calls Tryd.prog 65 #[.agg (blkA (cutF s (64 * ((x.val : Nat) : Int)) 32)), .agg #[.int .u64 4294967295, .int .u64 0, .int .u64 0, .int .u64 0]] w fun e w' => e = .returned (.int .u64 M) ∧ Below w.heap.size w w') := ⟨fun w => by
      rw [hM, ← low_cls]
      exact block_Mask.calls _ (fun i => cutF_range s _ 32 (by decide) i) lowX w⟩
    have HG := Aside0.mk (HA _ _ hget)
    have HBD := Aside0.mk hBAD
    have hq1 : 64 * ((x.val : Nat) : Int) / 64 = ((x.val : Nat) : Int) := by omega
    have hq2 : Int.tdiv (64 * ((x.val : Nat) : Int)) 64 = ((x.val : Nat) : Int) := by rw [Int.tdiv_eq_ediv_of_nonneg (by omega)]; omega
    have hq3 : (0 : Int) ≤ ((x.val : Nat) : Int) := by omega
    have hq4 : ((x.val : Nat) : Int) < ((nwords s.size : Nat) : Int) := by have := x.isLt; omega
    have hq5 : ((x.val : Nat) : Int) ≤ 4398046511104 := by have := x.isLt; unfold nwords at this; omega
    have hq6 : IntKind.i64.wrap ((x.val : Nat) : Int) = ((x.val : Nat) : Int) := by rw [i64_w]; unfold wrap64; omega
    have hbd : Aside0 (Below W.heap.size W W.drew) := ⟨below_drew (Below.refl _ _)⟩
    have HI := Aside0.mk hI
    have I' := hI.below hbd.out
    have BX' := BX.below hbd.out
    have BG' := BG.below hbd.out
    have KO' := Aside0.mk (keepsOthers_below hbd.out)
    have HZ' := Aside0.mk hbd.out.size
    clear hbg BG HA hget BX hI hV hM hBAD
    gi_upto_region 5 with (fail)
    refine wpIn_region_last_drew HF (S := fun W' => Blk W' g3 #[.int .i64 s.size, .slice (some ⟨g, 0, none⟩) (nwords s.size) cap] 38 ∧ Blk W' gb (blkA (cutF s (64 * ((x.val : Nat) : Int)) 32)) 79 ∧ Blk W' g cur 64) (ds := []) (by kernel_rfl) (by kernel_rfl) ⟨I'.bs.out _ PM.out.1, BX', BG'⟩ (fun hS => ?_)
    refine wpAnyLast_take (i := 0) (oi := Oper.mk _ _ _ _ _ _) rfl (by kernel_rfl) (by kernel_rfl) (by kernel_rfl) (by kernel_rfl) (by kernel_rfl) (fun _ _ _ h => h) (rg_load (by rfl) (fun _ hS => hS.2.1) 79 _ rfl rfl Tryd.underlying79 rfl (size64' _)) hS ?_
    try simp only [Act.put, List.setIfInBounds_toArray, List.set_cons_zero, List.set_cons_succ]
    refine' wpAnyLast_take (i := 1) (oi := Oper.mk _ _ _ _ _ _) rfl (by kernel_rfl) (by kernel_rfl) (by kernel_rfl) (by kernel_rfl) (by kernel_rfl) (fun _ _ _ h => h) (Or.inl ⟨by rfl, ?hy1⟩) hS ?rest1
    case hy1 => (intro w hSw; (try dsimp only at hSw); first | (go_simp; done) | (go_simp; with_reducible rfl))
    try simp only [Act.put, List.setIfInBounds_toArray, List.set_cons_zero, List.set_cons_succ]
    refine' wpAnyLast_take (i := 2) (oi := Oper.mk _ _ _ _ _ _) rfl (by kernel_rfl) (by kernel_rfl) (by kernel_rfl) (by kernel_rfl) (by kernel_rfl) (fun _ _ _ h => h) (Or.inl ⟨by rfl, ?hy2⟩) hS ?rest2
    case hy2 => (intro w hSw; (try dsimp only at hSw); first | (go_simp; done) | (go_simp; with_reducible rfl))
    try simp only [Act.put, List.setIfInBounds_toArray, List.set_cons_zero, List.set_cons_succ]
    refine' wpAnyLast_take (i := 4) (oi := Oper.mk _ _ _ _ _ _) rfl (by kernel_rfl) (by kernel_rfl) (by kernel_rfl) (by kernel_rfl) (by kernel_rfl) (fun _ _ _ h => h) (Or.inl ⟨by rfl, ?hy3⟩) hS ?rest3
    case hy3 => (intro w hSw; (try dsimp only at hSw); first | (go_simp; done) | (go_simp; with_reducible rfl))
    try simp only [Act.put, List.setIfInBounds_toArray, List.set_cons_zero, List.set_cons_succ]
    refine wpAnyLast_take (i := 5) (oi := Oper.mk _ _ _ _ _ _) rfl (by kernel_rfl) (by kernel_rfl) (by kernel_rfl) (by kernel_rfl) (by kernel_rfl) (fun _ _ _ h => h) (rg_load1 (by rfl) (fun _ hS => hS.1.cell (i := 1) rfl) 36 _ rfl rfl (fun _ => by simp [isAgg, run_underlying Tryd.underlying36])) hS ?_
    try simp only [Act.put, List.setIfInBounds_toArray, List.set_cons_zero, List.set_cons_succ]
    refine' wpAnyLast_take (i := 6) (oi := Oper.mk _ _ _ _ _ _) rfl (by kernel_rfl) (by kernel_rfl) (by kernel_rfl) (by kernel_rfl) (by kernel_rfl) (fun _ _ _ h => h) (Or.inl ⟨by rfl, ?hy4⟩) hS ?rest4
    case hy4 => (intro w hSw; (try dsimp only at hSw); first | (go_simp; done) | (go_simp; with_reducible rfl))
    try simp only [Act.put, List.setIfInBounds_toArray, List.set_cons_zero, List.set_cons_succ]
    refine' wpAnyLast_take (i := 7) (oi := Oper.mk _ _ _ _ _ _) rfl (by kernel_rfl) (by kernel_rfl) (by kernel_rfl) (by kernel_rfl) (by kernel_rfl) (fun _ _ _ h => h) (Or.inl ⟨by rfl, ?hy5⟩) hS ?rest5
    case hy5 => (intro w hSw; (try dsimp only at hSw); first | (go_simp; done) | (go_simp; with_reducible rfl))
    try simp only [Act.put, List.setIfInBounds_toArray, List.set_cons_zero, List.set_cons_succ]
    refine' wpAnyLast_take (i := 8) (oi := Oper.mk _ _ _ _ _ _) rfl (by kernel_rfl) (by kernel_rfl) (by kernel_rfl) (by kernel_rfl) (by kernel_rfl) (fun _ _ _ h => h) (Or.inl ⟨by rfl, ?hy6⟩) hS ?rest6
    case hy6 => (intro w hSw; (try dsimp only at hSw); first | (go_simp; done) | (go_simp; with_reducible rfl))
    try simp only [Act.put, List.setIfInBounds_toArray, List.set_cons_zero, List.set_cons_succ]
    refine wpAnyLast_take (i := 9) (oi := Oper.mk _ _ _ _ _ _) rfl (by kernel_rfl) (by kernel_rfl) (by kernel_rfl) (by kernel_rfl) (by kernel_rfl) (fun _ _ _ h => h) (rg_load1 (by rfl) (fun _ hS => hS.2.2.cell HG.out) 64 _ rfl rfl (fun _ => by simp [isAgg, run_underlying Tryd.underlying64])) hS ?_
    try simp only [Act.put, List.setIfInBounds_toArray, List.set_cons_zero, List.set_cons_succ]
    refine wpAnyLast_ready (rs := [3]) (by kernel_rfl) (by simp) ?_
    refine AllReadyL.cons (o := Oper.mk _ _ _ _ _ _) rfl (by decide) (fun K hK => ?_) ?_
    · refine rg_call (by rfl) _ _ (.int .u64 M) (by first | (go_simp; done) | (go_simp; rfl)) (EQ.out _) ?_
      intro W' hb
      have I2 := I'.below hb.out
      have BX2 := BX'.below hb.out
      have BG2 := BG'.below hb.out
      have KO2 := Aside0.mk (KO'.out.trans (keepsOthers_below hb.out))
      have HZ2 := Aside0.mk (Nat.le_trans HZ'.out hb.out.size)
      clear I' BX' BG' KO' HZ'
      refine hK.out _ _ ⟨I2.bs.out _ PM.out.1, BX2, BG2⟩ (fun hS => ?_)
      clear hK K
      try simp only [Act.put, List.setIfInBounds_toArray, List.set_cons_zero, List.set_cons_succ]
      refine' wpAnyLast_take (i := 10) (oi := Oper.mk _ _ _ _ _ _) rfl (by kernel_rfl) (by kernel_rfl) (by kernel_rfl) (by kernel_rfl) (by kernel_rfl) (fun _ _ _ h => h) (Or.inl ⟨by rfl, ?hy7⟩) hS ?rest7
      case hy7 => (intro w hSw; (try dsimp only at hSw); first | (go_simp; done) | (go_simp; with_reducible rfl))
      try simp only [Act.put, List.setIfInBounds_toArray, List.set_cons_zero, List.set_cons_succ]
      refine' wpAnyLast_take (i := 11) (oi := Oper.mk _ _ _ _ _ _) rfl (by kernel_rfl) (by kernel_rfl) (by kernel_rfl) (by kernel_rfl) (by kernel_rfl) (fun _ _ _ h => h) (Or.inl ⟨by rfl, ?hy8⟩) hS ?rest8
      case hy8 => (intro w hSw; (try dsimp only at hSw); first | (go_simp; done) | (go_simp; with_reducible rfl))
      try simp only [Act.put, List.setIfInBounds_toArray, List.set_cons_zero, List.set_cons_succ]
      refine wpAnyLast_done (by kernel_rfl) ?_ _
      refine Straight.normal ?_
      rw [HAND.out]
      have HB := I2.hb
      by_cases h0 : BAD = 0
      · have t0 : (BAD == 0) = true := beq_iff_eq.mpr h0
        have H0 := Aside0.mk h0
        clear h0
        gi_wp2
        refine ⟨KO2.out.from _, Keep2.of_blk (HI.out.bs.out _ PM.out.2.2.1) (HI.out.bs.out _ PM.out.2.2.2) (I2.bs.out _ PM.out.2.2.1) (I2.bs.out _ PM.out.2.2.2) HZ2.out, I2.bs, I2.row, ?_, I2.ht, HB, Nat.le_trans HI.out.sz HZ2.out⟩
        intro y hy j hj hn
        rcases List.mem_append.1 hy with hy | hy
        · exact I2.no y hy j hj hn
        · rw [List.mem_singleton] at hy
          subst hy
          exact block_none (HBD.out.symm.trans H0.out) j hj hn
      · have t0 : (BAD == 0) = false := beq_eq_false_iff_ne.mpr h0
        obtain ⟨j, y, hy, hyj, hj, hn, hc, hb4⟩ := block_some (n := s.size) (q := ctq s) (k := x.val) (fun e => h0 (HBD.out.trans e))
        have SEL : Aside0 (∀ w, TabOk w → Calls Tryd.prog 66 #[.int .u64 BAD, .int .i64 0] w fun e w' => e = .returned (.int .i64 (j : Int)) ∧ Below w.heap.size w w') := ⟨fun w hw => by
          have e := words_Select.walk (fun i => decide (64 * x.val + i < s.size) && ctq s (64 * x.val + i)) 0 (Int.le_refl _) (by decide) w hw
          have e2 : selW (fun i => decide (64 * x.val + i < s.size) && ctq s (64 * x.val + i)) 0 = (j : Int) := by
            unfold selW
            rw [show (0 : Int).toNat = 0 from rfl, hy, ← hyj]
          rw [e2] at e
          rw [HBD.out]
          exact e⟩
        have HW : wrap64 (64 * ((x.val : Nat) : Int) + (j : Int)) = 64 * ((x.val : Nat) : Int) + (j : Int) := by unfold wrap64; omega
        have HX := Aside0.mk (And.intro hj (And.intro hn (And.intro hc hb4)))
        have TT := Aside0.mk I2.ht
        have P2 := I2.bs.out _ PM.out.2.1
        clear h0 hy hyj hj hn hc hb4 BX2 BG2
        gi_wp2_with (first
          | (gi_at_call 66; refine (callsIn_of HF (SEL.out _ TT.out)).mono ?_; rintro e w11 ⟨rfl, hb11⟩; have P3 := P2.below hb11; have HBn := HB.step hb11; have KS := Aside0.mk (keepsOthers_below hb11); clear HB P2 hb11; have HB := HBn; clear HBn)
          | ((with_reducible refine gate_In (Op.store 3 (.tmp 2) (.tmp 29)) rfl ?_); refine ev_store1In (i := 0) HB P3 GE_g2 rfl 3 _ _ rfl rfl _ rfl (by simp) (by kernel_rfl) rfl ?_; intro w6 B6 HB6 K_w6 KO_w6))
        rw [HW] at B6
        exact ⟨((KO2.out.trans KS.out).trans KO_w6.out).from _, rfl, ⟨x, pre, j, rfl, B6, HX.out.1, HX.out.2.1, HX.out.2.2.1, HX.out.2.2.2, I2.no⟩, HB6⟩
    exact AllReadyL.nil
  case done =>
    rintro D ys W hD rfl hI hK
    have HB := hI.hb
    have b2 := hI.bs.out _ PM.out.2.1
    have HNO := Aside0.mk (ctl_none hI.no)
    have HD := Aside0.mk hD
    have HKD := Aside0.mk hK
    clear hK hD
    gi_wp2_with (first
      | ((with_reducible refine gate_In (Op.store 3 (.tmp 2) (.const (.int .i64 (-1)))) rfl ?_); refine ev_store1In (i := 0) HB b2 GE_g2 rfl 3 _ _ rfl rfl _ rfl (by simp) (by kernel_rfl) rfl ?_; intro w20 B20 HB20 K_w20 KO_w20))
    have HK20 := KO_w20.out.same D _ HKD.out rfl
    have hg := grownBy_putObj' w20 D (.deferred none)
    have hle : w.heap.size ≤ D := Nat.le_trans HBW.le HD.out
    have hr2 : ∀ r, some D = some r → ∃ o : Obj, w20.heap[r]? = some o ∧ o.isCells = false := fun r e => by
      cases e
      exact ⟨_, HK20, rfl⟩
    refine ⟨by simp, .inl ⟨_, _, rfl, run_takeDeferred HK20, ?_⟩⟩
    refine ⟨_, results_cell1 rfl _ _ g2 3 _ _ rfl (B20.kept hg hr2) Tryd.underlying3 rfl, ?_, (HB20.kept hg hle (fun r e => by cases e; exact Nat.le_refl _)).out⟩
    rw [HNO.out]
    rfl
  case stop =>
    rintro D c pre W hD hp ⟨rfl, hX⟩ hK
    obtain ⟨x, p, j, rfl, b4, h1, h2, h3, h4, h5⟩ := hX.res
    have hg := grownBy_putObj' W D (.deferred none)
    have hle : w.heap.size ≤ D := Nat.le_trans HBW.le hD
    have hr2 : ∀ r, some D = some r → ∃ o : Obj, W.heap[r]? = some o ∧ o.isCells = false := fun r e => by
      cases e
      exact ⟨_, hK, rfl⟩
    gi_wp2
    refine ⟨by simp, .inl ⟨_, _, rfl, run_takeDeferred hK, ?_⟩⟩
    refine ⟨_, results_cell1 rfl _ _ g2 3 _ _ rfl (b4.kept hg hr2) Tryd.underlying3 rfl, ?_, (hX.hb.kept hg hle (fun r e => by cases e; exact Nat.le_refl _)).out⟩
    rw [ctl_some hp h1 h2 h3 h4 h5]
theorem quotes_Control.calls (a0 : ByteArray) (r : Int) (w : World) (hT : TabOk w) (h : quotes_Control.f a0 = some r) :
    Calls Tryd.prog 29 #[.string a0] w fun e w' => e = .returned (.int .i64 r) ∧ Below w.heap.size w w' := by
  unfold quotes_Control.f at h
  by_cases hs : a0.size ≤ 281474976702464
  case neg => rw [if_neg hs] at h; cases h
  rw [if_pos hs] at h
  simp only [Option.some.injEq] at h
  subst h
  exact quotes_Control.walk a0 w hs hT
end


/-! ### bitmap_Each_1: function 88 -/
section
open Go.Proofs.YtadcgjmhhodnoaaDoorQ Go.Proofs.YtadcgjmhhodnoaaDoorM Go.Shelf
attribute [local go_sem] Oper.semAt_some
/-- A row of words, as a variable holds it: in block g. -/
structure RowV (v : Value) (g : Nat) (l : List Int) (W : World) : Prop where mk ::
  out : (v = .slice none 0 0 ∧ l = []) ∨ ∃ cap cur, v = .slice (some ⟨g, 0, none⟩) l.length cap ∧ Blk W g cur 64 ∧ RowA cur (l.map (Value.int .u64))
theorem RowV.heap {v : Value} {g : Nat} {l : List Int} {W W' : World} (h : RowV v g l W) (e : W'.heap[g]? = W.heap[g]?) : RowV v g l W' := by
  rcases h.out with h0 | ⟨cap, cur, h1, h2, h3⟩
  · exact ⟨.inl h0⟩
  · exact ⟨.inr ⟨cap, cur, h1, ⟨e.trans h2.out⟩, h3⟩⟩
/-- The set places of a row of words. -/
def bitL (l : List Int) (p : Nat) : Bool := (l.getD (p / 64) 0).toNat.testBit (p % 64)
theorem bitL_word (l : List Int) (i : Nat) (h : ∀ x ∈ l, 0 ≤ x ∧ x < 18446744073709551616) (hi : i < l.length) : (l.map (Value.int .u64))[i]? = some (.int .u64 (iv (word fun j => bitL l (64 * i + j)))) := by
  have hg : l[i]? = some (l.getD i 0) := by rw [List.getD_eq_getElem?_getD, List.getElem?_eq_getElem hi]; rfl
  rw [List.getElem?_map, hg, Option.map_some]
  obtain ⟨h0, h1⟩ := h (l.getD i 0) (List.mem_of_getElem? hg)
  have e : word (fun j => bitL l (64 * i + j)) = word (fun j => (l.getD i 0).toNat.testBit j) := word_ext fun j hj => by
    unfold bitL
    rw [show (64 * i + j) / 64 = i by omega, show (64 * i + j) % 64 = j by omega]
  rw [e, ← iv_bits h0 h1]
/-- The places of one word among those of the row. -/
def inRow (l : List Int) (i : Nat) (hi : i < l.length) (x : SetP 64 fun j => bitL l (64 * i + j)) : SetP (64 * l.length) (bitL l) := ⟨64 * i + x.val, by have := x.2.1; omega, x.2.2⟩
theorem row_set (l : List Int) (i : Nat) (hi : i < l.length) : ∀ k, k ≤ 64 → setP (64 * l.length) (bitL l) (64 * i + k) = setP (64 * l.length) (bitL l) (64 * i) ++ (setP 64 (fun j => bitL l (64 * i + j)) k).map (inRow l i hi)
  | 0, _ => by simp [setP]
  | k + 1, hk => by
    have ih := row_set l i hi k (by omega)
    by_cases h : bitL l (64 * i + k) = true
    · rw [show 64 * i + (k + 1) = (64 * i + k) + 1 by omega, setP_at ⟨by omega, h⟩, setP_at (n := 64) (q := fun j => bitL l (64 * i + j)) ⟨by omega, h⟩, ih, List.map_append, ← List.append_assoc]
      rfl
    · rw [show 64 * i + (k + 1) = (64 * i + k) + 1 by omega, setP_skip (fun c => h c.2), setP_skip (n := 64) (q := fun j => bitL l (64 * i + j)) (fun c => h c.2), ih]
/-- Between two set bits of one word. -/
structure BEI (α : Type) (J : List Nat → List α → World → Prop) (X : List Nat) (pre0 : List α) {β : Type} (f : β → α) (g2 g5 : Nat) (l i : Nat) (v : Value) (gr : Nat) (L : List Int) (W0 : World) (Ds : List Nat) (m : Nat) (pre : List β) (W : World) : Prop where mk ::
  j : J X (pre0 ++ pre.map f) W
  b2 : Blk W g2 #[.func (.yield l) #[] #[]] 105
  b5 : Blk W g5 #[.int .i64 (i : Int)] 3
  rv : RowV v gr L W
  ht : TabOk W
  mk_ : Marks W0.heap.size Ds W
  sz : m ≤ W.heap.size
theorem RowV.kept {v : Value} {g : Nat} {l : List Int} {W W' : World} (h : RowV v g l W) {row : Option Nat} (hg : W.grownBy W' row) (hr : ∀ r, row = some r → ∃ o : Obj, W.heap[r]? = some o ∧ o.isCells = false) : RowV v g l W' := by
  rcases h.out with h0 | ⟨cap, cur, h1, h2, h3⟩
  · exact ⟨.inl h0⟩
  · exact ⟨.inr ⟨cap, cur, h1, h2.kept hg hr, h3⟩⟩
theorem RowV.below {v : Value} {g : Nat} {l : List Int} {W W' : World} (h : RowV v g l W) (hb : Below W.heap.size W W') : RowV v g l W' := by
  rcases h.out with h0 | ⟨cap, cur, h1, h2, h3⟩
  · exact ⟨.inl h0⟩
  · exact ⟨.inr ⟨cap, cur, h1, h2.below hb, h3⟩⟩
theorem BEI.kept {α : Type} {J : List Nat → List α → World → Prop} {X : List Nat} {pre0 : List α} {β : Type} {f : β → α} {g2 g5 l i : Nat} {v : Value} {gr : Nat} {L : List Int} {W0 : World} {Ds : List Nat} {m : Nat} {pre : List β} {W W' : World}
    (h : BEI α J X pre0 f g2 g5 l i v gr L W0 Ds m pre W) (hJ : OwnFrom W0.heap.size (J X)) (hm : W0.heap.size ≤ m) (hD : ∀ D ∈ Ds, D < m) {row : Option Nat} (hg : W.grownBy W' row) (hr : ∀ r, row = some r → m ≤ r ∧ ∃ o : Obj, W.heap[r]? = some o ∧ o.isCells = false) : BEI α J X pre0 f g2 g5 l i v gr L W0 Ds m pre W' := by
  have hr' : ∀ r, row = some r → ∃ o : Obj, W.heap[r]? = some o ∧ o.isCells = false := fun r e => (hr r e).2
  exact ⟨hJ _ _ _ _ h.j hg (fun r e => ⟨Nat.le_trans hm (hr r e).1, (hr r e).2⟩), h.b2.kept hg hr', h.b5.kept hg hr', h.rv.kept hg hr', h.ht.kept hg hr', h.mk_.grown hg hD (fun r e => (hr r e).1), Nat.le_trans h.sz hg.size⟩
set_option maxHeartbeats 4000000 in
set_option maxRecDepth 100000 in
theorem bitmap_Each_1.stops (F : Fence) (HF : Aside0 (F = Fence.wide)) (n : Nat) (hn : 5 ≤ n) (g3 gr : Nat) (v : Value) (L : List Int) (hL : ∀ x ∈ L, 0 ≤ x ∧ x < 18446744073709551616) (hl8 : L.length ≤ 17592186044416) (w : World)
    (B3 : Blk w g3 #[v] 36) (hRV : RowV v gr L w) (hgr : gr < w.heap.size) (hT : TabOk w) :
    SeqO F n Tryd.prog 88 #[.pointer (some ⟨g3, 0, none⟩)] (fun x : SetP (64 * L.length) (bitL L) => #[.int .i64 (x.val : Int)]) (Keep2 0 gr) (fun ys => ys = setP (64 * L.length) (bitL L) (64 * L.length)) (fun pre => pre <+: setP (64 * L.length) (bitL L) (64 * L.length)) w := by
  intro l J Jx W0 hW hJo hJxo hE hA hY h0
  have HAB := Aside0.mk hA
  clear hA
  have HY := Aside0.mk hY
  have HJ0 := Aside0.mk h0
  have HT := Aside0.mk (hT.step hW)
  have HRV := Aside0.mk (hRV.below hW)
  have HGR := Aside0.mk (Nat.lt_of_lt_of_le hgr hW.size)
  have HJO := Aside0.mk hJo
  have HJXO := Aside0.mk hJxo
  have HE := Aside0.mk hE
  have HL := Aside0.mk hL
  have HL8 := Aside0.mk hl8
  have C3 := B3.below hW
  clear hJo hJxo hE hY h0 hT hRV hgr hW hL hl8 B3
  have f0 := wide_fn HF 51
  have f2 := wide_fn HF 79
  have n1 : 1 ≤ n := by omega
  have n2 : 1 ≤ n - 1 := by omega
  have n3 : 1 ≤ n - 1 - 1 := by omega
  have hro := wide_round HF
  have HB := BelowH.refl W0
  have c3 := C3.cell (i := 0) rfl
  rcases HRV.out.out with ⟨rfl, rfl⟩ | ⟨cap, cur, rfl, _, _⟩
  · refine callsIn_of_wp_marks Tryd.func88 rfl (wide_fn HF _) ?_ hro
    simp only [Tryd.ntmps88, List.size_toArray, List.length_cons, List.length_nil, Nat.reduceAdd, Nat.reduceSub, Array.replicate_succ, Array.replicate_zero, List.push_toArray, List.append_toArray, List.nil_append, List.cons_append]
    gi_wp2_with (first
      | (((with_reducible refine gate_dstIn (N := 2) rfl ?_); refine ev_allocIn HB rfl rfl (#[.func (.yield l) #[] #[]]) 105 ?hr ?_; (case hr => first | (go_simp; done) | (go_simp; rfl)); intro g2 w2 G_g2 GE_g2 B_g2 HBn K_g2 KO_w2; clear HB; have HB := HBn; clear HBn); have c3' := (C3.below K_g2.out).cell (i := 0) rfl))
    refine wpIn_loopM (fun k a W => a = { tmps := #[.func (.yield l) #[] #[], .pointer (some ⟨g3, 0, none⟩), .pointer (some ⟨g2, 0, none⟩), undef, undef, undef, .slice none 0 0, .int .i64 0, .int .i64 0, undef, undef, undef, undef, undef, undef, undef, undef, undef, undef, undef, undef, undef, undef, undef], defers := [] } ∧ W = w2) 0 ⟨rfl, rfl⟩ ?_
    rintro k a W ⟨rfl, rfl⟩ K hK
    gi_wp2
    exact ⟨_, results_none rfl _ _ _, ⟨_, rfl⟩, .inl ⟨[], [], rfl, fun k hk => (List.not_mem_nil hk).elim, HJO.out [] [] _ _ none HJ0.out ⟨K_g2.out.os, K_g2.out.tape, K_g2.out.output, K_g2.out.size, fun k hk _ => K_g2.out.block k hk⟩ (fun r e => by cases e)⟩⟩
  refine callsIn_of_wp_marks Tryd.func88 rfl (wide_fn HF _) ?_ hro
  simp only [Tryd.ntmps88, List.size_toArray, List.length_cons, List.length_nil, Nat.reduceAdd, Nat.reduceSub, Array.replicate_succ, Array.replicate_zero, List.push_toArray, List.append_toArray, List.nil_append, List.cons_append]
  gi_wp2_with (first
    | (((with_reducible refine gate_dstIn (N := 2) rfl ?_); refine ev_allocIn HB rfl rfl (#[.func (.yield l) #[] #[]]) 105 ?hr ?_; (case hr => first | (go_simp; done) | (go_simp; rfl)); intro g2 w2 G_g2 GE_g2 B_g2 HBn K_g2 KO_w2; clear HB; have HB := HBn; clear HBn); have c3' := (C3.below K_g2.out).cell (i := 0) rfl))
  have HJ2 := Aside0.mk (HJO.out [g2] [] _ _ none (HE.out [] [] W0 g2 HJ0.out G_g2.out) ⟨K_g2.out.os, K_g2.out.tape, K_g2.out.output, K_g2.out.size, fun k hk _ => K_g2.out.block k hk⟩ (fun r e => by cases e))
  have HX2 : Aside0 (∀ k ∈ [g2], W0.heap.size ≤ k ∧ k < w2.heap.size) := ⟨fun k hk => by rw [List.mem_singleton.1 hk]; exact ⟨G_g2.out, B_g2.lt⟩⟩
  have HRV2 := Aside0.mk (HRV.out.below K_g2.out)
  have HT2 := Aside0.mk (HT.out.step K_g2.out)
  have HZ2 := Aside0.mk K_g2.out.size
  refine wpIn_loopM (fun m a W => ∃ (i : Nat) (X Ds : List Nat) (z8 : Int) (u3 u4 u5 u9 u10 u11 u12 u13 u14 u15 u16 u17 u18 u19 u20 u21 u22 u23 : Value), m = L.length - i ∧ z8 = (i : Int) ∧ i ≤ L.length ∧ a = { tmps := #[.func (.yield l) #[] #[], .pointer (some ⟨g3, 0, none⟩), .pointer (some ⟨g2, 0, none⟩), u3, u4, u5, .slice (some ⟨gr, 0, none⟩) L.length cap, .int .i64 (L.length : Int), .int .i64 z8, u9, u10, u11, u12, u13, u14, u15, u16, u17, u18, u19, u20, u21, u22, u23], defers := marksD Ds } ∧
    Aside0 (J X (setP (64 * L.length) (bitL L) (64 * i)) W) ∧ Aside0 (g2 ∈ X ∧ ∀ k ∈ X, W0.heap.size ≤ k ∧ k < W.heap.size) ∧ Aside0 (Blk W g2 #[.func (.yield l) #[] #[]] 105) ∧ Aside0 (RowV (.slice (some ⟨gr, 0, none⟩) L.length cap) gr L W) ∧ Aside0 (TabOk W) ∧ Aside0 (Marks W0.heap.size Ds W) ∧ Aside0 (W0.heap.size ≤ W.heap.size)) L.length
    ⟨0, [g2], [], 0, _, _, _, _, _, _, _, _, _, _, _, _, _, _, _, _, _, _, rfl, rfl, Nat.zero_le _, rfl, HJ2, ⟨List.mem_singleton.2 rfl, HX2.out⟩, ⟨B_g2⟩, HRV2, HT2, ⟨Marks.nil⟩, HZ2⟩ ?_
  rintro m a W ⟨i, X, Ds, z8, u3, u4, u5, u9, u10, u11, u12, u13, u14, u15, u16, u17, u18, u19, u20, u21, u22, u23, rfl, hz8, hi, rfl, HJ, HX, B2, HRV, HT, HM, HZ⟩ K hK
  have HKK := Aside0.mk hK
  clear hK HJ0 HJ2 HX2 HRV2 HT2 HZ2 B_g2 C3 c3 c3' HB K_g2 KO_w2 G_g2 GE_g2
  by_cases hlt : i < L.length
  · have HLT := Aside0.mk hlt
    rcases HRV.out.out with ⟨h0, _⟩ | ⟨cap', cur', he, BG, HA⟩
    · cases h0
    have cw := BG.cell (HA.get (bitL_word L i HL.out hlt))
    obtain ⟨x, hx⟩ : ∃ x, x = iv (word fun j => bitL L (64 * i + j)) := ⟨_, rfl⟩
    rw [← hx] at cw
    have HX0 := Aside0.mk hx
    have hq1 : (i : Int) < (L.length : Int) := by omega
    have hq2 : (0 : Int) ≤ (i : Int) := by omega
    subst hz8
    have HB := BelowH.refl W
    clear hx hlt BG HA he hi
    gi_wp2_with (first
      | ((with_reducible refine gate_dstIn (N := 3) rfl ?_); refine ev_allocIn HB rfl rfl (#[.int .i64 0]) 3 ?hr ?_; (case hr => first | (go_simp; done) | (go_simp; rfl)); intro g5 w5 G_g5 GE_g5 B_g5 HBn K_g5 KO_w5; clear HB; have HB := HBn; clear HBn)
      | ((with_reducible refine gate_In (Op.store 3 (.tmp 3) (.tmp 10)) rfl ?_); refine ev_store1In (i := 0) HB B_g5 GE_g5 rfl 3 _ _ rfl rfl (.int .i64 (i : Int)) rfl (by simp) (by kernel_rfl) rfl ?_; intro w6 B6 HBn K_w6 KO_w6; clear HB; have HB := HBn; clear HBn)
      | (gi_at_call 51; refine (callsIn_of HF (words_Each.calls x _)).mono ?_; rintro e w7 ⟨g1, rfl, GE1, B1, HB7⟩))
    have HBW := HB.step HB7.out
    have B5 := B6.below HB7.out
    have E2 := B2.out.below HBW.out
    have RV7 := HRV.out.below HBW.out
    have HT7 := Aside0.mk (HT.out.step HBW.out)
    have HM7 := HM.out.below HBW.out
    have hD7 : ∀ D ∈ Ds, D < w7.heap.size := fun D hD => HM7.lt hD
    have hm7 : W0.heap.size ≤ w7.heap.size := Nat.le_trans HZ.out HBW.le
    have G15 : W.heap.size ≤ g1 := by have := HB.le; omega
    have HJ7 := HJO.out (g1 :: g5 :: X) _ _ _ none (HE.out _ _ _ g1 (HE.out _ _ _ g5 HJ.out G_g5.out) G15) ⟨HBW.out.os, HBW.out.tape, HBW.out.output, HBW.out.size, fun k hk _ => HBW.out.block k hk⟩ (fun r e => by cases e)
    have HXX : Aside0 (∀ k ∈ g1 :: g5 :: X, W0.heap.size ≤ k ∧ k < w7.heap.size) := ⟨fun k hk => by
      have z1 := HZ.out
      have z2 := HBW.le
      have z3 := B1.lt
      have z4 := B5.lt
      have z5 := G_g5.out
      rcases List.mem_cons.1 hk with rfl | hk
      · omega
      · rcases List.mem_cons.1 hk with rfl | hk
        · omega
        · have := HX.out.2 k hk
          omega⟩
    rw [HX0.out] at B1
    have P0 := HT7.out.pos
    have L1 := B1.lt
    have HP := Aside0.mk (And.intro hD7 hm7)
    have HG2 := Aside0.mk HX.out.1
    clear HB HB7 B6 B_g5 K_g5 K_w6 KO_w5 KO_w6 G_g5 GE_g5 GE1 G15 hD7 hm7 HX B2 HRV HT HM HJ cw
    refine wpIn_rangeFunc_O hro n1 (gf := 79) (lb := #[.pointer (some ⟨g1, 0, none⟩)]) rfl f2 (enters_of Tryd.func79 (by kernel_rfl) rfl)
      (words_Each_1.stopsO F HF (n - 1) (by omega) g1 (fun j => bitL L (64 * i + j)) w7 B1 HT7.out) Keep2.trans (fun W l o o' hl ho hc hw => Keep2.putObj P0 P0 W l o o' hl ho hc hw) (Below.refl _ _) (fun _ => rfl)
      (fun X' => BEI _ J (X' ++ g1 :: g5 :: X) (setP (64 * L.length) (bitL L) (64 * i)) (inRow L i HLT.out) g2 g5 l i (.slice (some ⟨gr, 0, none⟩) L.length cap) gr L W0 Ds w7.heap.size)
      (fun c pre W => c = .ret ∧ Jx (setP (64 * L.length) (bitL L) (64 * i) ++ pre.map (inRow L i HLT.out)) W ∧ Marks W0.heap.size Ds W)
      (fun _ pre A B row hs hg hr => hs.kept (HJO.out _) HP.out.2 HP.out.1 hg hr)
      (fun c pre A B row hs hg hr => ⟨hs.1, HJXO.out _ _ _ _ hs.2.1 hg (fun r e => ⟨Nat.le_trans HP.out.2 (hr r e).1, (hr r e).2⟩), hs.2.2.grown hg HP.out.1 (fun r e => (hr r e).1)⟩)
      (fun X' pre A k h hk => ⟨HE.out _ _ _ k h.j hk, h.b2, h.b5, h.rv, h.ht, h.mk_, h.sz⟩)
      (fun X' pre A C hX' h ht => by
        have z1 := HP.out.2
        have z2 := h.sz
        have hXA : ∀ k ∈ X' ++ g1 :: g5 :: X, W0.heap.size ≤ k := fun k hk => by
          rcases List.mem_append.1 hk with hk | hk
          · have := hX' k hk
            omega
          · exact (HXX.out k hk).1
        have n2 : g2 ∉ X' := not_mem_above hX' (HXX.out g2 (List.mem_cons_of_mem _ (List.mem_cons_of_mem _ HG2.out))).2
        have n5 : g5 ∉ X' := not_mem_above hX' (HXX.out g5 (List.mem_cons_of_mem _ (List.mem_cons_self ..))).2
        have nr : gr ∉ X' := not_mem_above hX' (by have := HGR.out; omega)
        have n0 : 0 ∉ X' := not_mem_above hX' (by have := HT7.out.pos; omega)
        exact ⟨HAB.out _ _ _ _ hXA h.j (ht.mono fun k hk => List.mem_append_left _ hk), h.b2.turned ht n2, h.b5.turned ht n5, h.rv.heap (ht.block gr (by have := HGR.out; omega) nr), h.ht.heap (ht.block 0 h.ht.pos n0), h.mk_.same (fun D hD => ht.block D (h.mk_.lt hD) (not_mem_above hX' (HP.out.1 D hD))), Nat.le_trans h.sz ht.size⟩)
      ⟨by rw [List.map_nil, List.append_nil]; exact HJ7, E2, B5, RV7, HT7.out, HM7, Nat.le_refl _⟩
      (fun y a' W => a' = { tmps := #[.func (.yield l) #[] #[], .pointer (some ⟨g3, 0, none⟩), .pointer (some ⟨g2, 0, none⟩), .pointer (some ⟨g5, 0, none⟩), .int .u64 x, .int .i64 ((y.val : Nat) : Int), .slice (some ⟨gr, 0, none⟩) L.length cap, .int .i64 (L.length : Int), .int .i64 (i : Int), .bool true, .int .i64 (i : Int), .pointer (some ⟨gr, i, none⟩), .int .u64 x, .int .u64 x, .func (.func 79) #[] #[.pointer (some ⟨g1, 0, none⟩)], .int .i64 ((y.val : Nat) : Int), u16, u17, u18, u19, u20, u21, u22, u23], defers := [] })
      (fun x a' pre A B row hs hg hr => hs)
      ?assign ?body ?done ?stop
    case assign =>
      intro X' l' pre y W K' hX' hI hsp hK'
      dsimp only
      gi_wp2
      exact hK' _ _ ((KeepsOthers.refl _).from _) (fun _ _ => rfl) ⟨rfl, rfl, Nat.le_refl _⟩ hI rfl
    case body =>
      rintro X' l' pre y a' W' hX' hl ⟨r, hr⟩ hI rfl hsp
      clear hr
      have hpx : (setP (64 * L.length) (bitL L) (64 * i) ++ pre.map (inRow L i HLT.out)) ++ [inRow L i HLT.out y] <+: setP (64 * L.length) (bitL L) (64 * L.length) := by
        have h1 := row_set L i HLT.out 64 (Nat.le_refl _)
        refine List.IsPrefix.trans ?_ (setP_le (i := 64 * i + 64) (by have := HLT.out; omega))
        rw [h1, List.append_assoc]
        refine (List.prefix_append_right_inj _).2 ?_
        have h2 := hsp.map (inRow L i HLT.out)
        rwa [List.map_append] at h2
      have hXi : ∀ k ∈ X' ++ g1 :: g5 :: X, W0.heap.size ≤ k ∧ k < W'.heap.size := fun k hk => by
        rcases List.mem_append.1 hk with hk | hk
        · have := hX' k hk
          have := HP.out.2
          omega
        · have := HXX.out k hk
          have := hI.sz
          omega
      obtain ⟨fn, tmps, assign, body, hy, hR⟩ := HY.out (X' ++ g1 :: g5 :: X) _ (inRow L i HLT.out y) W' hXi hI.j hpx
      have e64 : (((inRow L i HLT.out y).val : Nat) : Int) = 64 * (i : Int) + ((y.val : Nat) : Int) := by
        show ((64 * i + y.val : Nat) : Int) = _
        omega
      rw [e64] at hy
      have HR := Aside0.mk hR
      have c2 := hI.b2.cell (i := 0) rfl
      have c5 := hI.b5.cell (i := 0) rfl
      have hb1 : (i : Int) ≤ 17592186044416 := by have := HL8.out; have := HLT.out; omega
      have hb2 : ((y.val : Nat) : Int) < 64 := by have := y.2.1; omega
      have hw1 : wrap64 (64 * (i : Int)) = 64 * (i : Int) := by unfold wrap64; omega
      have hw2 : wrap64 (64 * (i : Int) + ((y.val : Nat) : Int)) = 64 * (i : Int) + ((y.val : Nat) : Int) := by unfold wrap64; omega
      clear hR e64 hpx hXi hsp
      gi_wp2
      refine (roundIn_wide HF HR.out).mono ?_
      rintro e W2 ⟨hkf, hx, (⟨rfl, hJ2, hk2⟩ | ⟨rfl, hJx2⟩)⟩
      · have R5 := hx g5 (List.mem_append_right _ (List.mem_cons_of_mem _ (List.mem_cons_self ..)))
        have R2 := hx g2 (List.mem_append_right _ (List.mem_cons_of_mem _ (List.mem_cons_of_mem _ HG2.out)))
        have HJ2 := Aside0.mk hJ2
        clear hJ2
        gi_wp2
        refine ⟨KeepsFrom.up hkf HP.out.2, fun k hk => hx k (List.mem_append_left _ hk), ⟨hk2.1, hk2.1, hkf.size⟩, ?_, ⟨R2.trans hI.b2.out⟩, ⟨R5.trans hI.b5.out⟩, hI.rv.heap hk2.2.1, hI.ht.keep hk2, hI.mk_.keeps hkf (Nat.le_refl _), Nat.le_trans hI.sz hkf.size⟩
        rw [List.map_append, ← List.append_assoc]
        exact HJ2.out
      · have HJ2 := Aside0.mk hJx2
        clear hJx2
        gi_wp2
        refine ⟨KeepsFrom.up hkf HP.out.2, fun k hk => hx k (List.mem_append_left _ hk), rfl, ?_, hI.mk_.keeps hkf (Nat.le_refl _)⟩
        rw [List.map_append, ← List.append_assoc]
        exact HJ2.out
    case done =>
      rintro D X' ys W' hD hX' rfl hI hK'
      have HXD := Aside0.mk hX'
      clear hX'
      have HDn : D ∉ Ds := fun c => by have := HP.out.1 D c; omega
      have HM' := Aside0.mk (hI.mk_.cons (Nat.le_trans HP.out.2 hD) hK' HDn)
      have hI' := Aside0.mk hI
      have hb1 : (i : Int) ≤ 17592186044416 := by have := HL8.out; have := HLT.out; omega
      have hw1 : wrap64 ((i : Int) + 1) = (i : Int) + 1 := by unfold wrap64; omega
      have HD' := Aside0.mk (Nat.le_trans HP.out.2 hI.sz)
      clear hI hK' hD HDn
      gi_wp2
      refine HKK.out (L.length - (i + 1)) _ _ (by have := HLT.out; omega) ⟨i + 1, X' ++ g1 :: g5 :: X, D :: Ds, _, _, _, _, _, _, _, _, _, _, _, _, _, _, _, _, _, _, _, rfl, by omega, by have := HLT.out; omega, rfl, ?_, ⟨List.mem_append_right _ (List.mem_cons_of_mem _ (List.mem_cons_of_mem _ HG2.out)), fun k hk => by
        rcases List.mem_append.1 hk with hk | hk
        · have := HXD.out k hk
          have := HP.out.2
          omega
        · have := HXX.out k hk
          have := hI'.out.sz
          omega⟩, ⟨hI'.out.b2⟩, ⟨hI'.out.rv⟩, ⟨hI'.out.ht⟩, HM', HD'⟩
      refine ⟨?_⟩
      rw [show 64 * (i + 1) = 64 * i + 64 by omega, row_set L i HLT.out 64 (Nat.le_refl _)]
      exact hI'.out.j
    case stop =>
      rintro D c pre W' hD hp ⟨rfl, hJ2, hM2⟩ hK'
      have HDn : D ∉ Ds := fun c => by have := HP.out.1 D c; omega
      have HM' := Aside0.mk (hM2.cons (Nat.le_trans HP.out.2 hD) hK' HDn)
      have HJ2 := Aside0.mk hJ2
      have HPR := Aside0.mk hp
      clear hJ2 hM2 hK' hD HDn hp
      gi_wp2
      refine leaves_marksS (S := fun A => Jx (setP (64 * L.length) (bitL L) (64 * i) ++ pre.map (inRow L i HLT.out)) A) (fun A D' hs h1 h2 => HJXO.out.putObj _ hs h1 h2 rfl) (D :: Ds) W' HJ2.out HM'.out fun A hA => ⟨_, results_none rfl _ _ _, ⟨_, rfl⟩, .inr ⟨_, ?_, hA⟩⟩
      have h1 := row_set L i HLT.out 64 (Nat.le_refl _)
      refine List.IsPrefix.trans ?_ (setP_le (i := 64 * i + 64) (by have := HLT.out; omega))
      rw [h1]
      exact (List.prefix_append_right_inj _).2 (HPR.out.map _)
  · have EI : i = L.length := by omega
    subst hz8
    have hq1 : decide (i < L.length) = false := decide_eq_false (by omega)
    have HI := Aside0.mk EI
    clear EI hlt hi
    gi_wp2
    refine leaves_marksS (S := fun A => J X (setP (64 * L.length) (bitL L) (64 * i)) A ∧ W.heap.size ≤ A.heap.size) (fun A D' hs h1 h2 => ⟨(HJO.out X).putObj _ hs.1 h1 h2 rfl, by simpa using hs.2⟩) Ds W ⟨HJ.out, Nat.le_refl _⟩ HM.out fun A hA => ⟨_, results_none rfl _ _ _, ⟨_, rfl⟩, .inl ⟨_, X, ?_, ?_, hA.1⟩⟩
    · rw [HI.out]
    · intro k hk
      have := HX.out.2 k hk
      have := hA.2
      omega
end


/-! ### bitmap_Each: function 68 -/
section
open Go.Proofs.YtadcgjmhhodnoaaDoorQ Go.Proofs.YtadcgjmhhodnoaaDoorM
/-- What bitmap.Each leaves: a copy of the words, in a variable. -/
structure BEachO (w w' : World) (g3 : Nat) (l : List Int) : Prop where mk ::
  out : ∃ (gr : Nat) (v : Value), w.heap.size ≤ g3 ∧ w.heap.size ≤ gr ∧ gr < w'.heap.size ∧ Blk w' g3 #[v] 36 ∧ RowV v gr l w'
  hb : BelowH w w'
set_option maxHeartbeats 4000000 in
set_option maxRecDepth 100000 in
theorem bitmap_Each.calls (n : Int) (A : Option Addr) (cap : Nat) (l : List Int) (t : Bool) (w : World) (hr : Kd.C (Kd.int .u64) w A l.length l) (hc : l.length ≤ cap) (hb8 : l.length * 8 ≤ 140737488355328) (hF : bitmap_Formed.f n l = some t) :
    Calls Tryd.prog 68 #[.agg #[.int .i64 n, .slice A l.length cap]] w fun e w' => ∃ g3 : Nat, e = .returned (.func (.func 88) #[] #[.pointer (some ⟨g3, 0, none⟩)]) ∧ BEachO w w' g3 (if t then l else []) := by
  have HB := BelowH.refl w
  have HR := Aside0.mk hr
  have HC := Aside0.mk hc
  have HF := Aside0.mk hF
  have H8 := Aside0.mk hb8
  clear hr hc hF hb8
  cases t with
  | false =>
    go_enter Tryd.func68, Tryd.ntmps68
    go_wp2_with (first
      | ((with_reducible refine gate_dst (N := 1) rfl ?_); refine ev_alloc HB rfl (#[.int .i64 n, .slice A l.length cap]) 38 ?hr ?_; (case hr => first | (go_simp; done) | (go_simp; rfl)); intro g1 w1 G_g1 GE_g1 B_g1 HBn K_g1; clear HB; have HB := HBn; clear HBn)
      | ((with_reducible refine gate_dst (N := 3) rfl ?_); refine ev_alloc HB rfl (#[.slice none 0 0]) 36 ?hr ?_; (case hr => first | (go_simp; done) | (go_simp; rfl)); intro g3 w3 G_g3 GE_g3 B_g3 HBn K_g3; clear HB; have HB := HBn; clear HBn)
      | ((with_reducible refine gate_dst (N := 4) rfl ?_); refine ev_loadS (B_g1.below K_g3.out) rfl 38 _ rfl rfl Tryd.underlying38 rfl (by kernel_rfl) ?_)
      | (go_at_call 70; refine (bitmap_Formed.calls n A cap l false _ (Kd.C_below HR.out HB.out) HC.out HF.out).mono ?_; rintro e w4 ⟨rfl, hb4⟩; have HK4 := Aside0.mk hb4; have HB4 := HB.step hb4; clear hb4))
    go_ret
    exact ⟨g3, rfl, ⟨g3, _, GE_g3.out, GE_g3.out, (B_g3.below HK4.out).lt, B_g3.below HK4.out, ⟨.inl ⟨rfl, rfl⟩⟩⟩, HB4⟩
  | true =>
    go_enter Tryd.func68, Tryd.ntmps68
    go_upto_region 3 with (first
      | ((with_reducible refine gate_dst (N := 1) rfl ?_); refine ev_alloc HB rfl (#[.int .i64 n, .slice A l.length cap]) 38 ?hr ?_; (case hr => first | (go_simp; done) | (go_simp; rfl)); intro g1 w1 G_g1 GE_g1 B_g1 HBn K_g1; clear HB; have HB := HBn; clear HBn)
      | ((with_reducible refine gate_dst (N := 3) rfl ?_); refine ev_alloc HB rfl (#[.slice none 0 0]) 36 ?hr ?_; (case hr => first | (go_simp; done) | (go_simp; rfl)); intro g3 w3 G_g3 GE_g3 B_g3 HBn K_g3; clear HB; have HB := HBn; clear HBn)
      | ((with_reducible refine gate_dst (N := 4) rfl ?_); refine ev_loadS (B_g1.below K_g3.out) rfl 38 _ rfl rfl Tryd.underlying38 rfl (by kernel_rfl) ?_)
      | (go_at_call 70; refine (bitmap_Formed.calls n A cap l true _ (Kd.C_below HR.out HB.out) HC.out HF.out).mono ?_; rintro e w4 ⟨rfl, hb4⟩; have HK4 := Aside0.mk hb4; have HB4 := HB.step hb4; clear hb4))
    have D1 := (B_g1.below K_g3.out).below HK4.out
    have D3 := B_g3.below HK4.out
    have c11 := D1.cell (i := 1) rfl
    have c3 := D3.cell (i := 0) rfl
    go_wp2_with (first
      | ((with_reducible refine gate_dst (N := 9) rfl ?_); refine print_append_row_of (w0 := w) (Value.int .u64) (0 : Int) w.heap.size rfl _ _ 36 64 (.int .u64 0) 8 rfl Tryd.underlying36 (by kernel_rfl) rfl (by decide) (fun _ => rfl) (.slice none 0 0) [] l A l.length cap rfl rfl (World.ownsRow_nil _ _ _ _) (Kd.reads_of_C (d := (0 : Int)) (Kd.C_below HR.out HB4.out)) HB4.out HB4.le (by simpa using H8.out) ?_; intro v5 w5 hrow5 hb5 hg5 hat5; have HROW := Aside0.mk hrow5; have HB5 : BelowH w w5 := ⟨hb5⟩; have HG5 := Aside0.mk hg5; have d3 : Blk w5 g3 #[.slice none 0 0] 36 := ⟨(hg5.block _ D3.lt (fun e => by simp [Value.ownBlock] at e)).trans D3.out⟩; clear hrow5 hb5 hg5 hat5)
      | ((with_reducible refine gate_ (Op.store 36 (.tmp 3) (.tmp 9)) rfl ?_); refine ev_store1 (i := 0) HB5 d3 GE_g3 rfl 36 _ _ rfl rfl v5 rfl (by simp) (by kernel_rfl) (row_one HROW.out) ?_; intro w6 B6 HB6 K_w6))
    go_ret
    obtain ⟨hl, hv⟩ := row_open HROW.out
    rcases hv with ⟨rfl, h0⟩ | ⟨g, cap', cur, rfl, hbg, BG, h1, h2, h3, HA⟩
    · refine ⟨g3, rfl, ⟨g3, _, GE_g3.out, GE_g3.out, B6.lt, B6, ⟨.inl ⟨rfl, ?_⟩⟩⟩, HB6⟩
      simpa using h0
    · have hne : g ≠ g3 := BG.ne d3 (by decide)
      have BG6 := BG.other K_w6 hne
      refine ⟨g3, rfl, ⟨g, _, GE_g3.out, hbg, BG6.lt, B6, ⟨.inr ⟨cap', cur, ?_, BG6, ?_⟩⟩⟩, HB6⟩
      · simp
      · simpa [encs] using HA
end


end Go.Proofs.YtadcgjmhhodnoaaDoor.PB
