/- Parts of a claim (TC), packed by a program (pack.py) out of the texts that it names. -/
import Derived.Test.YtfihkkjkifkemaaDoorTC1
-- PSx4
section
namespace Go.Proofs.YtfihkkjkifkemaaDoor.PS
open Go.RowKit Go.Proofs.YtfihkkjkifkemaaDoorW.PrintWords Go.Proofs.YtfihkkjkifkemaaDoorW.PrintLast Go.Proofs.YtfihkkjkifkemaaDoorW.PrintMore
attribute [local go_sem] max2_int min2_int max_two min_two max_three min_three max_four min_four   -- for this text's walks alone
set_option linter.unusedVariables false
set_option linter.unusedSimpArgs false

section
open Go.Proofs.YtfihkkjkifkemaaDoorQ Go.Proofs.YtfihkkjkifkemaaDoorM Go.Shelf
attribute [local go_sem] Oper.semAt_some
/-- Between two blocks. -/
structure LookI (s : ByteArray) (nw : Nat) (w : World) (L : List (Nat × Array Value × Nat)) (m g7 : Nat) (v1 v2 : Value) {n : Nat} (pre : List (Fin n)) (W : World) : Prop where mk ::
  bs : Blks L W
  r1 : W.ownsRow w.heap.size 79 1 v1 nw ((wordsOf s.size (mkq s)).map (Value.int .u64))
  r2 : W.ownsRow w.heap.size 79 1 v2 nw ((wordsOf s.size (insS s)).map (Value.int .u64))
  out : ∃ v, Blk W g7 #[v] 77 ∧ W.ownsRow w.heap.size 81 4 v pre.length (flatR s pre)
  hb : BelowH w W
  sz : m ≤ W.heap.size
section
variable {s : ByteArray} {nw : Nat} {w W W' : World} {L : List (Nat × Array Value × Nat)} {m g7 : Nat} {v1 v2 : Value} {n : Nat} {pre : List (Fin n)}
theorem LookI.kept (h : LookI s nw w L m g7 v1 v2 pre W) {B : Nat} (hB : w.heap.size ≤ B) {row : Option Nat} (hg : W.grownBy W' row) (hr : ∀ r, row = some r → B ≤ r ∧ ∃ o : Obj, W.heap[r]? = some o ∧ o.isCells = false) : LookI s nw w L m g7 v1 v2 pre W' := by
  have hr' : ∀ r, row = some r → ∃ o : Obj, W.heap[r]? = some o ∧ o.isCells = false := fun r e => (hr r e).2
  obtain ⟨v, b, ho⟩ := h.out
  exact ⟨h.bs.kept hg hr', row_kept h.r1 hg hr', row_kept h.r2 hg hr', ⟨v, b.kept hg hr', row_kept ho hg hr'⟩, h.hb.kept hg hB (fun r e => (hr r e).1), Nat.le_trans h.sz hg.size⟩
theorem LookI.below (h : LookI s nw w L m g7 v1 v2 pre W) (hb : Below W.heap.size W W') : LookI s nw w L m g7 v1 v2 pre W' := by
  obtain ⟨v, b, ho⟩ := h.out
  exact ⟨h.bs.below hb, row_below h.r1 hb, row_below h.r2 hb, ⟨v, b.below hb, row_below ho hb⟩, h.hb.step hb, Nat.le_trans h.sz hb.size⟩
/-- A store into another block. -/
theorem LookI.other (h : LookI s nw w L m g7 v1 v2 pre W) {g : Nat} {cs : Array Value} {t : Nat} (B : Blk W g cs t) (h1 : t ≠ 79) (h2 : t ≠ 81) (h3 : ∀ b ∈ L, b.1 ≠ g) (h4 : g7 ≠ g) (hb : BelowH w W') (K : Aside0 (W.heap.size ≤ W'.heap.size ∧ ∀ k, k ≠ g → W'.heap[k]? = W.heap[k]?)) : LookI s nw w L m g7 v1 v2 pre W' := by
  obtain ⟨v, b, ho⟩ := h.out
  exact ⟨h.bs.other K h3, row_other h.r1 B h1 K, row_other h.r2 B h1 K, ⟨v, b.other K h4, row_other ho B h2 K⟩, hb, Nat.le_trans h.sz K.out.1⟩
end
/-- The words of a text, block by block. -/
def rowS (s : ByteArray) (k : Nat) : S81 := ⟨iv (wordAt s.size (sgq s) k), iv (wordAt s.size (blq s) k), iv (wordAt s.size (opq s) k), iv (wordAt s.size (wdq s) k)⟩
def lookL (s : ByteArray) : List S81 := (List.range (nwords s.size)).map (rowS s)
def marks_look.f (a0 : ByteArray) : Option (List S81) := if a0.size ≤ 281474976702464 then some (lookL a0) else none
theorem lookL_reps {s : ByteArray} {R : S81 → List Value → Prop} (h : ∀ k, R (rowS s k) (rowN s k)) : ∀ n, Reps R 4 ((List.range n).map (rowS s)) ((List.range n).flatMap (rowN s))
  | 0 => Reps.none _ _
  | n + 1 => by
    rw [List.range_succ, List.map_append, List.flatMap_append]
    simpa using (lookL_reps h n).snoc (h n) rfl
set_option maxHeartbeats 4000000 in
set_option maxRecDepth 100000 in
theorem marks_look.walk (s : ByteArray) (w : World) (hs : s.size ≤ 281474976702464) :
  Calls Tryd.prog 37 #[.string s] w fun e w' => ∃ v : Value, e = .returned v ∧ w'.ownsRow w.heap.size 81 4 v (nwords s.size) ((List.range (nwords s.size)).flatMap (rowN s)) ∧ Below w.heap.size w w' := by
 obtain ⟨F, hF⟩ : ∃ F, F = Fence.wide := ⟨_, rfl⟩
 have HF := Aside0.mk hF
 refine (callsIn_wide (n := 9)).1 ?_
 rw [← hF]
 clear hF
 have hro := wide_round HF
 have HB := BelowH.refl w
 have f1 := wide_fn HF 52
 have f2 := wide_fn HF 69
 have f3 := wide_fn HF 53
 have f4 := wide_fn HF 47
 have f5 := wide_fn HF 50
 have f6 := wide_fn HF 51
 have HS := Aside0.mk hs
 obtain ⟨nw, hnw⟩ : ∃ nw, nw = nwords s.size := ⟨_, rfl⟩
 have HNW := Aside0.mk hnw
 have hnw1 : (nw : Int) ≤ 4398046511104 := by rw [hnw]; unfold nwords; omega
 clear hs hnw
 refine callsIn_of_wp_marks Tryd.func37 rfl (wide_fn HF _) ?_ hro
 simp only [Tryd.ntmps37, List.size_toArray, List.length_cons, List.length_nil, Nat.reduceAdd, Nat.reduceSub, Array.replicate_succ, Array.replicate_zero, List.push_toArray, List.append_toArray, List.nil_append, List.cons_append]
 gi_upto_region 1 with (first
  | ((with_reducible refine gate_dstIn (N := 1) rfl ?_); refine ev_allocIn HB rfl rfl (#[.string s]) 9 ?hr ?_; (case hr => first | (go_simp; done) | (go_simp; rfl)); intro g1 w1 G_g1 GE_g1 B_g1 HBn K_g1 KO_w1; clear HB; have HB := HBn; clear HBn))
 gi_cut [3, 4] from 16 (fun v3 v4 wx => ∃ (g3 g4 c1 c2 : Nat) (A1 A2 : Option Addr), v3 = .pointer (some ⟨g3, 0, none⟩) ∧ v4 = .pointer (some ⟨g4, 0, none⟩) ∧ Aside0 (w.heap.size ≤ g3) ∧ Aside0 (w.heap.size ≤ g4) ∧ Aside0 (g1 < g3 ∧ g1 < g4 ∧ g3 ≠ g4) ∧
  Blk wx g1 #[.string s] 9 ∧ Blk wx g3 #[.int .i64 s.size, .slice A1 nw c1] 95 ∧ Blk wx g4 #[.int .i64 s.size, .slice A2 nw c2] 95 ∧
  Aside0 (wx.ownsRow w.heap.size 79 1 (.slice A1 nw c1) nw ((wordsOf s.size (mkq s)).map (Value.int .u64))) ∧ Aside0 (wx.ownsRow w.heap.size 79 1 (.slice A2 nw c2) nw ((wordsOf s.size (insS s)).map (Value.int .u64))) ∧ BelowH w wx)
 case first =>
  have E := B_g1.below (below_drew (Below.refl _ _))
  have HB5 := HB.step (below_drew (Below.refl _ _))
  clear HB
  have HB := HB5
  clear HB5
  have L1 := Aside0.mk (And.intro B_g1.lt K_g1.out.size)
  clear B_g1 K_g1 G_g1 KO_w1
  have HZ := Aside0.mk (show w1.heap.size ≤ w1.drew.heap.size from Nat.le_refl _)
  refine wpIn_region_last_wide HF (S := fun W' => Blk W' g1 #[.string s] 9) (ds := [6, 7]) (by kernel_rfl) E (fun hS => ?_)
  refine wpAnyLast_take (i := 0) (oi := Oper.mk _ _ _ _ _ _) rfl (by kernel_rfl) (by kernel_rfl) (by kernel_rfl) (by kernel_rfl) (by kernel_rfl) (fun _ _ _ h => h) (rg_load1 (by rfl) (fun _ hS => hS.cell (i := 0) rfl) 9 _ rfl rfl (fun _ => by simp [isAgg, run_underlying Tryd.underlying9])) hS ?_
  try simp only [Act.put, List.setIfInBounds_toArray, List.set_cons_zero, List.set_cons_succ]
  refine wpAnyLast_take (i := 2) (oi := Oper.mk _ _ _ _ _ _) rfl (by kernel_rfl) (by kernel_rfl) (by kernel_rfl) (by kernel_rfl) (by kernel_rfl) (fun _ _ _ h => h) (rg_load1 (by rfl) (fun _ hS => hS.cell (i := 0) rfl) 9 _ rfl rfl (fun _ => by simp [isAgg, run_underlying Tryd.underlying9])) hS ?_
  try simp only [Act.put, List.setIfInBounds_toArray, List.set_cons_zero, List.set_cons_succ]
  refine wpAnyLast_ready (rs := [1, 4, 5]) (by kernel_rfl) (by simp) ?_
  refine AllReadyL.cons (o := Oper.mk _ _ _ _ _ _) rfl (by decide) (fun K hK => ?_) ?_
  ·refine call_ 47 #[.string s] (by rfl) rfl (by first | (go_simp; done) | (go_simp; rfl)) ((quotes_Marks.walk s _ HS.out).mono ?_)
   rintro e W' ⟨v, rfl, hrow, hb'⟩
   obtain ⟨A1, c1, rfl⟩ := own_slice hrow
   rw [← HNW.out] at hrow ⊢
   have hb := Aside0.mk hb'
   have RM := Aside0.mk (row_mono hrow HB.le)
   have V1 := Aside0.mk (row_one hrow)
   clear hrow hb'
   replace E := E.below hb.out
   replace HB := HB.step hb.out
   replace HZ := Aside0.mk (Nat.le_trans HZ.out hb.out.size)
   refine ⟨_, rfl, ?_⟩
   refine hK.out _ _ E (fun hS => ?_)
   clear hK K hb
   try simp only [Act.put, List.setIfInBounds_toArray, List.set_cons_zero, List.set_cons_succ]
   refine wpAnyLast_ready (rs := [3, 4, 5]) (by kernel_rfl) (by simp) ?_
   refine AllReadyL.cons (o := Oper.mk _ _ _ _ _ _) rfl (by decide) (fun K hK => ?_) ?_
   ·refine call_ 50 #[.string s] (by rfl) rfl (by first | (go_simp; done) | (go_simp; rfl)) ((quotes_Inside.walk s _ HS.out).mono ?_)
    rintro e W' ⟨v, rfl, hrow, hb'⟩
    obtain ⟨A2, c2, rfl⟩ := own_slice hrow
    rw [← HNW.out] at hrow ⊢
    have hb := Aside0.mk hb'
    have RI := Aside0.mk (row_mono hrow HB.le)
    have V2 := Aside0.mk (row_one hrow)
    clear hrow hb'
    replace E := E.below hb.out
    replace HB := HB.step hb.out
    replace HZ := Aside0.mk (Nat.le_trans HZ.out hb.out.size)
    replace RM := Aside0.mk (row_below RM.out hb.out)
    refine ⟨_, rfl, ?_⟩
    refine hK.out _ _ E (fun hS => ?_)
    clear hK K hb
    try simp only [Act.put, List.setIfInBounds_toArray, List.set_cons_zero, List.set_cons_succ]
    refine wpAnyLast_ready (rs := [4, 5]) (by kernel_rfl) (by simp) ?_
    refine AllReadyL.cons (o := Oper.mk _ _ _ _ _ _) rfl (by decide) (fun K hK => ?_) ?_
    ·refine rg_alloc HB (by rfl) (#[.int .i64 0, .slice none 0 0]) 95 (by first | (go_simp; done) | (go_simp; rfl)) ?_
     intro g3 W' G3 GE_g3 B3 HBn hb
     have N1g3 := Aside0.mk (show g1 < g3 by have := L1.out.1; have := HZ.out; have := G3.out; omega)
     clear HBn
     replace E := E.below hb.out
     replace HB := HB.step hb.out
     replace HZ := Aside0.mk (Nat.le_trans HZ.out hb.out.size)
     replace RM := Aside0.mk (row_below RM.out hb.out)
     replace RI := Aside0.mk (row_below RI.out hb.out)
     refine hK.out _ _ E (fun hS => ?_)
     clear hK K hb G3
     try simp only [Act.put, List.setIfInBounds_toArray, List.set_cons_zero, List.set_cons_succ]
     refine wpAnyLast_ready (rs := [5]) (by kernel_rfl) (by simp) ?_
     refine AllReadyL.cons (o := Oper.mk _ _ _ _ _ _) rfl (by decide) (fun K hK => ?_) ?_
     ·refine rg_alloc HB (by rfl) (#[.int .i64 0, .slice none 0 0]) 95 (by first | (go_simp; done) | (go_simp; rfl)) ?_
      intro g4 W' G4 GE_g4 B4 HBn hb
      have N1g4 := Aside0.mk (show g1 < g4 by have := L1.out.1; have := HZ.out; have := G4.out; omega)
      have N34 := Aside0.mk (show g3 ≠ g4 by have := B3.lt; have := G4.out; omega)
      clear HBn
      replace E := E.below hb.out
      replace HB := HB.step hb.out
      replace HZ := Aside0.mk (Nat.le_trans HZ.out hb.out.size)
      replace RM := Aside0.mk (row_below RM.out hb.out)
      replace RI := Aside0.mk (row_below RI.out hb.out)
      replace B3 := B3.below hb.out
      refine hK.out _ _ E (fun hS => ?_)
      clear hK K hb G4
      try simp only [Act.put, List.setIfInBounds_toArray, List.set_cons_zero, List.set_cons_succ]
      refine wpAnyLast_ready (rs := [6]) (by kernel_rfl) (by simp) ?_
      refine AllReadyL.cons_last (o := Oper.mk _ _ _ _ _ _) rfl (by decide) (fun K hK => ?_) ?_
      ·refine rg_store HB (by rfl) B3 GE_g3 95 _ _ rfl rfl rfl (by kernel_rfl) rfl (by simp [Value.oneCell']) ?_
       intro w6 B3n HBn K6
       replace E := E.other K6 (Nat.ne_of_lt N1g3.out)
       replace B4 := B4.other K6 (Ne.symm N34.out)
       replace RM := Aside0.mk (row_other RM.out B3 (by decide) K6)
       replace RI := Aside0.mk (row_other RI.out B3 (by decide) K6)
       replace B3 := B3n
       replace HB := HBn
       clear B3n HBn K6 HZ
       have HZ := Aside0.mk (Nat.le_refl 0)
       refine hK.out _ _ ?_
       clear hK K
       try simp only [Act.put, List.setIfInBounds_toArray, List.set_cons_zero, List.set_cons_succ]
       refine wpAnyLast_ready (rs := [7]) (by kernel_rfl) (by simp) ?_
       refine AllReadyL.cons_last (o := Oper.mk _ _ _ _ _ _) rfl (by decide) (fun K hK => ?_) ?_
       ·refine rg_store HB (by rfl) B4 GE_g4 95 _ _ rfl rfl rfl (by kernel_rfl) rfl (by simp [Value.oneCell']) ?_
        intro w7 B4n HBn K7
        replace E := E.other K7 (Nat.ne_of_lt N1g4.out)
        replace B3 := B3.other K7 N34.out
        replace RM := Aside0.mk (row_other RM.out B4 (by decide) K7)
        replace RI := Aside0.mk (row_other RI.out B4 (by decide) K7)
        replace B4 := B4n
        replace HB := HBn
        clear B4n HBn K7 HZ
        have HZ := Aside0.mk (Nat.le_refl 0)
        refine hK.out _ _ ?_
        clear hK K
        try simp only [Act.put, List.setIfInBounds_toArray, List.set_cons_zero, List.set_cons_succ]
        refine wpAnyLast_done (by kernel_rfl) ?_ _
        refine NoPanic.normal ?_
        go_step
        go_step
        gi_meet
        case rel => exact ⟨g3, g4, c1, c2, A1, A2, rfl, rfl, GE_g3, GE_g4, ⟨N1g3.out, N1g4.out, N34.out⟩, E, B3, B4, RM, RI, HB⟩
       exact AllReadyL.nil
      exact AllReadyL.nil
     exact AllReadyL.nil
    refine AllReadyL.cons (o := Oper.mk _ _ _ _ _ _) rfl (by decide) (fun K hK => ?_) ?_
    ·refine rg_alloc HB (by rfl) (#[.int .i64 0, .slice none 0 0]) 95 (by first | (go_simp; done) | (go_simp; rfl)) ?_
     intro g4 W' G4 GE_g4 B4 HBn hb
     have N1g4 := Aside0.mk (show g1 < g4 by have := L1.out.1; have := HZ.out; have := G4.out; omega)
     clear HBn
     replace E := E.below hb.out
     replace HB := HB.step hb.out
     replace HZ := Aside0.mk (Nat.le_trans HZ.out hb.out.size)
     replace RM := Aside0.mk (row_below RM.out hb.out)
     replace RI := Aside0.mk (row_below RI.out hb.out)
     refine hK.out _ _ E (fun hS => ?_)
     clear hK K hb G4
     try simp only [Act.put, List.setIfInBounds_toArray, List.set_cons_zero, List.set_cons_succ]
     refine wpAnyLast_ready (rs := [4]) (by kernel_rfl) (by simp) ?_
     refine AllReadyL.cons (o := Oper.mk _ _ _ _ _ _) rfl (by decide) (fun K hK => ?_) ?_
     ·refine rg_alloc HB (by rfl) (#[.int .i64 0, .slice none 0 0]) 95 (by first | (go_simp; done) | (go_simp; rfl)) ?_
      intro g3 W' G3 GE_g3 B3 HBn hb
      have N1g3 := Aside0.mk (show g1 < g3 by have := L1.out.1; have := HZ.out; have := G3.out; omega)
      have N34 := Aside0.mk (show g3 ≠ g4 by have := B4.lt; have := G3.out; omega)
      clear HBn
      replace E := E.below hb.out
      replace HB := HB.step hb.out
      replace HZ := Aside0.mk (Nat.le_trans HZ.out hb.out.size)
      replace RM := Aside0.mk (row_below RM.out hb.out)
      replace RI := Aside0.mk (row_below RI.out hb.out)
      replace B4 := B4.below hb.out
      refine hK.out _ _ E (fun hS => ?_)
      clear hK K hb G3
      try simp only [Act.put, List.setIfInBounds_toArray, List.set_cons_zero, List.set_cons_succ]
      refine wpAnyLast_ready (rs := [6]) (by kernel_rfl) (by simp) ?_
      refine AllReadyL.cons_last (o := Oper.mk _ _ _ _ _ _) rfl (by decide) (fun K hK => ?_) ?_
      ·refine rg_store HB (by rfl) B3 GE_g3 95 _ _ rfl rfl rfl (by kernel_rfl) rfl (by simp [Value.oneCell']) ?_
       intro w6 B3n HBn K6
       replace E := E.other K6 (Nat.ne_of_lt N1g3.out)
       replace B4 := B4.other K6 (Ne.symm N34.out)
       replace RM := Aside0.mk (row_other RM.out B3 (by decide) K6)
       replace RI := Aside0.mk (row_other RI.out B3 (by decide) K6)
       replace B3 := B3n
       replace HB := HBn
       clear B3n HBn K6 HZ
       have HZ := Aside0.mk (Nat.le_refl 0)
       refine hK.out _ _ ?_
       clear hK K
       try simp only [Act.put, List.setIfInBounds_toArray, List.set_cons_zero, List.set_cons_succ]
       refine wpAnyLast_ready (rs := [7]) (by kernel_rfl) (by simp) ?_
       refine AllReadyL.cons_last (o := Oper.mk _ _ _ _ _ _) rfl (by decide) (fun K hK => ?_) ?_
       ·refine rg_store HB (by rfl) B4 GE_g4 95 _ _ rfl rfl rfl (by kernel_rfl) rfl (by simp [Value.oneCell']) ?_
        intro w7 B4n HBn K7
        replace E := E.other K7 (Nat.ne_of_lt N1g4.out)
        replace B3 := B3.other K7 N34.out
        replace RM := Aside0.mk (row_other RM.out B4 (by decide) K7)
        replace RI := Aside0.mk (row_other RI.out B4 (by decide) K7)
        replace B4 := B4n
        replace HB := HBn
        clear B4n HBn K7 HZ
        have HZ := Aside0.mk (Nat.le_refl 0)
        refine hK.out _ _ ?_
        clear hK K
        try simp only [Act.put, List.setIfInBounds_toArray, List.set_cons_zero, List.set_cons_succ]
        refine wpAnyLast_done (by kernel_rfl) ?_ _
        refine NoPanic.normal ?_
        go_step
        go_step
        gi_meet
        case rel => exact ⟨g3, g4, c1, c2, A1, A2, rfl, rfl, GE_g3, GE_g4, ⟨N1g3.out, N1g4.out, N34.out⟩, E, B3, B4, RM, RI, HB⟩
       exact AllReadyL.nil
      exact AllReadyL.nil
     exact AllReadyL.nil
    exact AllReadyL.nil
   refine AllReadyL.cons (o := Oper.mk _ _ _ _ _ _) rfl (by decide) (fun K hK => ?_) ?_
   ·refine rg_alloc HB (by rfl) (#[.int .i64 0, .slice none 0 0]) 95 (by first | (go_simp; done) | (go_simp; rfl)) ?_
    intro g3 W' G3 GE_g3 B3 HBn hb
    have N1g3 := Aside0.mk (show g1 < g3 by have := L1.out.1; have := HZ.out; have := G3.out; omega)
    clear HBn
    replace E := E.below hb.out
    replace HB := HB.step hb.out
    replace HZ := Aside0.mk (Nat.le_trans HZ.out hb.out.size)
    replace RM := Aside0.mk (row_below RM.out hb.out)
    refine hK.out _ _ E (fun hS => ?_)
    clear hK K hb G3
    try simp only [Act.put, List.setIfInBounds_toArray, List.set_cons_zero, List.set_cons_succ]
    refine wpAnyLast_ready (rs := [3, 5]) (by kernel_rfl) (by simp) ?_
    refine AllReadyL.cons (o := Oper.mk _ _ _ _ _ _) rfl (by decide) (fun K hK => ?_) ?_
    ·refine call_ 50 #[.string s] (by rfl) rfl (by first | (go_simp; done) | (go_simp; rfl)) ((quotes_Inside.walk s _ HS.out).mono ?_)
     rintro e W' ⟨v, rfl, hrow, hb'⟩
     obtain ⟨A2, c2, rfl⟩ := own_slice hrow
     rw [← HNW.out] at hrow ⊢
     have hb := Aside0.mk hb'
     have RI := Aside0.mk (row_mono hrow HB.le)
     have V2 := Aside0.mk (row_one hrow)
     clear hrow hb'
     replace E := E.below hb.out
     replace HB := HB.step hb.out
     replace HZ := Aside0.mk (Nat.le_trans HZ.out hb.out.size)
     replace RM := Aside0.mk (row_below RM.out hb.out)
     replace B3 := B3.below hb.out
     refine ⟨_, rfl, ?_⟩
     refine hK.out _ _ E (fun hS => ?_)
     clear hK K hb
     try simp only [Act.put, List.setIfInBounds_toArray, List.set_cons_zero, List.set_cons_succ]
     refine wpAnyLast_ready (rs := [5]) (by kernel_rfl) (by simp) ?_
     refine AllReadyL.cons (o := Oper.mk _ _ _ _ _ _) rfl (by decide) (fun K hK => ?_) ?_
     ·refine rg_alloc HB (by rfl) (#[.int .i64 0, .slice none 0 0]) 95 (by first | (go_simp; done) | (go_simp; rfl)) ?_
      intro g4 W' G4 GE_g4 B4 HBn hb
      have N1g4 := Aside0.mk (show g1 < g4 by have := L1.out.1; have := HZ.out; have := G4.out; omega)
      have N34 := Aside0.mk (show g3 ≠ g4 by have := B3.lt; have := G4.out; omega)
      clear HBn
      replace E := E.below hb.out
      replace HB := HB.step hb.out
      replace HZ := Aside0.mk (Nat.le_trans HZ.out hb.out.size)
      replace RM := Aside0.mk (row_below RM.out hb.out)
      replace RI := Aside0.mk (row_below RI.out hb.out)
      replace B3 := B3.below hb.out
      refine hK.out _ _ E (fun hS => ?_)
      clear hK K hb G4
      try simp only [Act.put, List.setIfInBounds_toArray, List.set_cons_zero, List.set_cons_succ]
      refine wpAnyLast_ready (rs := [6]) (by kernel_rfl) (by simp) ?_
      refine AllReadyL.cons_last (o := Oper.mk _ _ _ _ _ _) rfl (by decide) (fun K hK => ?_) ?_
      ·refine rg_store HB (by rfl) B3 GE_g3 95 _ _ rfl rfl rfl (by kernel_rfl) rfl (by simp [Value.oneCell']) ?_
       intro w6 B3n HBn K6
       replace E := E.other K6 (Nat.ne_of_lt N1g3.out)
       replace B4 := B4.other K6 (Ne.symm N34.out)
       replace RM := Aside0.mk (row_other RM.out B3 (by decide) K6)
       replace RI := Aside0.mk (row_other RI.out B3 (by decide) K6)
       replace B3 := B3n
       replace HB := HBn
       clear B3n HBn K6 HZ
       have HZ := Aside0.mk (Nat.le_refl 0)
       refine hK.out _ _ ?_
       clear hK K
       try simp only [Act.put, List.setIfInBounds_toArray, List.set_cons_zero, List.set_cons_succ]
       refine wpAnyLast_ready (rs := [7]) (by kernel_rfl) (by simp) ?_
       refine AllReadyL.cons_last (o := Oper.mk _ _ _ _ _ _) rfl (by decide) (fun K hK => ?_) ?_
       ·refine rg_store HB (by rfl) B4 GE_g4 95 _ _ rfl rfl rfl (by kernel_rfl) rfl (by simp [Value.oneCell']) ?_
        intro w7 B4n HBn K7
        replace E := E.other K7 (Nat.ne_of_lt N1g4.out)
        replace B3 := B3.other K7 N34.out
        replace RM := Aside0.mk (row_other RM.out B4 (by decide) K7)
        replace RI := Aside0.mk (row_other RI.out B4 (by decide) K7)
        replace B4 := B4n
        replace HB := HBn
        clear B4n HBn K7 HZ
        have HZ := Aside0.mk (Nat.le_refl 0)
        refine hK.out _ _ ?_
        clear hK K
        try simp only [Act.put, List.setIfInBounds_toArray, List.set_cons_zero, List.set_cons_succ]
        refine wpAnyLast_done (by kernel_rfl) ?_ _
        refine NoPanic.normal ?_
        go_step
        go_step
        gi_meet
        case rel => exact ⟨g3, g4, c1, c2, A1, A2, rfl, rfl, GE_g3, GE_g4, ⟨N1g3.out, N1g4.out, N34.out⟩, E, B3, B4, RM, RI, HB⟩
       exact AllReadyL.nil
      exact AllReadyL.nil
     exact AllReadyL.nil
    refine AllReadyL.cons (o := Oper.mk _ _ _ _ _ _) rfl (by decide) (fun K hK => ?_) ?_
    ·refine rg_alloc HB (by rfl) (#[.int .i64 0, .slice none 0 0]) 95 (by first | (go_simp; done) | (go_simp; rfl)) ?_
     intro g4 W' G4 GE_g4 B4 HBn hb
     have N1g4 := Aside0.mk (show g1 < g4 by have := L1.out.1; have := HZ.out; have := G4.out; omega)
     have N34 := Aside0.mk (show g3 ≠ g4 by have := B3.lt; have := G4.out; omega)
     clear HBn
     replace E := E.below hb.out
     replace HB := HB.step hb.out
     replace HZ := Aside0.mk (Nat.le_trans HZ.out hb.out.size)
     replace RM := Aside0.mk (row_below RM.out hb.out)
     replace B3 := B3.below hb.out
     refine hK.out _ _ E (fun hS => ?_)
     clear hK K hb G4
     try simp only [Act.put, List.setIfInBounds_toArray, List.set_cons_zero, List.set_cons_succ]
     refine wpAnyLast_ready (rs := [3]) (by kernel_rfl) (by simp) ?_
     refine AllReadyL.cons (o := Oper.mk _ _ _ _ _ _) rfl (by decide) (fun K hK => ?_) ?_
     ·refine call_ 50 #[.string s] (by rfl) rfl (by first | (go_simp; done) | (go_simp; rfl)) ((quotes_Inside.walk s _ HS.out).mono ?_)
      rintro e W' ⟨v, rfl, hrow, hb'⟩
      obtain ⟨A2, c2, rfl⟩ := own_slice hrow
      rw [← HNW.out] at hrow ⊢
      have hb := Aside0.mk hb'
      have RI := Aside0.mk (row_mono hrow HB.le)
      have V2 := Aside0.mk (row_one hrow)
      clear hrow hb'
      replace E := E.below hb.out
      replace HB := HB.step hb.out
      replace HZ := Aside0.mk (Nat.le_trans HZ.out hb.out.size)
      replace RM := Aside0.mk (row_below RM.out hb.out)
      replace B3 := B3.below hb.out
      replace B4 := B4.below hb.out
      refine ⟨_, rfl, ?_⟩
      refine hK.out _ _ E (fun hS => ?_)
      clear hK K hb
      try simp only [Act.put, List.setIfInBounds_toArray, List.set_cons_zero, List.set_cons_succ]
      refine wpAnyLast_ready (rs := [6]) (by kernel_rfl) (by simp) ?_
      refine AllReadyL.cons_last (o := Oper.mk _ _ _ _ _ _) rfl (by decide) (fun K hK => ?_) ?_
      ·refine rg_store HB (by rfl) B3 GE_g3 95 _ _ rfl rfl rfl (by kernel_rfl) rfl (by simp [Value.oneCell']) ?_
       intro w6 B3n HBn K6
       replace E := E.other K6 (Nat.ne_of_lt N1g3.out)
       replace B4 := B4.other K6 (Ne.symm N34.out)
       replace RM := Aside0.mk (row_other RM.out B3 (by decide) K6)
       replace RI := Aside0.mk (row_other RI.out B3 (by decide) K6)
       replace B3 := B3n
       replace HB := HBn
       clear B3n HBn K6 HZ
       have HZ := Aside0.mk (Nat.le_refl 0)
       refine hK.out _ _ ?_
       clear hK K
       try simp only [Act.put, List.setIfInBounds_toArray, List.set_cons_zero, List.set_cons_succ]
       refine wpAnyLast_ready (rs := [7]) (by kernel_rfl) (by simp) ?_
       refine AllReadyL.cons_last (o := Oper.mk _ _ _ _ _ _) rfl (by decide) (fun K hK => ?_) ?_
       ·refine rg_store HB (by rfl) B4 GE_g4 95 _ _ rfl rfl rfl (by kernel_rfl) rfl (by simp [Value.oneCell']) ?_
        intro w7 B4n HBn K7
        replace E := E.other K7 (Nat.ne_of_lt N1g4.out)
        replace B3 := B3.other K7 N34.out
        replace RM := Aside0.mk (row_other RM.out B4 (by decide) K7)
        replace RI := Aside0.mk (row_other RI.out B4 (by decide) K7)
        replace B4 := B4n
        replace HB := HBn
        clear B4n HBn K7 HZ
        have HZ := Aside0.mk (Nat.le_refl 0)
        refine hK.out _ _ ?_
        clear hK K
        try simp only [Act.put, List.setIfInBounds_toArray, List.set_cons_zero, List.set_cons_succ]
        refine wpAnyLast_done (by kernel_rfl) ?_ _
        refine NoPanic.normal ?_
        go_step
        go_step
        gi_meet
        case rel => exact ⟨g3, g4, c1, c2, A1, A2, rfl, rfl, GE_g3, GE_g4, ⟨N1g3.out, N1g4.out, N34.out⟩, E, B3, B4, RM, RI, HB⟩
       exact AllReadyL.nil
      exact AllReadyL.nil
     exact AllReadyL.nil
    exact AllReadyL.nil
   refine AllReadyL.cons (o := Oper.mk _ _ _ _ _ _) rfl (by decide) (fun K hK => ?_) ?_
   ·refine rg_alloc HB (by rfl) (#[.int .i64 0, .slice none 0 0]) 95 (by first | (go_simp; done) | (go_simp; rfl)) ?_
    intro g4 W' G4 GE_g4 B4 HBn hb
    have N1g4 := Aside0.mk (show g1 < g4 by have := L1.out.1; have := HZ.out; have := G4.out; omega)
    clear HBn
    replace E := E.below hb.out
    replace HB := HB.step hb.out
    replace HZ := Aside0.mk (Nat.le_trans HZ.out hb.out.size)
    replace RM := Aside0.mk (row_below RM.out hb.out)
    refine hK.out _ _ E (fun hS => ?_)
    clear hK K hb G4
    try simp only [Act.put, List.setIfInBounds_toArray, List.set_cons_zero, List.set_cons_succ]
    refine wpAnyLast_ready (rs := [3, 4]) (by kernel_rfl) (by simp) ?_
    refine AllReadyL.cons (o := Oper.mk _ _ _ _ _ _) rfl (by decide) (fun K hK => ?_) ?_
    ·refine call_ 50 #[.string s] (by rfl) rfl (by first | (go_simp; done) | (go_simp; rfl)) ((quotes_Inside.walk s _ HS.out).mono ?_)
     rintro e W' ⟨v, rfl, hrow, hb'⟩
     obtain ⟨A2, c2, rfl⟩ := own_slice hrow
     rw [← HNW.out] at hrow ⊢
     have hb := Aside0.mk hb'
     have RI := Aside0.mk (row_mono hrow HB.le)
     have V2 := Aside0.mk (row_one hrow)
     clear hrow hb'
     replace E := E.below hb.out
     replace HB := HB.step hb.out
     replace HZ := Aside0.mk (Nat.le_trans HZ.out hb.out.size)
     replace RM := Aside0.mk (row_below RM.out hb.out)
     replace B4 := B4.below hb.out
     refine ⟨_, rfl, ?_⟩
     refine hK.out _ _ E (fun hS => ?_)
     clear hK K hb
     try simp only [Act.put, List.setIfInBounds_toArray, List.set_cons_zero, List.set_cons_succ]
     refine wpAnyLast_ready (rs := [4]) (by kernel_rfl) (by simp) ?_
     refine AllReadyL.cons (o := Oper.mk _ _ _ _ _ _) rfl (by decide) (fun K hK => ?_) ?_
     ·refine rg_alloc HB (by rfl) (#[.int .i64 0, .slice none 0 0]) 95 (by first | (go_simp; done) | (go_simp; rfl)) ?_
      intro g3 W' G3 GE_g3 B3 HBn hb
      have N1g3 := Aside0.mk (show g1 < g3 by have := L1.out.1; have := HZ.out; have := G3.out; omega)
      have N34 := Aside0.mk (show g3 ≠ g4 by have := B4.lt; have := G3.out; omega)
      clear HBn
      replace E := E.below hb.out
      replace HB := HB.step hb.out
      replace HZ := Aside0.mk (Nat.le_trans HZ.out hb.out.size)
      replace RM := Aside0.mk (row_below RM.out hb.out)
      replace RI := Aside0.mk (row_below RI.out hb.out)
      replace B4 := B4.below hb.out
      refine hK.out _ _ E (fun hS => ?_)
      clear hK K hb G3
      try simp only [Act.put, List.setIfInBounds_toArray, List.set_cons_zero, List.set_cons_succ]
      refine wpAnyLast_ready (rs := [6]) (by kernel_rfl) (by simp) ?_
      refine AllReadyL.cons_last (o := Oper.mk _ _ _ _ _ _) rfl (by decide) (fun K hK => ?_) ?_
      ·refine rg_store HB (by rfl) B3 GE_g3 95 _ _ rfl rfl rfl (by kernel_rfl) rfl (by simp [Value.oneCell']) ?_
       intro w6 B3n HBn K6
       replace E := E.other K6 (Nat.ne_of_lt N1g3.out)
       replace B4 := B4.other K6 (Ne.symm N34.out)
       replace RM := Aside0.mk (row_other RM.out B3 (by decide) K6)
       replace RI := Aside0.mk (row_other RI.out B3 (by decide) K6)
       replace B3 := B3n
       replace HB := HBn
       clear B3n HBn K6 HZ
       have HZ := Aside0.mk (Nat.le_refl 0)
       refine hK.out _ _ ?_
       clear hK K
       try simp only [Act.put, List.setIfInBounds_toArray, List.set_cons_zero, List.set_cons_succ]
       refine wpAnyLast_ready (rs := [7]) (by kernel_rfl) (by simp) ?_
       refine AllReadyL.cons_last (o := Oper.mk _ _ _ _ _ _) rfl (by decide) (fun K hK => ?_) ?_
       ·refine rg_store HB (by rfl) B4 GE_g4 95 _ _ rfl rfl rfl (by kernel_rfl) rfl (by simp [Value.oneCell']) ?_
        intro w7 B4n HBn K7
        replace E := E.other K7 (Nat.ne_of_lt N1g4.out)
        replace B3 := B3.other K7 N34.out
        replace RM := Aside0.mk (row_other RM.out B4 (by decide) K7)
        replace RI := Aside0.mk (row_other RI.out B4 (by decide) K7)
        replace B4 := B4n
        replace HB := HBn
        clear B4n HBn K7 HZ
        have HZ := Aside0.mk (Nat.le_refl 0)
        refine hK.out _ _ ?_
        clear hK K
        try simp only [Act.put, List.setIfInBounds_toArray, List.set_cons_zero, List.set_cons_succ]
        refine wpAnyLast_done (by kernel_rfl) ?_ _
        refine NoPanic.normal ?_
        go_step
        go_step
        gi_meet
        case rel => exact ⟨g3, g4, c1, c2, A1, A2, rfl, rfl, GE_g3, GE_g4, ⟨N1g3.out, N1g4.out, N34.out⟩, E, B3, B4, RM, RI, HB⟩
       exact AllReadyL.nil
      exact AllReadyL.nil
     exact AllReadyL.nil
    refine AllReadyL.cons (o := Oper.mk _ _ _ _ _ _) rfl (by decide) (fun K hK => ?_) ?_
    ·refine rg_alloc HB (by rfl) (#[.int .i64 0, .slice none 0 0]) 95 (by first | (go_simp; done) | (go_simp; rfl)) ?_
     intro g3 W' G3 GE_g3 B3 HBn hb
     have N1g3 := Aside0.mk (show g1 < g3 by have := L1.out.1; have := HZ.out; have := G3.out; omega)
     have N34 := Aside0.mk (show g3 ≠ g4 by have := B4.lt; have := G3.out; omega)
     clear HBn
     replace E := E.below hb.out
     replace HB := HB.step hb.out
     replace HZ := Aside0.mk (Nat.le_trans HZ.out hb.out.size)
     replace RM := Aside0.mk (row_below RM.out hb.out)
     replace B4 := B4.below hb.out
     refine hK.out _ _ E (fun hS => ?_)
     clear hK K hb G3
     try simp only [Act.put, List.setIfInBounds_toArray, List.set_cons_zero, List.set_cons_succ]
     refine wpAnyLast_ready (rs := [3]) (by kernel_rfl) (by simp) ?_
     refine AllReadyL.cons (o := Oper.mk _ _ _ _ _ _) rfl (by decide) (fun K hK => ?_) ?_
     ·refine call_ 50 #[.string s] (by rfl) rfl (by first | (go_simp; done) | (go_simp; rfl)) ((quotes_Inside.walk s _ HS.out).mono ?_)
      rintro e W' ⟨v, rfl, hrow, hb'⟩
      obtain ⟨A2, c2, rfl⟩ := own_slice hrow
      rw [← HNW.out] at hrow ⊢
      have hb := Aside0.mk hb'
      have RI := Aside0.mk (row_mono hrow HB.le)
      have V2 := Aside0.mk (row_one hrow)
      clear hrow hb'
      replace E := E.below hb.out
      replace HB := HB.step hb.out
      replace HZ := Aside0.mk (Nat.le_trans HZ.out hb.out.size)
      replace RM := Aside0.mk (row_below RM.out hb.out)
      replace B3 := B3.below hb.out
      replace B4 := B4.below hb.out
      refine ⟨_, rfl, ?_⟩
      refine hK.out _ _ E (fun hS => ?_)
      clear hK K hb
      try simp only [Act.put, List.setIfInBounds_toArray, List.set_cons_zero, List.set_cons_succ]
      refine wpAnyLast_ready (rs := [6]) (by kernel_rfl) (by simp) ?_
      refine AllReadyL.cons_last (o := Oper.mk _ _ _ _ _ _) rfl (by decide) (fun K hK => ?_) ?_
      ·refine rg_store HB (by rfl) B3 GE_g3 95 _ _ rfl rfl rfl (by kernel_rfl) rfl (by simp [Value.oneCell']) ?_
       intro w6 B3n HBn K6
       replace E := E.other K6 (Nat.ne_of_lt N1g3.out)
       replace B4 := B4.other K6 (Ne.symm N34.out)
       replace RM := Aside0.mk (row_other RM.out B3 (by decide) K6)
       replace RI := Aside0.mk (row_other RI.out B3 (by decide) K6)
       replace B3 := B3n
       replace HB := HBn
       clear B3n HBn K6 HZ
       have HZ := Aside0.mk (Nat.le_refl 0)
       refine hK.out _ _ ?_
       clear hK K
       try simp only [Act.put, List.setIfInBounds_toArray, List.set_cons_zero, List.set_cons_succ]
       refine wpAnyLast_ready (rs := [7]) (by kernel_rfl) (by simp) ?_
       refine AllReadyL.cons_last (o := Oper.mk _ _ _ _ _ _) rfl (by decide) (fun K hK => ?_) ?_
       ·refine rg_store HB (by rfl) B4 GE_g4 95 _ _ rfl rfl rfl (by kernel_rfl) rfl (by simp [Value.oneCell']) ?_
        intro w7 B4n HBn K7
        replace E := E.other K7 (Nat.ne_of_lt N1g4.out)
        replace B3 := B3.other K7 N34.out
        replace RM := Aside0.mk (row_other RM.out B4 (by decide) K7)
        replace RI := Aside0.mk (row_other RI.out B4 (by decide) K7)
        replace B4 := B4n
        replace HB := HBn
        clear B4n HBn K7 HZ
        have HZ := Aside0.mk (Nat.le_refl 0)
        refine hK.out _ _ ?_
        clear hK K
        try simp only [Act.put, List.setIfInBounds_toArray, List.set_cons_zero, List.set_cons_succ]
        refine wpAnyLast_done (by kernel_rfl) ?_ _
        refine NoPanic.normal ?_
        go_step
        go_step
        gi_meet
        case rel => exact ⟨g3, g4, c1, c2, A1, A2, rfl, rfl, GE_g3, GE_g4, ⟨N1g3.out, N1g4.out, N34.out⟩, E, B3, B4, RM, RI, HB⟩
       exact AllReadyL.nil
      exact AllReadyL.nil
     exact AllReadyL.nil
    exact AllReadyL.nil
   exact AllReadyL.nil
  refine AllReadyL.cons (o := Oper.mk _ _ _ _ _ _) rfl (by decide) (fun K hK => ?_) ?_
  ·refine rg_alloc HB (by rfl) (#[.int .i64 0, .slice none 0 0]) 95 (by first | (go_simp; done) | (go_simp; rfl)) ?_
   intro g3 W' G3 GE_g3 B3 HBn hb
   have N1g3 := Aside0.mk (show g1 < g3 by have := L1.out.1; have := HZ.out; have := G3.out; omega)
   clear HBn
   replace E := E.below hb.out
   replace HB := HB.step hb.out
   replace HZ := Aside0.mk (Nat.le_trans HZ.out hb.out.size)
   refine hK.out _ _ E (fun hS => ?_)
   clear hK K hb G3
   try simp only [Act.put, List.setIfInBounds_toArray, List.set_cons_zero, List.set_cons_succ]
   refine wpAnyLast_ready (rs := [1, 5]) (by kernel_rfl) (by simp) ?_
   refine AllReadyL.cons (o := Oper.mk _ _ _ _ _ _) rfl (by decide) (fun K hK => ?_) ?_
   ·refine call_ 47 #[.string s] (by rfl) rfl (by first | (go_simp; done) | (go_simp; rfl)) ((quotes_Marks.walk s _ HS.out).mono ?_)
    rintro e W' ⟨v, rfl, hrow, hb'⟩
    obtain ⟨A1, c1, rfl⟩ := own_slice hrow
    rw [← HNW.out] at hrow ⊢
    have hb := Aside0.mk hb'
    have RM := Aside0.mk (row_mono hrow HB.le)
    have V1 := Aside0.mk (row_one hrow)
    clear hrow hb'
    replace E := E.below hb.out
    replace HB := HB.step hb.out
    replace HZ := Aside0.mk (Nat.le_trans HZ.out hb.out.size)
    replace B3 := B3.below hb.out
    refine ⟨_, rfl, ?_⟩
    refine hK.out _ _ E (fun hS => ?_)
    clear hK K hb
    try simp only [Act.put, List.setIfInBounds_toArray, List.set_cons_zero, List.set_cons_succ]
    refine wpAnyLast_ready (rs := [3, 5]) (by kernel_rfl) (by simp) ?_
    refine AllReadyL.cons (o := Oper.mk _ _ _ _ _ _) rfl (by decide) (fun K hK => ?_) ?_
    ·refine call_ 50 #[.string s] (by rfl) rfl (by first | (go_simp; done) | (go_simp; rfl)) ((quotes_Inside.walk s _ HS.out).mono ?_)
     rintro e W' ⟨v, rfl, hrow, hb'⟩
     obtain ⟨A2, c2, rfl⟩ := own_slice hrow
     rw [← HNW.out] at hrow ⊢
     have hb := Aside0.mk hb'
     have RI := Aside0.mk (row_mono hrow HB.le)
     have V2 := Aside0.mk (row_one hrow)
     clear hrow hb'
     replace E := E.below hb.out
     replace HB := HB.step hb.out
     replace HZ := Aside0.mk (Nat.le_trans HZ.out hb.out.size)
     replace RM := Aside0.mk (row_below RM.out hb.out)
     replace B3 := B3.below hb.out
     refine ⟨_, rfl, ?_⟩
     refine hK.out _ _ E (fun hS => ?_)
     clear hK K hb
     try simp only [Act.put, List.setIfInBounds_toArray, List.set_cons_zero, List.set_cons_succ]
     refine wpAnyLast_ready (rs := [5]) (by kernel_rfl) (by simp) ?_
     refine AllReadyL.cons (o := Oper.mk _ _ _ _ _ _) rfl (by decide) (fun K hK => ?_) ?_
     ·refine rg_alloc HB (by rfl) (#[.int .i64 0, .slice none 0 0]) 95 (by first | (go_simp; done) | (go_simp; rfl)) ?_
      intro g4 W' G4 GE_g4 B4 HBn hb
      have N1g4 := Aside0.mk (show g1 < g4 by have := L1.out.1; have := HZ.out; have := G4.out; omega)
      have N34 := Aside0.mk (show g3 ≠ g4 by have := B3.lt; have := G4.out; omega)
      clear HBn
      replace E := E.below hb.out
      replace HB := HB.step hb.out
      replace HZ := Aside0.mk (Nat.le_trans HZ.out hb.out.size)
      replace RM := Aside0.mk (row_below RM.out hb.out)
      replace RI := Aside0.mk (row_below RI.out hb.out)
      replace B3 := B3.below hb.out
      refine hK.out _ _ E (fun hS => ?_)
      clear hK K hb G4
      try simp only [Act.put, List.setIfInBounds_toArray, List.set_cons_zero, List.set_cons_succ]
      refine wpAnyLast_ready (rs := [6]) (by kernel_rfl) (by simp) ?_
      refine AllReadyL.cons_last (o := Oper.mk _ _ _ _ _ _) rfl (by decide) (fun K hK => ?_) ?_
      ·refine rg_store HB (by rfl) B3 GE_g3 95 _ _ rfl rfl rfl (by kernel_rfl) rfl (by simp [Value.oneCell']) ?_
       intro w6 B3n HBn K6
       replace E := E.other K6 (Nat.ne_of_lt N1g3.out)
       replace B4 := B4.other K6 (Ne.symm N34.out)
       replace RM := Aside0.mk (row_other RM.out B3 (by decide) K6)
       replace RI := Aside0.mk (row_other RI.out B3 (by decide) K6)
       replace B3 := B3n
       replace HB := HBn
       clear B3n HBn K6 HZ
       have HZ := Aside0.mk (Nat.le_refl 0)
       refine hK.out _ _ ?_
       clear hK K
       try simp only [Act.put, List.setIfInBounds_toArray, List.set_cons_zero, List.set_cons_succ]
       refine wpAnyLast_ready (rs := [7]) (by kernel_rfl) (by simp) ?_
       refine AllReadyL.cons_last (o := Oper.mk _ _ _ _ _ _) rfl (by decide) (fun K hK => ?_) ?_
       ·refine rg_store HB (by rfl) B4 GE_g4 95 _ _ rfl rfl rfl (by kernel_rfl) rfl (by simp [Value.oneCell']) ?_
        intro w7 B4n HBn K7
        replace E := E.other K7 (Nat.ne_of_lt N1g4.out)
        replace B3 := B3.other K7 N34.out
        replace RM := Aside0.mk (row_other RM.out B4 (by decide) K7)
        replace RI := Aside0.mk (row_other RI.out B4 (by decide) K7)
        replace B4 := B4n
        replace HB := HBn
        clear B4n HBn K7 HZ
        have HZ := Aside0.mk (Nat.le_refl 0)
        refine hK.out _ _ ?_
        clear hK K
        try simp only [Act.put, List.setIfInBounds_toArray, List.set_cons_zero, List.set_cons_succ]
        refine wpAnyLast_done (by kernel_rfl) ?_ _
        refine NoPanic.normal ?_
        go_step
        go_step
        gi_meet
        case rel => exact ⟨g3, g4, c1, c2, A1, A2, rfl, rfl, GE_g3, GE_g4, ⟨N1g3.out, N1g4.out, N34.out⟩, E, B3, B4, RM, RI, HB⟩
       exact AllReadyL.nil
      exact AllReadyL.nil
     exact AllReadyL.nil
    refine AllReadyL.cons (o := Oper.mk _ _ _ _ _ _) rfl (by decide) (fun K hK => ?_) ?_
    ·refine rg_alloc HB (by rfl) (#[.int .i64 0, .slice none 0 0]) 95 (by first | (go_simp; done) | (go_simp; rfl)) ?_
     intro g4 W' G4 GE_g4 B4 HBn hb
     have N1g4 := Aside0.mk (show g1 < g4 by have := L1.out.1; have := HZ.out; have := G4.out; omega)
     have N34 := Aside0.mk (show g3 ≠ g4 by have := B3.lt; have := G4.out; omega)
     clear HBn
     replace E := E.below hb.out
     replace HB := HB.step hb.out
     replace HZ := Aside0.mk (Nat.le_trans HZ.out hb.out.size)
     replace RM := Aside0.mk (row_below RM.out hb.out)
     replace B3 := B3.below hb.out
     refine hK.out _ _ E (fun hS => ?_)
     clear hK K hb G4
     try simp only [Act.put, List.setIfInBounds_toArray, List.set_cons_zero, List.set_cons_succ]
     refine wpAnyLast_ready (rs := [3]) (by kernel_rfl) (by simp) ?_
     refine AllReadyL.cons (o := Oper.mk _ _ _ _ _ _) rfl (by decide) (fun K hK => ?_) ?_
     ·refine call_ 50 #[.string s] (by rfl) rfl (by first | (go_simp; done) | (go_simp; rfl)) ((quotes_Inside.walk s _ HS.out).mono ?_)
      rintro e W' ⟨v, rfl, hrow, hb'⟩
      obtain ⟨A2, c2, rfl⟩ := own_slice hrow
      rw [← HNW.out] at hrow ⊢
      have hb := Aside0.mk hb'
      have RI := Aside0.mk (row_mono hrow HB.le)
      have V2 := Aside0.mk (row_one hrow)
      clear hrow hb'
      replace E := E.below hb.out
      replace HB := HB.step hb.out
      replace HZ := Aside0.mk (Nat.le_trans HZ.out hb.out.size)
      replace RM := Aside0.mk (row_below RM.out hb.out)
      replace B3 := B3.below hb.out
      replace B4 := B4.below hb.out
      refine ⟨_, rfl, ?_⟩
      refine hK.out _ _ E (fun hS => ?_)
      clear hK K hb
      try simp only [Act.put, List.setIfInBounds_toArray, List.set_cons_zero, List.set_cons_succ]
      refine wpAnyLast_ready (rs := [6]) (by kernel_rfl) (by simp) ?_
      refine AllReadyL.cons_last (o := Oper.mk _ _ _ _ _ _) rfl (by decide) (fun K hK => ?_) ?_
      ·refine rg_store HB (by rfl) B3 GE_g3 95 _ _ rfl rfl rfl (by kernel_rfl) rfl (by simp [Value.oneCell']) ?_
       intro w6 B3n HBn K6
       replace E := E.other K6 (Nat.ne_of_lt N1g3.out)
       replace B4 := B4.other K6 (Ne.symm N34.out)
       replace RM := Aside0.mk (row_other RM.out B3 (by decide) K6)
       replace RI := Aside0.mk (row_other RI.out B3 (by decide) K6)
       replace B3 := B3n
       replace HB := HBn
       clear B3n HBn K6 HZ
       have HZ := Aside0.mk (Nat.le_refl 0)
       refine hK.out _ _ ?_
       clear hK K
       try simp only [Act.put, List.setIfInBounds_toArray, List.set_cons_zero, List.set_cons_succ]
       refine wpAnyLast_ready (rs := [7]) (by kernel_rfl) (by simp) ?_
       refine AllReadyL.cons_last (o := Oper.mk _ _ _ _ _ _) rfl (by decide) (fun K hK => ?_) ?_
       ·refine rg_store HB (by rfl) B4 GE_g4 95 _ _ rfl rfl rfl (by kernel_rfl) rfl (by simp [Value.oneCell']) ?_
        intro w7 B4n HBn K7
        replace E := E.other K7 (Nat.ne_of_lt N1g4.out)
        replace B3 := B3.other K7 N34.out
        replace RM := Aside0.mk (row_other RM.out B4 (by decide) K7)
        replace RI := Aside0.mk (row_other RI.out B4 (by decide) K7)
        replace B4 := B4n
        replace HB := HBn
        clear B4n HBn K7 HZ
        have HZ := Aside0.mk (Nat.le_refl 0)
        refine hK.out _ _ ?_
        clear hK K
        try simp only [Act.put, List.setIfInBounds_toArray, List.set_cons_zero, List.set_cons_succ]
        refine wpAnyLast_done (by kernel_rfl) ?_ _
        refine NoPanic.normal ?_
        go_step
        go_step
        gi_meet
        case rel => exact ⟨g3, g4, c1, c2, A1, A2, rfl, rfl, GE_g3, GE_g4, ⟨N1g3.out, N1g4.out, N34.out⟩, E, B3, B4, RM, RI, HB⟩
       exact AllReadyL.nil
      exact AllReadyL.nil
     exact AllReadyL.nil
    exact AllReadyL.nil
   refine AllReadyL.cons (o := Oper.mk _ _ _ _ _ _) rfl (by decide) (fun K hK => ?_) ?_
   ·refine rg_alloc HB (by rfl) (#[.int .i64 0, .slice none 0 0]) 95 (by first | (go_simp; done) | (go_simp; rfl)) ?_
    intro g4 W' G4 GE_g4 B4 HBn hb
    have N1g4 := Aside0.mk (show g1 < g4 by have := L1.out.1; have := HZ.out; have := G4.out; omega)
    have N34 := Aside0.mk (show g3 ≠ g4 by have := B3.lt; have := G4.out; omega)
    clear HBn
    replace E := E.below hb.out
    replace HB := HB.step hb.out
    replace HZ := Aside0.mk (Nat.le_trans HZ.out hb.out.size)
    replace B3 := B3.below hb.out
    refine hK.out _ _ E (fun hS => ?_)
    clear hK K hb G4
    try simp only [Act.put, List.setIfInBounds_toArray, List.set_cons_zero, List.set_cons_succ]
    refine wpAnyLast_ready (rs := [1]) (by kernel_rfl) (by simp) ?_
    refine AllReadyL.cons (o := Oper.mk _ _ _ _ _ _) rfl (by decide) (fun K hK => ?_) ?_
    ·refine call_ 47 #[.string s] (by rfl) rfl (by first | (go_simp; done) | (go_simp; rfl)) ((quotes_Marks.walk s _ HS.out).mono ?_)
     rintro e W' ⟨v, rfl, hrow, hb'⟩
     obtain ⟨A1, c1, rfl⟩ := own_slice hrow
     rw [← HNW.out] at hrow ⊢
     have hb := Aside0.mk hb'
     have RM := Aside0.mk (row_mono hrow HB.le)
     have V1 := Aside0.mk (row_one hrow)
     clear hrow hb'
     replace E := E.below hb.out
     replace HB := HB.step hb.out
     replace HZ := Aside0.mk (Nat.le_trans HZ.out hb.out.size)
     replace B3 := B3.below hb.out
     replace B4 := B4.below hb.out
     refine ⟨_, rfl, ?_⟩
     refine hK.out _ _ E (fun hS => ?_)
     clear hK K hb
     try simp only [Act.put, List.setIfInBounds_toArray, List.set_cons_zero, List.set_cons_succ]
     refine wpAnyLast_ready (rs := [3]) (by kernel_rfl) (by simp) ?_
     refine AllReadyL.cons (o := Oper.mk _ _ _ _ _ _) rfl (by decide) (fun K hK => ?_) ?_
     ·refine call_ 50 #[.string s] (by rfl) rfl (by first | (go_simp; done) | (go_simp; rfl)) ((quotes_Inside.walk s _ HS.out).mono ?_)
      rintro e W' ⟨v, rfl, hrow, hb'⟩
      obtain ⟨A2, c2, rfl⟩ := own_slice hrow
      rw [← HNW.out] at hrow ⊢
      have hb := Aside0.mk hb'
      have RI := Aside0.mk (row_mono hrow HB.le)
      have V2 := Aside0.mk (row_one hrow)
      clear hrow hb'
      replace E := E.below hb.out
      replace HB := HB.step hb.out
      replace HZ := Aside0.mk (Nat.le_trans HZ.out hb.out.size)
      replace RM := Aside0.mk (row_below RM.out hb.out)
      replace B3 := B3.below hb.out
      replace B4 := B4.below hb.out
      refine ⟨_, rfl, ?_⟩
      refine hK.out _ _ E (fun hS => ?_)
      clear hK K hb
      try simp only [Act.put, List.setIfInBounds_toArray, List.set_cons_zero, List.set_cons_succ]
      refine wpAnyLast_ready (rs := [6]) (by kernel_rfl) (by simp) ?_
      refine AllReadyL.cons_last (o := Oper.mk _ _ _ _ _ _) rfl (by decide) (fun K hK => ?_) ?_
      ·refine rg_store HB (by rfl) B3 GE_g3 95 _ _ rfl rfl rfl (by kernel_rfl) rfl (by simp [Value.oneCell']) ?_
       intro w6 B3n HBn K6
       replace E := E.other K6 (Nat.ne_of_lt N1g3.out)
       replace B4 := B4.other K6 (Ne.symm N34.out)
       replace RM := Aside0.mk (row_other RM.out B3 (by decide) K6)
       replace RI := Aside0.mk (row_other RI.out B3 (by decide) K6)
       replace B3 := B3n
       replace HB := HBn
       clear B3n HBn K6 HZ
       have HZ := Aside0.mk (Nat.le_refl 0)
       refine hK.out _ _ ?_
       clear hK K
       try simp only [Act.put, List.setIfInBounds_toArray, List.set_cons_zero, List.set_cons_succ]
       refine wpAnyLast_ready (rs := [7]) (by kernel_rfl) (by simp) ?_
       refine AllReadyL.cons_last (o := Oper.mk _ _ _ _ _ _) rfl (by decide) (fun K hK => ?_) ?_
       ·refine rg_store HB (by rfl) B4 GE_g4 95 _ _ rfl rfl rfl (by kernel_rfl) rfl (by simp [Value.oneCell']) ?_
        intro w7 B4n HBn K7
        replace E := E.other K7 (Nat.ne_of_lt N1g4.out)
        replace B3 := B3.other K7 N34.out
        replace RM := Aside0.mk (row_other RM.out B4 (by decide) K7)
        replace RI := Aside0.mk (row_other RI.out B4 (by decide) K7)
        replace B4 := B4n
        replace HB := HBn
        clear B4n HBn K7 HZ
        have HZ := Aside0.mk (Nat.le_refl 0)
        refine hK.out _ _ ?_
        clear hK K
        try simp only [Act.put, List.setIfInBounds_toArray, List.set_cons_zero, List.set_cons_succ]
        refine wpAnyLast_done (by kernel_rfl) ?_ _
        refine NoPanic.normal ?_
        go_step
        go_step
        gi_meet
        case rel => exact ⟨g3, g4, c1, c2, A1, A2, rfl, rfl, GE_g3, GE_g4, ⟨N1g3.out, N1g4.out, N34.out⟩, E, B3, B4, RM, RI, HB⟩
       exact AllReadyL.nil
      exact AllReadyL.nil
     exact AllReadyL.nil
    exact AllReadyL.nil
   exact AllReadyL.nil
  refine AllReadyL.cons (o := Oper.mk _ _ _ _ _ _) rfl (by decide) (fun K hK => ?_) ?_
  ·refine rg_alloc HB (by rfl) (#[.int .i64 0, .slice none 0 0]) 95 (by first | (go_simp; done) | (go_simp; rfl)) ?_
   intro g4 W' G4 GE_g4 B4 HBn hb
   have N1g4 := Aside0.mk (show g1 < g4 by have := L1.out.1; have := HZ.out; have := G4.out; omega)
   clear HBn
   replace E := E.below hb.out
   replace HB := HB.step hb.out
   replace HZ := Aside0.mk (Nat.le_trans HZ.out hb.out.size)
   refine hK.out _ _ E (fun hS => ?_)
   clear hK K hb G4
   try simp only [Act.put, List.setIfInBounds_toArray, List.set_cons_zero, List.set_cons_succ]
   refine wpAnyLast_ready (rs := [1, 4]) (by kernel_rfl) (by simp) ?_
   refine AllReadyL.cons (o := Oper.mk _ _ _ _ _ _) rfl (by decide) (fun K hK => ?_) ?_
   ·refine call_ 47 #[.string s] (by rfl) rfl (by first | (go_simp; done) | (go_simp; rfl)) ((quotes_Marks.walk s _ HS.out).mono ?_)
    rintro e W' ⟨v, rfl, hrow, hb'⟩
    obtain ⟨A1, c1, rfl⟩ := own_slice hrow
    rw [← HNW.out] at hrow ⊢
    have hb := Aside0.mk hb'
    have RM := Aside0.mk (row_mono hrow HB.le)
    have V1 := Aside0.mk (row_one hrow)
    clear hrow hb'
    replace E := E.below hb.out
    replace HB := HB.step hb.out
    replace HZ := Aside0.mk (Nat.le_trans HZ.out hb.out.size)
    replace B4 := B4.below hb.out
    refine ⟨_, rfl, ?_⟩
    refine hK.out _ _ E (fun hS => ?_)
    clear hK K hb
    try simp only [Act.put, List.setIfInBounds_toArray, List.set_cons_zero, List.set_cons_succ]
    refine wpAnyLast_ready (rs := [3, 4]) (by kernel_rfl) (by simp) ?_
    refine AllReadyL.cons (o := Oper.mk _ _ _ _ _ _) rfl (by decide) (fun K hK => ?_) ?_
    ·refine call_ 50 #[.string s] (by rfl) rfl (by first | (go_simp; done) | (go_simp; rfl)) ((quotes_Inside.walk s _ HS.out).mono ?_)
     rintro e W' ⟨v, rfl, hrow, hb'⟩
     obtain ⟨A2, c2, rfl⟩ := own_slice hrow
     rw [← HNW.out] at hrow ⊢
     have hb := Aside0.mk hb'
     have RI := Aside0.mk (row_mono hrow HB.le)
     have V2 := Aside0.mk (row_one hrow)
     clear hrow hb'
     replace E := E.below hb.out
     replace HB := HB.step hb.out
     replace HZ := Aside0.mk (Nat.le_trans HZ.out hb.out.size)
     replace RM := Aside0.mk (row_below RM.out hb.out)
     replace B4 := B4.below hb.out
     refine ⟨_, rfl, ?_⟩
     refine hK.out _ _ E (fun hS => ?_)
     clear hK K hb
     try simp only [Act.put, List.setIfInBounds_toArray, List.set_cons_zero, List.set_cons_succ]
     refine wpAnyLast_ready (rs := [4]) (by kernel_rfl) (by simp) ?_
     refine AllReadyL.cons (o := Oper.mk _ _ _ _ _ _) rfl (by decide) (fun K hK => ?_) ?_
     ·refine rg_alloc HB (by rfl) (#[.int .i64 0, .slice none 0 0]) 95 (by first | (go_simp; done) | (go_simp; rfl)) ?_
      intro g3 W' G3 GE_g3 B3 HBn hb
      have N1g3 := Aside0.mk (show g1 < g3 by have := L1.out.1; have := HZ.out; have := G3.out; omega)
      have N34 := Aside0.mk (show g3 ≠ g4 by have := B4.lt; have := G3.out; omega)
      clear HBn
      replace E := E.below hb.out
      replace HB := HB.step hb.out
      replace HZ := Aside0.mk (Nat.le_trans HZ.out hb.out.size)
      replace RM := Aside0.mk (row_below RM.out hb.out)
      replace RI := Aside0.mk (row_below RI.out hb.out)
      replace B4 := B4.below hb.out
      refine hK.out _ _ E (fun hS => ?_)
      clear hK K hb G3
      try simp only [Act.put, List.setIfInBounds_toArray, List.set_cons_zero, List.set_cons_succ]
      refine wpAnyLast_ready (rs := [6]) (by kernel_rfl) (by simp) ?_
      refine AllReadyL.cons_last (o := Oper.mk _ _ _ _ _ _) rfl (by decide) (fun K hK => ?_) ?_
      ·refine rg_store HB (by rfl) B3 GE_g3 95 _ _ rfl rfl rfl (by kernel_rfl) rfl (by simp [Value.oneCell']) ?_
       intro w6 B3n HBn K6
       replace E := E.other K6 (Nat.ne_of_lt N1g3.out)
       replace B4 := B4.other K6 (Ne.symm N34.out)
       replace RM := Aside0.mk (row_other RM.out B3 (by decide) K6)
       replace RI := Aside0.mk (row_other RI.out B3 (by decide) K6)
       replace B3 := B3n
       replace HB := HBn
       clear B3n HBn K6 HZ
       have HZ := Aside0.mk (Nat.le_refl 0)
       refine hK.out _ _ ?_
       clear hK K
       try simp only [Act.put, List.setIfInBounds_toArray, List.set_cons_zero, List.set_cons_succ]
       refine wpAnyLast_ready (rs := [7]) (by kernel_rfl) (by simp) ?_
       refine AllReadyL.cons_last (o := Oper.mk _ _ _ _ _ _) rfl (by decide) (fun K hK => ?_) ?_
       ·refine rg_store HB (by rfl) B4 GE_g4 95 _ _ rfl rfl rfl (by kernel_rfl) rfl (by simp [Value.oneCell']) ?_
        intro w7 B4n HBn K7
        replace E := E.other K7 (Nat.ne_of_lt N1g4.out)
        replace B3 := B3.other K7 N34.out
        replace RM := Aside0.mk (row_other RM.out B4 (by decide) K7)
        replace RI := Aside0.mk (row_other RI.out B4 (by decide) K7)
        replace B4 := B4n
        replace HB := HBn
        clear B4n HBn K7 HZ
        have HZ := Aside0.mk (Nat.le_refl 0)
        refine hK.out _ _ ?_
        clear hK K
        try simp only [Act.put, List.setIfInBounds_toArray, List.set_cons_zero, List.set_cons_succ]
        refine wpAnyLast_done (by kernel_rfl) ?_ _
        refine NoPanic.normal ?_
        go_step
        go_step
        gi_meet
        case rel => exact ⟨g3, g4, c1, c2, A1, A2, rfl, rfl, GE_g3, GE_g4, ⟨N1g3.out, N1g4.out, N34.out⟩, E, B3, B4, RM, RI, HB⟩
       exact AllReadyL.nil
      exact AllReadyL.nil
     exact AllReadyL.nil
    refine AllReadyL.cons (o := Oper.mk _ _ _ _ _ _) rfl (by decide) (fun K hK => ?_) ?_
    ·refine rg_alloc HB (by rfl) (#[.int .i64 0, .slice none 0 0]) 95 (by first | (go_simp; done) | (go_simp; rfl)) ?_
     intro g3 W' G3 GE_g3 B3 HBn hb
     have N1g3 := Aside0.mk (show g1 < g3 by have := L1.out.1; have := HZ.out; have := G3.out; omega)
     have N34 := Aside0.mk (show g3 ≠ g4 by have := B4.lt; have := G3.out; omega)
     clear HBn
     replace E := E.below hb.out
     replace HB := HB.step hb.out
     replace HZ := Aside0.mk (Nat.le_trans HZ.out hb.out.size)
     replace RM := Aside0.mk (row_below RM.out hb.out)
     replace B4 := B4.below hb.out
     refine hK.out _ _ E (fun hS => ?_)
     clear hK K hb G3
     try simp only [Act.put, List.setIfInBounds_toArray, List.set_cons_zero, List.set_cons_succ]
     refine wpAnyLast_ready (rs := [3]) (by kernel_rfl) (by simp) ?_
     refine AllReadyL.cons (o := Oper.mk _ _ _ _ _ _) rfl (by decide) (fun K hK => ?_) ?_
     ·refine call_ 50 #[.string s] (by rfl) rfl (by first | (go_simp; done) | (go_simp; rfl)) ((quotes_Inside.walk s _ HS.out).mono ?_)
      rintro e W' ⟨v, rfl, hrow, hb'⟩
      obtain ⟨A2, c2, rfl⟩ := own_slice hrow
      rw [← HNW.out] at hrow ⊢
      have hb := Aside0.mk hb'
      have RI := Aside0.mk (row_mono hrow HB.le)
      have V2 := Aside0.mk (row_one hrow)
      clear hrow hb'
      replace E := E.below hb.out
      replace HB := HB.step hb.out
      replace HZ := Aside0.mk (Nat.le_trans HZ.out hb.out.size)
      replace RM := Aside0.mk (row_below RM.out hb.out)
      replace B3 := B3.below hb.out
      replace B4 := B4.below hb.out
      refine ⟨_, rfl, ?_⟩
      refine hK.out _ _ E (fun hS => ?_)
      clear hK K hb
      try simp only [Act.put, List.setIfInBounds_toArray, List.set_cons_zero, List.set_cons_succ]
      refine wpAnyLast_ready (rs := [6]) (by kernel_rfl) (by simp) ?_
      refine AllReadyL.cons_last (o := Oper.mk _ _ _ _ _ _) rfl (by decide) (fun K hK => ?_) ?_
      ·refine rg_store HB (by rfl) B3 GE_g3 95 _ _ rfl rfl rfl (by kernel_rfl) rfl (by simp [Value.oneCell']) ?_
       intro w6 B3n HBn K6
       replace E := E.other K6 (Nat.ne_of_lt N1g3.out)
       replace B4 := B4.other K6 (Ne.symm N34.out)
       replace RM := Aside0.mk (row_other RM.out B3 (by decide) K6)
       replace RI := Aside0.mk (row_other RI.out B3 (by decide) K6)
       replace B3 := B3n
       replace HB := HBn
       clear B3n HBn K6 HZ
       have HZ := Aside0.mk (Nat.le_refl 0)
       refine hK.out _ _ ?_
       clear hK K
       try simp only [Act.put, List.setIfInBounds_toArray, List.set_cons_zero, List.set_cons_succ]
       refine wpAnyLast_ready (rs := [7]) (by kernel_rfl) (by simp) ?_
       refine AllReadyL.cons_last (o := Oper.mk _ _ _ _ _ _) rfl (by decide) (fun K hK => ?_) ?_
       ·refine rg_store HB (by rfl) B4 GE_g4 95 _ _ rfl rfl rfl (by kernel_rfl) rfl (by simp [Value.oneCell']) ?_
        intro w7 B4n HBn K7
        replace E := E.other K7 (Nat.ne_of_lt N1g4.out)
        replace B3 := B3.other K7 N34.out
        replace RM := Aside0.mk (row_other RM.out B4 (by decide) K7)
        replace RI := Aside0.mk (row_other RI.out B4 (by decide) K7)
        replace B4 := B4n
        replace HB := HBn
        clear B4n HBn K7 HZ
        have HZ := Aside0.mk (Nat.le_refl 0)
        refine hK.out _ _ ?_
        clear hK K
        try simp only [Act.put, List.setIfInBounds_toArray, List.set_cons_zero, List.set_cons_succ]
        refine wpAnyLast_done (by kernel_rfl) ?_ _
        refine NoPanic.normal ?_
        go_step
        go_step
        gi_meet
        case rel => exact ⟨g3, g4, c1, c2, A1, A2, rfl, rfl, GE_g3, GE_g4, ⟨N1g3.out, N1g4.out, N34.out⟩, E, B3, B4, RM, RI, HB⟩
       exact AllReadyL.nil
      exact AllReadyL.nil
     exact AllReadyL.nil
    exact AllReadyL.nil
   refine AllReadyL.cons (o := Oper.mk _ _ _ _ _ _) rfl (by decide) (fun K hK => ?_) ?_
   ·refine rg_alloc HB (by rfl) (#[.int .i64 0, .slice none 0 0]) 95 (by first | (go_simp; done) | (go_simp; rfl)) ?_
    intro g3 W' G3 GE_g3 B3 HBn hb
    have N1g3 := Aside0.mk (show g1 < g3 by have := L1.out.1; have := HZ.out; have := G3.out; omega)
    have N34 := Aside0.mk (show g3 ≠ g4 by have := B4.lt; have := G3.out; omega)
    clear HBn
    replace E := E.below hb.out
    replace HB := HB.step hb.out
    replace HZ := Aside0.mk (Nat.le_trans HZ.out hb.out.size)
    replace B4 := B4.below hb.out
    refine hK.out _ _ E (fun hS => ?_)
    clear hK K hb G3
    try simp only [Act.put, List.setIfInBounds_toArray, List.set_cons_zero, List.set_cons_succ]
    refine wpAnyLast_ready (rs := [1]) (by kernel_rfl) (by simp) ?_
    refine AllReadyL.cons (o := Oper.mk _ _ _ _ _ _) rfl (by decide) (fun K hK => ?_) ?_
    ·refine call_ 47 #[.string s] (by rfl) rfl (by first | (go_simp; done) | (go_simp; rfl)) ((quotes_Marks.walk s _ HS.out).mono ?_)
     rintro e W' ⟨v, rfl, hrow, hb'⟩
     obtain ⟨A1, c1, rfl⟩ := own_slice hrow
     rw [← HNW.out] at hrow ⊢
     have hb := Aside0.mk hb'
     have RM := Aside0.mk (row_mono hrow HB.le)
     have V1 := Aside0.mk (row_one hrow)
     clear hrow hb'
     replace E := E.below hb.out
     replace HB := HB.step hb.out
     replace HZ := Aside0.mk (Nat.le_trans HZ.out hb.out.size)
     replace B3 := B3.below hb.out
     replace B4 := B4.below hb.out
     refine ⟨_, rfl, ?_⟩
     refine hK.out _ _ E (fun hS => ?_)
     clear hK K hb
     try simp only [Act.put, List.setIfInBounds_toArray, List.set_cons_zero, List.set_cons_succ]
     refine wpAnyLast_ready (rs := [3]) (by kernel_rfl) (by simp) ?_
     refine AllReadyL.cons (o := Oper.mk _ _ _ _ _ _) rfl (by decide) (fun K hK => ?_) ?_
     ·refine call_ 50 #[.string s] (by rfl) rfl (by first | (go_simp; done) | (go_simp; rfl)) ((quotes_Inside.walk s _ HS.out).mono ?_)
      rintro e W' ⟨v, rfl, hrow, hb'⟩
      obtain ⟨A2, c2, rfl⟩ := own_slice hrow
      rw [← HNW.out] at hrow ⊢
      have hb := Aside0.mk hb'
      have RI := Aside0.mk (row_mono hrow HB.le)
      have V2 := Aside0.mk (row_one hrow)
      clear hrow hb'
      replace E := E.below hb.out
      replace HB := HB.step hb.out
      replace HZ := Aside0.mk (Nat.le_trans HZ.out hb.out.size)
      replace RM := Aside0.mk (row_below RM.out hb.out)
      replace B3 := B3.below hb.out
      replace B4 := B4.below hb.out
      refine ⟨_, rfl, ?_⟩
      refine hK.out _ _ E (fun hS => ?_)
      clear hK K hb
      try simp only [Act.put, List.setIfInBounds_toArray, List.set_cons_zero, List.set_cons_succ]
      refine wpAnyLast_ready (rs := [6]) (by kernel_rfl) (by simp) ?_
      refine AllReadyL.cons_last (o := Oper.mk _ _ _ _ _ _) rfl (by decide) (fun K hK => ?_) ?_
      ·refine rg_store HB (by rfl) B3 GE_g3 95 _ _ rfl rfl rfl (by kernel_rfl) rfl (by simp [Value.oneCell']) ?_
       intro w6 B3n HBn K6
       replace E := E.other K6 (Nat.ne_of_lt N1g3.out)
       replace B4 := B4.other K6 (Ne.symm N34.out)
       replace RM := Aside0.mk (row_other RM.out B3 (by decide) K6)
       replace RI := Aside0.mk (row_other RI.out B3 (by decide) K6)
       replace B3 := B3n
       replace HB := HBn
       clear B3n HBn K6 HZ
       have HZ := Aside0.mk (Nat.le_refl 0)
       refine hK.out _ _ ?_
       clear hK K
       try simp only [Act.put, List.setIfInBounds_toArray, List.set_cons_zero, List.set_cons_succ]
       refine wpAnyLast_ready (rs := [7]) (by kernel_rfl) (by simp) ?_
       refine AllReadyL.cons_last (o := Oper.mk _ _ _ _ _ _) rfl (by decide) (fun K hK => ?_) ?_
       ·refine rg_store HB (by rfl) B4 GE_g4 95 _ _ rfl rfl rfl (by kernel_rfl) rfl (by simp [Value.oneCell']) ?_
        intro w7 B4n HBn K7
        replace E := E.other K7 (Nat.ne_of_lt N1g4.out)
        replace B3 := B3.other K7 N34.out
        replace RM := Aside0.mk (row_other RM.out B4 (by decide) K7)
        replace RI := Aside0.mk (row_other RI.out B4 (by decide) K7)
        replace B4 := B4n
        replace HB := HBn
        clear B4n HBn K7 HZ
        have HZ := Aside0.mk (Nat.le_refl 0)
        refine hK.out _ _ ?_
        clear hK K
        try simp only [Act.put, List.setIfInBounds_toArray, List.set_cons_zero, List.set_cons_succ]
        refine wpAnyLast_done (by kernel_rfl) ?_ _
        refine NoPanic.normal ?_
        go_step
        go_step
        gi_meet
        case rel => exact ⟨g3, g4, c1, c2, A1, A2, rfl, rfl, GE_g3, GE_g4, ⟨N1g3.out, N1g4.out, N34.out⟩, E, B3, B4, RM, RI, HB⟩
       exact AllReadyL.nil
      exact AllReadyL.nil
     exact AllReadyL.nil
    exact AllReadyL.nil
   exact AllReadyL.nil
  exact AllReadyL.nil
 case rest =>
  obtain ⟨g3, g4, c1, c2, A1, A2, rfl, rfl, GE_g3, GE_g4, N134, E1, B3, B4, RM, RI, HB⟩ := hcut
  gi_upto_region 3 with (first
   | (gi_at_call 51; refine (callsIn_of HF (marks_classes.tells _)).mono ?_; rintro e w2 ⟨rfl, hb2⟩; have HK2 := Aside0.mk hb2; have HBn := HB.step hb2; clear HB hb2; have HB := HBn; clear HBn)
   | ((with_reducible refine gate_dstIn (N := 5) rfl ?_); refine ev_allocIn HB rfl rfl (clsA fun _ => false) 100 ?hr ?_; (case hr => (rw [← clsA_zero]; go_simp; rfl)); intro g5 w3 G_g5 GE_g5 B_g5 HBn K_g5 KO_w3; clear HB; have HB := HBn; clear HBn)
   | ((with_reducible refine gate_dstIn (N := 6) rfl ?_); refine ev_allocIn HB rfl rfl (clsA fun _ => false) 100 ?hr ?_; (case hr => (rw [← clsA_zero]; go_simp; rfl)); intro g6 w4 G_g6 GE_g6 B_g6 HBn K_g6 KO_w4; clear HB; have HB := HBn; clear HBn)
   | ((with_reducible refine gate_In (Op.store 100 (.tmp 5) (.tmp 22)) rfl ?_); refine ev_storeIn HB (B_g5.below K_g6.out) GE_g5 rfl 100 _ _ rfl rfl rfl (sizeC' _) (by simp only [clsA_size]) (clsA_one _) ?_; intro w5 B5 HBn K5 KO5; clear HB; have HB := HBn; clear HBn)
   | ((with_reducible refine gate_In (Op.store 100 (.tmp 6) (.tmp 23)) rfl ?_); refine ev_storeIn HB (B_g6.other K5 (Nat.ne_of_gt (Nat.lt_of_lt_of_le B_g5.lt G_g6.out))) GE_g6 rfl 100 _ _ rfl rfl rfl (sizeC' _) (by simp only [clsA_size]) (clsA_one _) ?_; intro w6 B6 HBn K6 KO6; clear HB; have HB := HBn; clear HBn))
  have N0 := Aside0.mk (show g1 < g5 ∧ g3 < g5 ∧ g4 < g5 ∧ g5 < g6 by have := E1.lt; have := B3.lt; have := B4.lt; have := HK2.out.size; have := G_g5.out; have := B_g5.lt; have := G_g6.out; omega)
  have k56 := below_step K_g5.out K_g6.out
  have k26 := below_step HK2.out k56
  have n1 := N0.out
  have E1' := ((E1.below k26).other K5 (by omega)).other K6 (by omega)
  have B3' := ((B3.below k26).other K5 (by omega)).other K6 (by omega)
  have B4' := ((B4.below k26).other K5 (by omega)).other K6 (by omega)
  have B5' := B5.other K6 (by omega)
  have RM' := Aside0.mk (row_other (row_other (row_below RM.out k26) (B_g5.below K_g6.out) (by decide) K5) (B_g6.other K5 (by omega)) (by decide) K6)
  have RI' := Aside0.mk (row_other (row_other (row_below RI.out k26) (B_g5.below K_g6.out) (by decide) K5) (B_g6.other K5 (by omega)) (by decide) K6)
  have c31 := B3'.cell (i := 1) rfl
  clear E1 B3 B4 B5 RM RI k56 k26 n1 K_g5 K_g6 HK2 K5 K6 B_g5 B_g6 G_g5 G_g6 KO_w3 KO_w4 KO5 KO6
  gi_upto_region 4 with (first
   | ((with_reducible refine gate_dstIn (N := 27) rfl ?_); refine ev_makeIn HB rfl 77 81 _ _ (.agg #[.int .u64 0, .int .u64 0, .int .u64 0, .int .u64 0]) 4 32 nw rfl rfl rfl Tryd.underlying77 (by kernel_rfl) (by omega) (by unfold maxLen; omega) ?_; intro gr w7 GR RO HBn K_gr KO7; clear HB; have HB := HBn; clear HBn)
   | ((with_reducible refine gate_dstIn (N := 7) rfl ?_); refine ev_allocIn HB rfl rfl (#[.slice none 0 0]) 77 ?hr ?_; (case hr => first | (go_simp; done) | (go_simp; rfl)); intro g7 w8 G_g7 GE_g7 B_g7 HBn K_g7 KO_w8; clear HB; have HB := HBn; clear HBn)
   | ((with_reducible refine gate_In (Op.store 77 (.tmp 7) (.tmp 27)) rfl ?_); refine ev_store1In (i := 0) HB B_g7 GE_g7 rfl 77 _ _ rfl rfl (.slice (some ⟨gr, 0, none⟩) 0 nw) rfl (by simp) (by kernel_rfl) rfl ?_; intro w9 B7 HBn K_w9 KO_w9; clear HB; have HB := HBn; clear HBn))
  have N7 := Aside0.mk (show g6 < g7 by have := B6.lt; have := K_gr.out.size; have := G_g7.out; omega)
  have k78 := below_step K_gr.out K_g7.out
  have n1 := N0.out
  have n2 := N7.out
  have RO' := row_other (row_below RO K_g7.out) B_g7 (by decide) K_w9
  have E1 := (E1'.below k78).other K_w9 (by omega)
  have B3 := (B3'.below k78).other K_w9 (by omega)
  have B4 := (B4'.below k78).other K_w9 (by omega)
  have B5 := (B5'.below k78).other K_w9 (by omega)
  have B6n := (B6.below k78).other K_w9 (by omega)
  have RM := Aside0.mk (row_other (row_below RM'.out k78) B_g7 (by decide) K_w9)
  have RI := Aside0.mk (row_other (row_below RI'.out k78) B_g7 (by decide) K_w9)
  have c10 := E1.cell (i := 0) rfl
  clear E1' B3' B4' B5' B6 RM' RI' c31 k78 n1 n2 K_gr K_g7 K_w9 B_g7 RO G_g7 GR KO7 KO_w8 KO_w9
  gi_wp2_with (first
   | (gi_at_call 52; refine (callsIn_of HF (block_Blocks.calls s 32 _)).mono ?_; rintro e w10 ⟨h1, h2, rfl, GE1, GE2, A_1, A_2, HB7⟩))
  obtain ⟨v1, hv1⟩ : ∃ v1, v1 = Value.slice A1 nw c1 := ⟨_, rfl⟩
  obtain ⟨v2, hv2⟩ : ∃ v2, v2 = Value.slice A2 nw c2 := ⟨_, rfl⟩
  obtain ⟨L, hL⟩ : ∃ L : List (Nat × Array Value × Nat), L = [(g1, #[.string s], 9), (g3, #[.int .i64 s.size, .slice A1 nw c1], 95), (g4, #[.int .i64 s.size, .slice A2 nw c2], 95), (g5, clsA sgx, 100), (g6, clsA blx, 100), (h1, #[.string s], 9), (h2, #[.int .u8 32], 5)] := ⟨_, rfl⟩
  have CL : Blks L w10 := ⟨by
   rw [hL]
   intro b m
   simp at m
   rcases m with rfl | rfl | rfl | rfl | rfl | rfl | rfl
   ·exact E1.below HB7.out
   ·exact B3.below HB7.out
   ·exact B4.below HB7.out
   ·exact B5.below HB7.out
   ·exact B6n.below HB7.out
   ·exact A_1
   ·exact A_2⟩
  have C7 := B7.below HB7.out
  have L7 := C7.lt
  have CO := row_below RO' HB7.out
  have CM := row_below RM.out HB7.out
  have CI := row_below RI.out HB7.out
  have LL : ∀ b ∈ L, b.1 < w10.heap.size := fun b m => (CL.out b m).lt
  have LT : ∀ b ∈ L, b.2.2 ≠ 81 := by
   rw [hL]
   intro b m
   simp at m
   rcases m with rfl | rfl | rfl | rfl | rfl | rfl | rfl <;> (dsimp only; decide)
  have LN : ∀ b ∈ L, b.1 ≠ g7 := by
   have := N0.out
   have := N7.out
   have := B7.lt
   rw [hL]
   intro b m
   simp at m
   rcases m with rfl | rfl | rfl | rfl | rfl | rfl | rfl <;> (dsimp only; omega)
  have M1 : (g1, #[.string s], 9) ∈ L := by rw [hL]; simp
  have M3 : (g3, #[.int .i64 s.size, .slice A1 nw c1], 95) ∈ L := by rw [hL]; simp
  have M4 : (g4, #[.int .i64 s.size, .slice A2 nw c2], 95) ∈ L := by rw [hL]; simp
  have M5 : (g5, clsA sgx, 100) ∈ L := by rw [hL]; simp
  have M6 : (g6, clsA blx, 100) ∈ L := by rw [hL]; simp
  have M7 : (h1, #[.string s], 9) ∈ L := by rw [hL]; simp
  have M8 : (h2, #[.int .u8 32], 5) ∈ L := by rw [hL]; simp
  have HBW := HB.step HB7.out
  have LH1 := A_1.lt
  have LH2 := A_2.lt
  have PL := Aside0.mk (And.intro LL (And.intro LT LN))
  have PM := Aside0.mk (And.intro M1 (And.intro M3 (And.intro M4 (And.intro M5 (And.intro M6 (And.intro M7 M8))))))
  clear E1 B3 B4 B5 B6n B7 RO' RM RI HB7 HB c10 hL LL LT LN M1 M3 M4 M5 M6 M7 M8 N0 N7 hv1 hv2 v1 v2
  refine wpIn_rangeFunc_ownH hro (by decide) (gf := 69) (lb := #[.pointer (some ⟨h1, 0, none⟩), .pointer (some ⟨h2, 0, none⟩)]) rfl f2 (enters_of Tryd.func69 (by kernel_rfl) rfl)
   (block_Blocks_1.stops F HF (9 - 1) (by decide) h1 h2 s 32 HS.out w10 A_1 A_2) Keep2.trans (fun W l o o' hl ho hc hw => Keep2.putObj LH1 LH2 W l o o' hl ho hc hw) (Below.refl _ _) (fun _ => rfl)
   (LookI s nw w L w10.heap.size g7 (.slice A1 nw c1) (.slice A2 nw c2)) (fun _ _ _ => False)
   (fun pre A B row hs hg hr => hs.kept HBW.le hg hr)
   (fun _ _ _ _ _ hs _ _ => hs)
   ⟨CL, CM, CI, ⟨_, C7, CO⟩, HBW, Nat.le_refl _⟩
   (fun x a' W => ∃ gb, w10.heap.size ≤ gb ∧ Blk W gb (blkA (cutF s (64 * ((x.val : Nat) : Int)) 32)) 106 ∧ a' = { tmps := #[.string s, .pointer (some ⟨g1, 0, none⟩), .slice none 0 0, .pointer (some ⟨g3, 0, none⟩), .pointer (some ⟨g4, 0, none⟩), .pointer (some ⟨g5, 0, none⟩), .pointer (some ⟨g6, 0, none⟩), .pointer (some ⟨g7, 0, none⟩), .int .i64 (64 * ((x.val : Nat) : Int)), .pointer (some ⟨gb, 0, none⟩), undef, undef, undef, undef, undef, undef, u16, u17, u18, u19, .tuple #[.agg (clsA sgx), .agg (clsA blx)], .tuple #[.agg (clsA sgx), .agg (clsA blx)], .agg (clsA sgx), .agg (clsA blx), .pointer (some ⟨g3, 1, none⟩), .slice A1 nw c1, .int .i64 (nw : Int), .slice (some ⟨gr, 0, none⟩) 0 nw, .string s, .func (.func 69) #[] #[.pointer (some ⟨h1, 0, none⟩), .pointer (some ⟨h2, 0, none⟩)], .int .i64 (64 * ((x.val : Nat) : Int)), .agg (blkA (cutF s (64 * ((x.val : Nat) : Int)) 32)), u32, u33, u34, u35, u36, u37, u38, u39, u40, u41, u42, u43, u44, u45, u46, u47, u48, u49, u50, u51, u52, u53, u54, u55, u56, u57, u58, u59, u60, u61, u62, u63, u64, u65, u66, u67, u68, u69, u70, u71, u72, u73, u74, u75, u76, u77, u78, u79, u80, u81, u82, u83, u84, u85], defers := [] })
   (fun x a' pre A B row hs hg hr => by
    obtain ⟨gb, h1, h2, h3⟩ := hs
    exact ⟨gb, h1, h2.kept hg (fun r e => (hr r e).2), h3⟩)
   ?assign ?body ?done ?stop
  case assign =>
   intro l pre x W K hI hK
   have HB := hI.hb
   have SZ := Aside0.mk hI.sz
   dsimp only [blkEnc]
   gi_wp2_with (first
    | ((with_reducible refine gate_dstIn (N := 9) rfl ?_); refine ev_allocIn HB rfl rfl (blkA fun _ => 0) 106 ?hr ?_; (case hr => (rw [← blkA_zero]; go_simp; rfl)); intro gb w15 G_gb GE_gb B_gb HBn K_gb KO_w15; clear HB; have HB := HBn; clear HBn)
    | ((with_reducible refine gate_In (Op.store 106 (.tmp 9) (.tmp 31)) rfl ?_); refine ev_storeIn HB B_gb GE_gb rfl 106 _ _ rfl rfl rfl (size64' _) (by rw [blkA_size, blkA_size]) (blkA_one _) ?_; intro w16 B16 HBn K_w16 KO_w16; clear HB; have HB := HBn; clear HBn))
   have hKO := KO_w15.out.trans KO_w16.out
   refine hK _ _ (hKO.from _) ?_ ?_ ⟨gb, Nat.le_trans SZ.out G_gb.out, B16, rfl⟩
   ·exact (Keep2.below K_gb.out (by have := SZ.out; omega) (by have := SZ.out; omega)).trans (Keep2.other K_w16 (by have := SZ.out; have := G_gb.out; omega) (by have := SZ.out; have := G_gb.out; omega))
   ·have N : ∀ g, g < w10.heap.size → g ≠ gb := fun g h => by have := SZ.out; have := G_gb.out; omega
    exact (hI.below K_gb.out).other B_gb (by decide) (by decide) (fun b m => N _ (PL.out.1 b m)) (N _ L7) HB K_w16
  case body =>
   rintro l pre x a' W hl ⟨r, hr⟩ hI ⟨gb, hgb, BX, rfl⟩ hlt
   clear hr
   have hxn : x.val < nw := by rw [HNW.out]; exact x.isLt
   have hx : 64 * x.val < s.size := by have := x.isLt; unfold nwords at this; omega
   obtain ⟨hrl1, (⟨_, hn0⟩ | ⟨gm, cap1, cur1, he, hbg1, BM, hnc1, hcm1, hcs1, HA1⟩)⟩ := row_open hI.r1
   ·omega
   injection he with he1 he2 he3
   subst he1
   subst he3
   clear he2
   obtain ⟨hrl2, (⟨_, hn0⟩ | ⟨gi, cap2, cur2, he, hbg2, BI, hnc2, hcm2, hcs2, HA2⟩)⟩ := row_open hI.r2
   ·omega
   injection he with he1 he2 he3
   subst he1
   subst he3
   clear he2
   have word_get : ∀ q : Nat → Bool, ((wordsOf s.size q).map (Value.int .u64))[x.val]? = some (.int .u64 (iv (wordAt s.size q x.val))) := fun q => by
    rw [List.getElem?_map, wordsOf, List.getElem?_map, List.getElem?_range x.isLt]
    rfl
   obtain ⟨MK, hMK⟩ : ∃ MK, MK = iv (wordAt s.size (mkq s) x.val) := ⟨_, rfl⟩
   obtain ⟨IN, hIN⟩ : ∃ IN, IN = iv (wordAt s.size (insS s) x.val) := ⟨_, rfl⟩
   obtain ⟨O, hO⟩ : ∃ O, O = iv (wordAt s.size (outq s) x.val) := ⟨_, rfl⟩
   obtain ⟨SG, hSG⟩ : ∃ SG, SG = iv (word fun j => sgx (cutF s (64 * ((x.val : Nat) : Int)) 32 j).toNat) := ⟨_, rfl⟩
   obtain ⟨BL, hBL⟩ : ∃ BL, BL = iv (word fun j => blx (cutF s (64 * ((x.val : Nat) : Int)) 32 j).toNat) := ⟨_, rfl⟩
   obtain ⟨SW, hSW⟩ : ∃ SW, SW = iv (wordAt s.size (sgq s) x.val) := ⟨_, rfl⟩
   obtain ⟨BW, hBW⟩ : ∃ BW, BW = iv (wordAt s.size (blq s) x.val) := ⟨_, rfl⟩
   obtain ⟨PW, hPW⟩ : ∃ PW, PW = iv (wordAt s.size (opq s) x.val) := ⟨_, rfl⟩
   obtain ⟨O2, hO2⟩ : ∃ O2, O2 = iv (wordAt s.size (fun i => outq s i && !sgq s i) x.val) := ⟨_, rfl⟩
   obtain ⟨WW, hWW⟩ : ∃ WW, WW = iv (wordAt s.size (wdq s) x.val) := ⟨_, rfl⟩
   have HGM := Aside0.mk (HA1.get (hMK ▸ word_get (mkq s)))
   have HGI := Aside0.mk (HA2.get (hIN ▸ word_get (insS s)))
   have OFF : Aside0 (64 * x.val + 64 ≤ s.size → bits .xor .u64 (if IntKind.u64.signed = true then -1 else IntKind.u64.max) (bits .or .u64 MK IN) = O) := ⟨fun h => by rw [show (if IntKind.u64.signed = true then -1 else IntKind.u64.max) = 18446744073709551615 from rfl, hMK, hIN, hO]; exact out_full s x.val h⟩
   have OFP : Aside0 (s.size < 64 * x.val + 64 → bits .and .u64 (bits .xor .u64 (if IntKind.u64.signed = true then -1 else IntKind.u64.max) (bits .or .u64 MK IN)) (IntKind.u64.wrap (IntKind.u64.wrap (2 ^ (s.size - 64 * x.val)) - 1)) = O) := ⟨fun h => by rw [show (if IntKind.u64.signed = true then -1 else IntKind.u64.max) = 18446744073709551615 from rfl, hMK, hIN, hO]; exact out_part s x.val hx h⟩
   have Q1 : Aside0 (bits .and .u64 SG O = SW) := ⟨by rw [hSG, hO, hSW]; exact class_out s x.val sgx⟩
   have Q2 : Aside0 (bits .and .u64 BL O = BW) := ⟨by rw [hBL, hO, hBW]; exact class_out s x.val blx⟩
   have Q3 : Aside0 (bits .and .u64 MK IN = PW) := ⟨by rw [hMK, hIN, hPW]; exact opens_out s x.val⟩
   have Q4 : Aside0 (bits .andNot .u64 O SW = O2) := ⟨by rw [hO, hSW, hO2]; exact word_minus s.size (outq s) (sgq s) x.val⟩
   have Q5 : Aside0 (bits .andNot .u64 O2 BW = WW) := ⟨by rw [hO2, hBW, hWW]; exact word_minus s.size _ (blq s) x.val⟩
   have MSK : Aside0 (∀ (p : Nat → Bool) (w : World), Calls Tryd.prog 53 #[.agg (blkA (cutF s (64 * ((x.val : Nat) : Int)) 32)), .agg (clsA p)] w fun e w' => e = .returned (.int .u64 (iv (word fun j => p (cutF s (64 * ((x.val : Nat) : Int)) 32 j).toNat))) ∧ Below w.heap.size w w') := ⟨fun p w => block_Mask.calls _ (fun i => cutF_range s _ 32 (by decide) i) p w⟩
   have MS1 : Aside0 (∀ w, Calls Tryd.prog 53 #[.agg (blkA (cutF s (64 * ((x.val : Nat) : Int)) 32)), .agg (clsA sgx)] w fun e w' => e = .returned (.int .u64 SG) ∧ Below w.heap.size w w') := ⟨fun w => by rw [hSG]; exact MSK.out sgx w⟩
   have MS2 : Aside0 (∀ w, Calls Tryd.prog 53 #[.agg (blkA (cutF s (64 * ((x.val : Nat) : Int)) 32)), .agg (clsA blx)] w fun e w' => e = .returned (.int .u64 BL) ∧ Below w.heap.size w w') := ⟨fun w => by rw [hBL]; exact MSK.out blx w⟩
   have ROW : Aside0 (rowN s x.val = [.int .u64 SW, .int .u64 BW, .int .u64 PW, .int .u64 WW]) := ⟨by rw [hSW, hBW, hPW, hWW]; rfl⟩
   have HX := Aside0.mk hx
   have HL : Aside0 ((pre.length + 1) * 32 ≤ 140737488355328) := ⟨by have h0 : pre.length < nwords s.size := hlt; have h1 : nwords s.size = (s.size + 63) / 64 := rfl; have := HS.out; omega⟩
   have hq1 : 64 * ((x.val : Nat) : Int) / 64 = ((x.val : Nat) : Int) := by omega
   have hq2 : Int.tdiv (64 * ((x.val : Nat) : Int)) 64 = ((x.val : Nat) : Int) := by rw [Int.tdiv_eq_ediv_of_nonneg (by omega)]; omega
   have hq3 : (0 : Int) ≤ ((x.val : Nat) : Int) := by omega
   have hq4 : ((x.val : Nat) : Int) < (nw : Int) := by omega
   have hq5 : ((x.val : Nat) : Int) ≤ 4398046511104 := by omega
   have hq6 : IntKind.i64.wrap ((x.val : Nat) : Int) = ((x.val : Nat) : Int) := by rw [i64_w]; unfold wrap64; omega
   have hbd : Aside0 (Below W.heap.size W W.drew) := ⟨below_drew (Below.refl _ _)⟩
   have HI := Aside0.mk hI
   obtain ⟨v, b7, ho⟩ := hI.out
   have VB : Aside0 (∀ k, v.ownBlock = some k → k < W.heap.size) := ⟨fun k ek => (ho.lt k ek).2⟩
   have E := hI.bs.below hbd.out
   have R1 := Aside0.mk (row_below hI.r1 hbd.out)
   have R2 := Aside0.mk (row_below hI.r2 hbd.out)
   have B7 := b7.below hbd.out
   have RO := Aside0.mk (row_below ho hbd.out)
   have HB := hI.hb.step hbd.out
   clear b7 ho
   have BX' := BX.below hbd.out
   have BM' := BM.below hbd.out
   have BI' := BI.below hbd.out
   have KO' := Aside0.mk (keepsOthers_below hbd.out)
   have HZ' := Aside0.mk hbd.out.size
   clear hMK hIN hO hSG hBL hSW hBW hPW hO2 hWW MSK word_get hrl1 hbg1 BM hnc1 hcm1 hcs1 HA1 hrl2 hbg2 BI hnc2 hcm2 hcs2 HA2 BX hI hlt hxn hx
   gi_upto_region 8 with (fail)
   refine wpIn_region_last_drew HF (S := fun W' => Blk W' g3 #[.int .i64 s.size, .slice (some ⟨gm, 0, none⟩) nw c1] 95 ∧ Blk W' g4 #[.int .i64 s.size, .slice (some ⟨gi, 0, none⟩) nw c2] 95 ∧ Blk W' gm cur1 79 ∧ Blk W' gi cur2 79) (ds := []) (by kernel_rfl) (by kernel_rfl) ⟨E.out _ PM.out.2.1, E.out _ PM.out.2.2.1, BM', BI'⟩ (fun hS => ?_)
   refine' wpAnyLast_take (i := 0) (oi := Oper.mk _ _ _ _ _ _) rfl (by kernel_rfl) (by kernel_rfl) (by kernel_rfl) (by kernel_rfl) (by kernel_rfl) (fun _ _ _ h => h) (Or.inl ⟨by rfl, ?hy27⟩) hS ?rest27
   case hy27 => (intro w hSw; (try dsimp only at hSw); first | (go_simp; done) | (go_simp; with_reducible rfl))
   try simp only [Act.put, List.setIfInBounds_toArray, List.set_cons_zero, List.set_cons_succ]
   refine wpAnyLast_take (i := 1) (oi := Oper.mk _ _ _ _ _ _) rfl (by kernel_rfl) (by kernel_rfl) (by kernel_rfl) (by kernel_rfl) (by kernel_rfl) (fun _ _ _ h => h) (rg_load1 (by rfl) (fun _ hS => hS.1.cell (i := 1) rfl) 93 _ rfl rfl (fun _ => by simp [isAgg, run_underlying Tryd.underlying93])) hS ?_
   try simp only [Act.put, List.setIfInBounds_toArray, List.set_cons_zero, List.set_cons_succ]
   refine' wpAnyLast_take (i := 2) (oi := Oper.mk _ _ _ _ _ _) rfl (by kernel_rfl) (by kernel_rfl) (by kernel_rfl) (by kernel_rfl) (by kernel_rfl) (fun _ _ _ h => h) (Or.inl ⟨by rfl, ?hy28⟩) hS ?rest28
   case hy28 => (intro w hSw; (try dsimp only at hSw); first | (go_simp; done) | (go_simp; with_reducible rfl))
   try simp only [Act.put, List.setIfInBounds_toArray, List.set_cons_zero, List.set_cons_succ]
   refine' wpAnyLast_take (i := 3) (oi := Oper.mk _ _ _ _ _ _) rfl (by kernel_rfl) (by kernel_rfl) (by kernel_rfl) (by kernel_rfl) (by kernel_rfl) (fun _ _ _ h => h) (Or.inl ⟨by rfl, ?hy29⟩) hS ?rest29
   case hy29 => (intro w hSw; (try dsimp only at hSw); first | (go_simp; done) | (go_simp; with_reducible rfl))
   try simp only [Act.put, List.setIfInBounds_toArray, List.set_cons_zero, List.set_cons_succ]
   refine wpAnyLast_take (i := 4) (oi := Oper.mk _ _ _ _ _ _) rfl (by kernel_rfl) (by kernel_rfl) (by kernel_rfl) (by kernel_rfl) (by kernel_rfl) (fun _ _ _ h => h) (rg_load1 (by rfl) (fun _ hS => hS.2.2.1.cell HGM.out) 79 _ rfl rfl (fun _ => by simp [isAgg, run_underlying Tryd.underlying79])) hS ?_
   try simp only [Act.put, List.setIfInBounds_toArray, List.set_cons_zero, List.set_cons_succ]
   refine' wpAnyLast_take (i := 5) (oi := Oper.mk _ _ _ _ _ _) rfl (by kernel_rfl) (by kernel_rfl) (by kernel_rfl) (by kernel_rfl) (by kernel_rfl) (fun _ _ _ h => h) (Or.inl ⟨by rfl, ?hy30⟩) hS ?rest30
   case hy30 => (intro w hSw; (try dsimp only at hSw); first | (go_simp; done) | (go_simp; with_reducible rfl))
   try simp only [Act.put, List.setIfInBounds_toArray, List.set_cons_zero, List.set_cons_succ]
   refine wpAnyLast_take (i := 6) (oi := Oper.mk _ _ _ _ _ _) rfl (by kernel_rfl) (by kernel_rfl) (by kernel_rfl) (by kernel_rfl) (by kernel_rfl) (fun _ _ _ h => h) (rg_load1 (by rfl) (fun _ hS => hS.2.1.cell (i := 1) rfl) 93 _ rfl rfl (fun _ => by simp [isAgg, run_underlying Tryd.underlying93])) hS ?_
   try simp only [Act.put, List.setIfInBounds_toArray, List.set_cons_zero, List.set_cons_succ]
   refine' wpAnyLast_take (i := 7) (oi := Oper.mk _ _ _ _ _ _) rfl (by kernel_rfl) (by kernel_rfl) (by kernel_rfl) (by kernel_rfl) (by kernel_rfl) (fun _ _ _ h => h) (Or.inl ⟨by rfl, ?hy31⟩) hS ?rest31
   case hy31 => (intro w hSw; (try dsimp only at hSw); first | (go_simp; done) | (go_simp; with_reducible rfl))
   try simp only [Act.put, List.setIfInBounds_toArray, List.set_cons_zero, List.set_cons_succ]
   refine' wpAnyLast_take (i := 8) (oi := Oper.mk _ _ _ _ _ _) rfl (by kernel_rfl) (by kernel_rfl) (by kernel_rfl) (by kernel_rfl) (by kernel_rfl) (fun _ _ _ h => h) (Or.inl ⟨by rfl, ?hy32⟩) hS ?rest32
   case hy32 => (intro w hSw; (try dsimp only at hSw); first | (go_simp; done) | (go_simp; with_reducible rfl))
   try simp only [Act.put, List.setIfInBounds_toArray, List.set_cons_zero, List.set_cons_succ]
   refine wpAnyLast_take (i := 9) (oi := Oper.mk _ _ _ _ _ _) rfl (by kernel_rfl) (by kernel_rfl) (by kernel_rfl) (by kernel_rfl) (by kernel_rfl) (fun _ _ _ h => h) (rg_load1 (by rfl) (fun _ hS => hS.2.2.2.cell HGI.out) 79 _ rfl rfl (fun _ => by simp [isAgg, run_underlying Tryd.underlying79])) hS ?_
   try simp only [Act.put, List.setIfInBounds_toArray, List.set_cons_zero, List.set_cons_succ]
   refine' wpAnyLast_take (i := 10) (oi := Oper.mk _ _ _ _ _ _) rfl (by kernel_rfl) (by kernel_rfl) (by kernel_rfl) (by kernel_rfl) (by kernel_rfl) (fun _ _ _ h => h) (Or.inl ⟨by rfl, ?hy33⟩) hS ?rest33
   case hy33 => (intro w hSw; (try dsimp only at hSw); first | (go_simp; done) | (go_simp; with_reducible rfl))
   try simp only [Act.put, List.setIfInBounds_toArray, List.set_cons_zero, List.set_cons_succ]
   refine' wpAnyLast_take (i := 11) (oi := Oper.mk _ _ _ _ _ _) rfl (by kernel_rfl) (by kernel_rfl) (by kernel_rfl) (by kernel_rfl) (by kernel_rfl) (fun _ _ _ h => h) (Or.inl ⟨by rfl, ?hy34⟩) hS ?rest34
   case hy34 => (intro w hSw; (try dsimp only at hSw); first | (go_simp; done) | (go_simp; with_reducible rfl))
   try simp only [Act.put, List.setIfInBounds_toArray, List.set_cons_zero, List.set_cons_succ]
   refine wpAnyLast_done (by kernel_rfl) ?_ _
   refine Straight.normal ?_
   have c1s := (E.out _ PM.out.1).cell (i := 0) rfl
   have hs1 : (s.size : Int) ≤ 281474976702464 := by have := HS.out; omega
   have hx1 : 64 * ((x.val : Nat) : Int) < s.size := by have := HX.out; omega
   clear BM' BI' hS hq1 hq2 hq4 hq6
   by_cases hfull : (s.size : Int) - 64 * ((x.val : Nat) : Int) < 64
   ·gi_upto_region 13 with (fail)
    rw [OFP.out (by omega)]
    have q1 := Q1.out
    have q2 := Q2.out
    have q3 := Q3.out
    have hbd2 : Aside0 (Below W.drew.heap.size W.drew W.drew.drew) := ⟨below_drew (Below.refl _ _)⟩
    have hb := hbd2
    replace E := E.below hb.out
    replace R1 := Aside0.mk (row_below R1.out hb.out)
    replace R2 := Aside0.mk (row_below R2.out hb.out)
    replace B7 := B7.below hb.out
    replace RO := Aside0.mk (row_below RO.out hb.out)
    replace HB := HB.step hb.out
    replace BX' := BX'.below hb.out
    replace KO' := Aside0.mk (KO'.out.trans (keepsOthers_below hb.out))
    replace HZ' := Aside0.mk (Nat.le_trans HZ'.out hb.out.size)
    clear hb c1s hbd2 hfull
    refine wpIn_region_last_drew HF (S := fun W' => Blk W' gb (blkA (cutF s (64 * ((x.val : Nat) : Int)) 32)) 106 ∧ Blk W' g5 (clsA sgx) 100 ∧ Blk W' g6 (clsA blx) 100) (ds := [15]) (by kernel_rfl) (by kernel_rfl) ⟨BX', E.out _ PM.out.2.2.2.1, E.out _ PM.out.2.2.2.2.1⟩ (fun hS => ?_)
    refine wpAnyLast_take (i := 0) (oi := Oper.mk _ _ _ _ _ _) rfl (by kernel_rfl) (by kernel_rfl) (by kernel_rfl) (by kernel_rfl) (by kernel_rfl) (fun _ _ _ h => h) (rg_load (by rfl) (fun _ hS => hS.1) 106 _ rfl rfl Tryd.underlying106 rfl (size64' _)) hS ?_
    try simp only [Act.put, List.setIfInBounds_toArray, List.set_cons_zero, List.set_cons_succ]
    refine wpAnyLast_take (i := 1) (oi := Oper.mk _ _ _ _ _ _) rfl (by kernel_rfl) (by kernel_rfl) (by kernel_rfl) (by kernel_rfl) (by kernel_rfl) (fun _ _ _ h => h) (rg_load (by rfl) (fun _ hS => hS.2.1) 100 _ rfl rfl Tryd.underlying100 rfl (sizeC' _)) hS ?_
    try simp only [Act.put, List.setIfInBounds_toArray, List.set_cons_zero, List.set_cons_succ]
    refine' wpAnyLast_take (i := 3) (oi := Oper.mk _ _ _ _ _ _) rfl (by kernel_rfl) (by kernel_rfl) (by kernel_rfl) (by kernel_rfl) (by kernel_rfl) (fun _ _ _ h => h) (Or.inl ⟨by rfl, ?hy1⟩) hS ?rest1
    case hy1 => (intro w hSw; (try dsimp only at hSw); first | (go_simp; done) | (go_simp; with_reducible rfl))
    try simp only [Act.put, List.setIfInBounds_toArray, List.set_cons_zero, List.set_cons_succ]
    refine wpAnyLast_take (i := 5) (oi := Oper.mk _ _ _ _ _ _) rfl (by kernel_rfl) (by kernel_rfl) (by kernel_rfl) (by kernel_rfl) (by kernel_rfl) (fun _ _ _ h => h) (rg_load (by rfl) (fun _ hS => hS.1) 106 _ rfl rfl Tryd.underlying106 rfl (size64' _)) hS ?_
    try simp only [Act.put, List.setIfInBounds_toArray, List.set_cons_zero, List.set_cons_succ]
    refine wpAnyLast_take (i := 6) (oi := Oper.mk _ _ _ _ _ _) rfl (by kernel_rfl) (by kernel_rfl) (by kernel_rfl) (by kernel_rfl) (by kernel_rfl) (fun _ _ _ h => h) (rg_load (by rfl) (fun _ hS => hS.2.2) 100 _ rfl rfl Tryd.underlying100 rfl (sizeC' _)) hS ?_
    try simp only [Act.put, List.setIfInBounds_toArray, List.set_cons_zero, List.set_cons_succ]
    refine' wpAnyLast_take (i := 8) (oi := Oper.mk _ _ _ _ _ _) rfl (by kernel_rfl) (by kernel_rfl) (by kernel_rfl) (by kernel_rfl) (by kernel_rfl) (fun _ _ _ h => h) (Or.inl ⟨by rfl, ?hy2⟩) hS ?rest2
    case hy2 => (intro w hSw; (try dsimp only at hSw); first | (go_simp; done) | (go_simp; with_reducible rfl))
    try simp only [Act.put, List.setIfInBounds_toArray, List.set_cons_zero, List.set_cons_succ]
    refine' wpAnyLast_take (i := 10) (oi := Oper.mk _ _ _ _ _ _) rfl (by kernel_rfl) (by kernel_rfl) (by kernel_rfl) (by kernel_rfl) (by kernel_rfl) (fun _ _ _ h => h) (Or.inl ⟨by rfl, ?hy3⟩) hS ?rest3
    case hy3 => (intro w hSw; (try dsimp only at hSw); first | (go_simp; done) | (go_simp; with_reducible rfl))
    try simp only [Act.put, List.setIfInBounds_toArray, List.set_cons_zero, List.set_cons_succ]
    refine' wpAnyLast_take (i := 11) (oi := Oper.mk _ _ _ _ _ _) rfl (by kernel_rfl) (by kernel_rfl) (by kernel_rfl) (by kernel_rfl) (by kernel_rfl) (fun _ _ _ h => h) (Or.inl ⟨by rfl, ?hy4⟩) hS ?rest4
    case hy4 => (intro w hSw; (try dsimp only at hSw); first | (go_simp; done) | (go_simp; with_reducible rfl))
    try simp only [Act.put, List.setIfInBounds_toArray, List.set_cons_zero, List.set_cons_succ]
    refine' wpAnyLast_take (i := 12) (oi := Oper.mk _ _ _ _ _ _) rfl (by kernel_rfl) (by kernel_rfl) (by kernel_rfl) (by kernel_rfl) (by kernel_rfl) (fun _ _ _ h => h) (Or.inl ⟨by rfl, ?hy5⟩) hS ?rest5
    case hy5 => (intro w hSw; (try dsimp only at hSw); first | (go_simp; done) | (go_simp; with_reducible rfl))
    try simp only [Act.put, List.setIfInBounds_toArray, List.set_cons_zero, List.set_cons_succ]
    refine wpAnyLast_ready (rs := [2, 14]) (by kernel_rfl) (by simp) ?_
    refine AllReadyL.cons (o := Oper.mk _ _ _ _ _ _) rfl (by decide) (fun K hK => ?_) ?_
    ·refine rg_call (by rfl) _ _ (.int .u64 SG) (by first | (go_simp; done) | (go_simp; rfl)) (MS1.out _) ?_
     intro W' hb
     replace E := E.below hb.out
     replace R1 := Aside0.mk (row_below R1.out hb.out)
     replace R2 := Aside0.mk (row_below R2.out hb.out)
     replace B7 := B7.below hb.out
     replace RO := Aside0.mk (row_below RO.out hb.out)
     replace HB := HB.step hb.out
     replace BX' := BX'.below hb.out
     replace KO' := Aside0.mk (KO'.out.trans (keepsOthers_below hb.out))
     replace HZ' := Aside0.mk (Nat.le_trans HZ'.out hb.out.size)
     refine hK.out _ _ ⟨BX', E.out _ PM.out.2.2.2.1, E.out _ PM.out.2.2.2.2.1⟩ (fun hS => ?_)
     clear hK K hb
     try simp only [Act.put, List.setIfInBounds_toArray, List.set_cons_zero, List.set_cons_succ]
     refine' wpAnyLast_take (i := 4) (oi := Oper.mk _ _ _ _ _ _) rfl (by kernel_rfl) (by kernel_rfl) (by kernel_rfl) (by kernel_rfl) (by kernel_rfl) (fun _ _ _ h => h) (Or.inl ⟨by rfl, ?hy6⟩) hS ?rest6
     case hy6 => (intro w hSw; (try dsimp only at hSw); first | (go_simp; done) | (go_simp; with_reducible rfl))
     try simp only [Act.put, List.setIfInBounds_toArray, List.set_cons_zero, List.set_cons_succ]
     refine wpAnyLast_ready (rs := [7, 14]) (by kernel_rfl) (by simp) ?_
     refine AllReadyL.cons (o := Oper.mk _ _ _ _ _ _) rfl (by decide) (fun K hK => ?_) ?_
     ·refine rg_call (by rfl) _ _ (.int .u64 BL) (by first | (go_simp; done) | (go_simp; rfl)) (MS2.out _) ?_
      intro W' hb
      replace E := E.below hb.out
      replace R1 := Aside0.mk (row_below R1.out hb.out)
      replace R2 := Aside0.mk (row_below R2.out hb.out)
      replace B7 := B7.below hb.out
      replace RO := Aside0.mk (row_below RO.out hb.out)
      replace HB := HB.step hb.out
      replace BX' := BX'.below hb.out
      replace KO' := Aside0.mk (KO'.out.trans (keepsOthers_below hb.out))
      replace HZ' := Aside0.mk (Nat.le_trans HZ'.out hb.out.size)
      refine hK.out _ _ ⟨BX', E.out _ PM.out.2.2.2.1, E.out _ PM.out.2.2.2.2.1⟩ (fun hS => ?_)
      clear hK K hb
      try simp only [Act.put, List.setIfInBounds_toArray, List.set_cons_zero, List.set_cons_succ]
      refine' wpAnyLast_take (i := 9) (oi := Oper.mk _ _ _ _ _ _) rfl (by kernel_rfl) (by kernel_rfl) (by kernel_rfl) (by kernel_rfl) (by kernel_rfl) (fun _ _ _ h => h) (Or.inl ⟨by rfl, ?hy7⟩) hS ?rest7
      case hy7 => (intro w hSw; (try dsimp only at hSw); first | (go_simp; done) | (go_simp; with_reducible rfl))
      try simp only [Act.put, List.setIfInBounds_toArray, List.set_cons_zero, List.set_cons_succ]
      refine' wpAnyLast_take (i := 13) (oi := Oper.mk _ _ _ _ _ _) rfl (by kernel_rfl) (by kernel_rfl) (by kernel_rfl) (by kernel_rfl) (by kernel_rfl) (fun _ _ _ h => h) (Or.inl ⟨by rfl, ?hy8⟩) hS ?rest8
      case hy8 => (intro w hSw; (try dsimp only at hSw); first | (go_simp; done) | (go_simp; with_reducible rfl))
      try simp only [Act.put, List.setIfInBounds_toArray, List.set_cons_zero, List.set_cons_succ]
      refine wpAnyLast_ready (rs := [14]) (by kernel_rfl) (by simp) ?_
      refine AllReadyL.cons (o := Oper.mk _ _ _ _ _ _) rfl (by decide) (fun K hK => ?_) ?_
      ·refine rg_alloc HB (by rfl) (#[.int .u64 0, .int .u64 0, .int .u64 0, .int .u64 0]) 81 (by first | (go_simp; done) | (go_simp; rfl)) ?_
       intro g15 W' G15 GE15 B15 HBn hb
       have N15 := Aside0.mk (show w10.heap.size ≤ g15 ∧ gb < g15 ∧ W.heap.size ≤ g15 by have := HI.out.sz; have := HZ'.out; have := BX'.lt; have := G15.out; omega)
       clear HBn G15
       replace E := E.below hb.out
       replace R1 := Aside0.mk (row_below R1.out hb.out)
       replace R2 := Aside0.mk (row_below R2.out hb.out)
       replace B7 := B7.below hb.out
       replace RO := Aside0.mk (row_below RO.out hb.out)
       replace HB := HB.step hb.out
       replace BX' := BX'.below hb.out
       replace KO' := Aside0.mk (KO'.out.trans (keepsOthers_below hb.out))
       replace HZ' := Aside0.mk (Nat.le_trans HZ'.out hb.out.size)
       refine hK.out _ _ ⟨BX', E.out _ PM.out.2.2.2.1, E.out _ PM.out.2.2.2.2.1⟩ (fun hS => ?_)
       clear hK K hb
       try simp only [Act.put, List.setIfInBounds_toArray, List.set_cons_zero, List.set_cons_succ]
       refine wpAnyLast_ready (rs := [15]) (by kernel_rfl) (by simp) ?_
       refine AllReadyL.cons_last (o := Oper.mk _ _ _ _ _ _) rfl (by decide) (fun K hK => ?_) ?_
       ·refine rg_store HB (by rfl) B15 GE15 81 _ _ rfl rfl rfl (by kernel_rfl) rfl (by simp [Value.oneCell']) ?_
        intro w16 B16 HB16 K16
        replace E := E.other K16 (fun b m => by have := PL.out.1 b m; have := N15.out; omega)
        replace R1 := Aside0.mk (row_other R1.out B15 (by decide) K16)
        replace R2 := Aside0.mk (row_other R2.out B15 (by decide) K16)
        replace B7 := B7.other K16 (by have := L7; have := N15.out; omega)
        replace RO := Aside0.mk (own_move RO.out (fun k ek => K16.out.2 k (by have := VB.out k ek; have := N15.out; omega)))
        replace HB := HB16
        replace BX' := BX'.other K16 (by have := N15.out; omega)
        replace KO' := Aside0.mk (KO'.out.trans (keepsOthers_other B15 K16))
        replace HZ' := Aside0.mk (Nat.le_trans HZ'.out K16.out.1)
        refine hK.out _ _ ?_
        clear hK K HB16 K16 B15
        try simp only [Act.put, List.setIfInBounds_toArray, List.set_cons_zero, List.set_cons_succ]
        refine wpAnyLast_done (by kernel_rfl) ?_ _
        refine Straight.normal ?_
        have hq4' := Q4.out
        have hq5' := Q5.out
        have d0 := B16.cell (i := 0) rfl
        have d1 := B16.cell (i := 1) rfl
        gi_upto_region 15 with (first
         | ((with_reducible refine gate_In (Op.store 79 (.tmp 80) (.tmp 79)) rfl ?_); refine ev_store1In (i := 3) HB B16 GE15 rfl 79 _ _ rfl rfl (.int .u64 WW) rfl (by simp) (by kernel_rfl) rfl ?_; intro w17 B17 HB17 K17 KO17))
        clear d0 d1 hq4' hq5'
        replace E := E.other K17 (fun b m => by have := PL.out.1 b m; have := N15.out; omega)
        replace R1 := Aside0.mk (row_other R1.out B16 (by decide) K17)
        replace R2 := Aside0.mk (row_other R2.out B16 (by decide) K17)
        replace B7 := B7.other K17 (by have := L7; have := N15.out; omega)
        replace RO := Aside0.mk (own_move RO.out (fun k ek => K17.out.2 k (by have := VB.out k ek; have := N15.out; omega)))
        replace HB := HB17
        have c7 := B7.cell (i := 0) rfl
        gi_wp2_with (first
         | ((with_reducible refine gate_dstIn (N := 82) rfl ?_); refine ev_loadSIn B17 rfl 81 _ rfl rfl Tryd.underlying81 rfl (by kernel_rfl) ?_)
         | ((with_reducible refine gate_dstIn (N := 83) rfl ?_); refine ev_litNIn HB rfl rfl #[.int .u64 SW, .int .u64 BW, .int .u64 PW, .int .u64 WW] 81 ?hr ?_; (case hr => first | (go_simp; done) | (go_simp; rfl)); intro gl w18 G_gl B_gl HB18 K_gl KO18; have ho18 := row_below RO.out K_gl.out; have b718 := B7.below K_gl.out)
         | ((with_reducible refine gate_dstIn (N := 84) rfl ?_); refine ev_appendNIn HB18 rfl _ _ 77 81 (.agg #[.int .u64 0, .int .u64 0, .int .u64 0, .int .u64 0]) 4 32 rfl Tryd.underlying77 (by kernel_rfl) rfl (by decide) (by decide) v pre.length _ rfl ho18 gl [.int .u64 SW, .int .u64 BW, .int .u64 PW, .int .u64 WW] rfl B_gl rfl (by intro u hu; simp at hu; rcases hu with rfl | rfl | rfl | rfl <;> rfl) HL.out ?_; intro v8 w19 ho19 HB19 K19 KO19 FV; obtain ⟨g', cap', rfl⟩ := FV.out; have b719 := b718.appendedN (by decide) ho18 K19)
         | ((with_reducible refine gate_In (Op.store 77 (.tmp 7) (.tmp 84)) rfl ?_); refine ev_store1In (i := 0) HB19 b719 GE_g7 rfl 77 _ _ rfl rfl _ rfl (by simp) (by kernel_rfl) rfl ?_; intro w20 B20 HB20 K20 KO20))
        have E20 := ((E.below K_gl.out).appendedN PL.out.2.1 ho18 K19).other K20 PL.out.2.2
        have R120 := row_other (row_appended (row_below R1.out K_gl.out) (by decide) ho18 K19) b719 (by decide) K20
        have R220 := row_other (row_appended (row_below R2.out K_gl.out) (by decide) ho18 K19) b719 (by decide) K20
        have O20 := row_other ho19 b719 (by decide) K20
        have hszF : W.heap.size ≤ w20.heap.size := Nat.le_trans HZ'.out (Nat.le_trans K17.out.1 (Nat.le_trans K_gl.out.size (Nat.le_trans K19.out.1 K20.out.1)))
        refine ⟨(((((KO'.out.trans KO17.out).trans KO18.out).trans KO19.out).trans KO20.out)).from _, Keep2.of_blk (HI.out.bs.out _ PM.out.2.2.2.2.2.1) (HI.out.bs.out _ PM.out.2.2.2.2.2.2) (E20.out _ PM.out.2.2.2.2.2.1) (E20.out _ PM.out.2.2.2.2.2.2) hszF, E20, R120, R220, ⟨_, B20, ?_⟩, HB20, Nat.le_trans HI.out.sz hszF⟩
        rw [flatR_snoc, ROW.out, List.length_append]
        exact O20
       exact AllReadyL.nil
      exact AllReadyL.nil
     refine AllReadyL.cons (o := Oper.mk _ _ _ _ _ _) rfl (by decide) (fun K hK => ?_) ?_
     ·refine rg_alloc HB (by rfl) (#[.int .u64 0, .int .u64 0, .int .u64 0, .int .u64 0]) 81 (by first | (go_simp; done) | (go_simp; rfl)) ?_
      intro g15 W' G15 GE15 B15 HBn hb
      have N15 := Aside0.mk (show w10.heap.size ≤ g15 ∧ gb < g15 ∧ W.heap.size ≤ g15 by have := HI.out.sz; have := HZ'.out; have := BX'.lt; have := G15.out; omega)
      clear HBn G15
      replace E := E.below hb.out
      replace R1 := Aside0.mk (row_below R1.out hb.out)
      replace R2 := Aside0.mk (row_below R2.out hb.out)
      replace B7 := B7.below hb.out
      replace RO := Aside0.mk (row_below RO.out hb.out)
      replace HB := HB.step hb.out
      replace BX' := BX'.below hb.out
      replace KO' := Aside0.mk (KO'.out.trans (keepsOthers_below hb.out))
      replace HZ' := Aside0.mk (Nat.le_trans HZ'.out hb.out.size)
      refine hK.out _ _ ⟨BX', E.out _ PM.out.2.2.2.1, E.out _ PM.out.2.2.2.2.1⟩ (fun hS => ?_)
      clear hK K hb
      try simp only [Act.put, List.setIfInBounds_toArray, List.set_cons_zero, List.set_cons_succ]
      refine wpAnyLast_ready (rs := [7]) (by kernel_rfl) (by simp) ?_
      refine AllReadyL.cons (o := Oper.mk _ _ _ _ _ _) rfl (by decide) (fun K hK => ?_) ?_
      ·refine rg_call (by rfl) _ _ (.int .u64 BL) (by first | (go_simp; done) | (go_simp; rfl)) (MS2.out _) ?_
       intro W' hb
       replace E := E.below hb.out
       replace R1 := Aside0.mk (row_below R1.out hb.out)
       replace R2 := Aside0.mk (row_below R2.out hb.out)
       replace B7 := B7.below hb.out
       replace RO := Aside0.mk (row_below RO.out hb.out)
       replace HB := HB.step hb.out
       replace BX' := BX'.below hb.out
       replace KO' := Aside0.mk (KO'.out.trans (keepsOthers_below hb.out))
       replace HZ' := Aside0.mk (Nat.le_trans HZ'.out hb.out.size)
       replace B15 := B15.below hb.out
       refine hK.out _ _ ⟨BX', E.out _ PM.out.2.2.2.1, E.out _ PM.out.2.2.2.2.1⟩ (fun hS => ?_)
       clear hK K hb
       try simp only [Act.put, List.setIfInBounds_toArray, List.set_cons_zero, List.set_cons_succ]
       refine' wpAnyLast_take (i := 9) (oi := Oper.mk _ _ _ _ _ _) rfl (by kernel_rfl) (by kernel_rfl) (by kernel_rfl) (by kernel_rfl) (by kernel_rfl) (fun _ _ _ h => h) (Or.inl ⟨by rfl, ?hy9⟩) hS ?rest9
       case hy9 => (intro w hSw; (try dsimp only at hSw); first | (go_simp; done) | (go_simp; with_reducible rfl))
       try simp only [Act.put, List.setIfInBounds_toArray, List.set_cons_zero, List.set_cons_succ]
       refine' wpAnyLast_take (i := 13) (oi := Oper.mk _ _ _ _ _ _) rfl (by kernel_rfl) (by kernel_rfl) (by kernel_rfl) (by kernel_rfl) (by kernel_rfl) (fun _ _ _ h => h) (Or.inl ⟨by rfl, ?hy10⟩) hS ?rest10
       case hy10 => (intro w hSw; (try dsimp only at hSw); first | (go_simp; done) | (go_simp; with_reducible rfl))
       try simp only [Act.put, List.setIfInBounds_toArray, List.set_cons_zero, List.set_cons_succ]
       refine wpAnyLast_ready (rs := [15]) (by kernel_rfl) (by simp) ?_
       refine AllReadyL.cons_last (o := Oper.mk _ _ _ _ _ _) rfl (by decide) (fun K hK => ?_) ?_
       ·refine rg_store HB (by rfl) B15 GE15 81 _ _ rfl rfl rfl (by kernel_rfl) rfl (by simp [Value.oneCell']) ?_
        intro w16 B16 HB16 K16
        replace E := E.other K16 (fun b m => by have := PL.out.1 b m; have := N15.out; omega)
        replace R1 := Aside0.mk (row_other R1.out B15 (by decide) K16)
        replace R2 := Aside0.mk (row_other R2.out B15 (by decide) K16)
        replace B7 := B7.other K16 (by have := L7; have := N15.out; omega)
        replace RO := Aside0.mk (own_move RO.out (fun k ek => K16.out.2 k (by have := VB.out k ek; have := N15.out; omega)))
        replace HB := HB16
        replace BX' := BX'.other K16 (by have := N15.out; omega)
        replace KO' := Aside0.mk (KO'.out.trans (keepsOthers_other B15 K16))
        replace HZ' := Aside0.mk (Nat.le_trans HZ'.out K16.out.1)
        refine hK.out _ _ ?_
        clear hK K HB16 K16 B15
        try simp only [Act.put, List.setIfInBounds_toArray, List.set_cons_zero, List.set_cons_succ]
        refine wpAnyLast_done (by kernel_rfl) ?_ _
        refine Straight.normal ?_
        have hq4' := Q4.out
        have hq5' := Q5.out
        have d0 := B16.cell (i := 0) rfl
        have d1 := B16.cell (i := 1) rfl
        gi_upto_region 15 with (first
         | ((with_reducible refine gate_In (Op.store 79 (.tmp 80) (.tmp 79)) rfl ?_); refine ev_store1In (i := 3) HB B16 GE15 rfl 79 _ _ rfl rfl (.int .u64 WW) rfl (by simp) (by kernel_rfl) rfl ?_; intro w17 B17 HB17 K17 KO17))
        clear d0 d1 hq4' hq5'
        replace E := E.other K17 (fun b m => by have := PL.out.1 b m; have := N15.out; omega)
        replace R1 := Aside0.mk (row_other R1.out B16 (by decide) K17)
        replace R2 := Aside0.mk (row_other R2.out B16 (by decide) K17)
        replace B7 := B7.other K17 (by have := L7; have := N15.out; omega)
        replace RO := Aside0.mk (own_move RO.out (fun k ek => K17.out.2 k (by have := VB.out k ek; have := N15.out; omega)))
        replace HB := HB17
        have c7 := B7.cell (i := 0) rfl
        gi_wp2_with (first
         | ((with_reducible refine gate_dstIn (N := 82) rfl ?_); refine ev_loadSIn B17 rfl 81 _ rfl rfl Tryd.underlying81 rfl (by kernel_rfl) ?_)
         | ((with_reducible refine gate_dstIn (N := 83) rfl ?_); refine ev_litNIn HB rfl rfl #[.int .u64 SW, .int .u64 BW, .int .u64 PW, .int .u64 WW] 81 ?hr ?_; (case hr => first | (go_simp; done) | (go_simp; rfl)); intro gl w18 G_gl B_gl HB18 K_gl KO18; have ho18 := row_below RO.out K_gl.out; have b718 := B7.below K_gl.out)
         | ((with_reducible refine gate_dstIn (N := 84) rfl ?_); refine ev_appendNIn HB18 rfl _ _ 77 81 (.agg #[.int .u64 0, .int .u64 0, .int .u64 0, .int .u64 0]) 4 32 rfl Tryd.underlying77 (by kernel_rfl) rfl (by decide) (by decide) v pre.length _ rfl ho18 gl [.int .u64 SW, .int .u64 BW, .int .u64 PW, .int .u64 WW] rfl B_gl rfl (by intro u hu; simp at hu; rcases hu with rfl | rfl | rfl | rfl <;> rfl) HL.out ?_; intro v8 w19 ho19 HB19 K19 KO19 FV; obtain ⟨g', cap', rfl⟩ := FV.out; have b719 := b718.appendedN (by decide) ho18 K19)
         | ((with_reducible refine gate_In (Op.store 77 (.tmp 7) (.tmp 84)) rfl ?_); refine ev_store1In (i := 0) HB19 b719 GE_g7 rfl 77 _ _ rfl rfl _ rfl (by simp) (by kernel_rfl) rfl ?_; intro w20 B20 HB20 K20 KO20))
        have E20 := ((E.below K_gl.out).appendedN PL.out.2.1 ho18 K19).other K20 PL.out.2.2
        have R120 := row_other (row_appended (row_below R1.out K_gl.out) (by decide) ho18 K19) b719 (by decide) K20
        have R220 := row_other (row_appended (row_below R2.out K_gl.out) (by decide) ho18 K19) b719 (by decide) K20
        have O20 := row_other ho19 b719 (by decide) K20
        have hszF : W.heap.size ≤ w20.heap.size := Nat.le_trans HZ'.out (Nat.le_trans K17.out.1 (Nat.le_trans K_gl.out.size (Nat.le_trans K19.out.1 K20.out.1)))
        refine ⟨(((((KO'.out.trans KO17.out).trans KO18.out).trans KO19.out).trans KO20.out)).from _, Keep2.of_blk (HI.out.bs.out _ PM.out.2.2.2.2.2.1) (HI.out.bs.out _ PM.out.2.2.2.2.2.2) (E20.out _ PM.out.2.2.2.2.2.1) (E20.out _ PM.out.2.2.2.2.2.2) hszF, E20, R120, R220, ⟨_, B20, ?_⟩, HB20, Nat.le_trans HI.out.sz hszF⟩
        rw [flatR_snoc, ROW.out, List.length_append]
        exact O20
       exact AllReadyL.nil
      exact AllReadyL.nil
     exact AllReadyL.nil
    refine AllReadyL.cons (o := Oper.mk _ _ _ _ _ _) rfl (by decide) (fun K hK => ?_) ?_
    ·refine rg_alloc HB (by rfl) (#[.int .u64 0, .int .u64 0, .int .u64 0, .int .u64 0]) 81 (by first | (go_simp; done) | (go_simp; rfl)) ?_
     intro g15 W' G15 GE15 B15 HBn hb
     have N15 := Aside0.mk (show w10.heap.size ≤ g15 ∧ gb < g15 ∧ W.heap.size ≤ g15 by have := HI.out.sz; have := HZ'.out; have := BX'.lt; have := G15.out; omega)
     clear HBn G15
     replace E := E.below hb.out
     replace R1 := Aside0.mk (row_below R1.out hb.out)
     replace R2 := Aside0.mk (row_below R2.out hb.out)
     replace B7 := B7.below hb.out
     replace RO := Aside0.mk (row_below RO.out hb.out)
     replace HB := HB.step hb.out
     replace BX' := BX'.below hb.out
     replace KO' := Aside0.mk (KO'.out.trans (keepsOthers_below hb.out))
     replace HZ' := Aside0.mk (Nat.le_trans HZ'.out hb.out.size)
     refine hK.out _ _ ⟨BX', E.out _ PM.out.2.2.2.1, E.out _ PM.out.2.2.2.2.1⟩ (fun hS => ?_)
     clear hK K hb
     try simp only [Act.put, List.setIfInBounds_toArray, List.set_cons_zero, List.set_cons_succ]
     refine wpAnyLast_ready (rs := [2]) (by kernel_rfl) (by simp) ?_
     refine AllReadyL.cons (o := Oper.mk _ _ _ _ _ _) rfl (by decide) (fun K hK => ?_) ?_
     ·refine rg_call (by rfl) _ _ (.int .u64 SG) (by first | (go_simp; done) | (go_simp; rfl)) (MS1.out _) ?_
      intro W' hb
      replace E := E.below hb.out
      replace R1 := Aside0.mk (row_below R1.out hb.out)
      replace R2 := Aside0.mk (row_below R2.out hb.out)
      replace B7 := B7.below hb.out
      replace RO := Aside0.mk (row_below RO.out hb.out)
      replace HB := HB.step hb.out
      replace BX' := BX'.below hb.out
      replace KO' := Aside0.mk (KO'.out.trans (keepsOthers_below hb.out))
      replace HZ' := Aside0.mk (Nat.le_trans HZ'.out hb.out.size)
      replace B15 := B15.below hb.out
      refine hK.out _ _ ⟨BX', E.out _ PM.out.2.2.2.1, E.out _ PM.out.2.2.2.2.1⟩ (fun hS => ?_)
      clear hK K hb
      try simp only [Act.put, List.setIfInBounds_toArray, List.set_cons_zero, List.set_cons_succ]
      refine' wpAnyLast_take (i := 4) (oi := Oper.mk _ _ _ _ _ _) rfl (by kernel_rfl) (by kernel_rfl) (by kernel_rfl) (by kernel_rfl) (by kernel_rfl) (fun _ _ _ h => h) (Or.inl ⟨by rfl, ?hy11⟩) hS ?rest11
      case hy11 => (intro w hSw; (try dsimp only at hSw); first | (go_simp; done) | (go_simp; with_reducible rfl))
      try simp only [Act.put, List.setIfInBounds_toArray, List.set_cons_zero, List.set_cons_succ]
      refine wpAnyLast_ready (rs := [7]) (by kernel_rfl) (by simp) ?_
      refine AllReadyL.cons (o := Oper.mk _ _ _ _ _ _) rfl (by decide) (fun K hK => ?_) ?_
      ·refine rg_call (by rfl) _ _ (.int .u64 BL) (by first | (go_simp; done) | (go_simp; rfl)) (MS2.out _) ?_
       intro W' hb
       replace E := E.below hb.out
       replace R1 := Aside0.mk (row_below R1.out hb.out)
       replace R2 := Aside0.mk (row_below R2.out hb.out)
       replace B7 := B7.below hb.out
       replace RO := Aside0.mk (row_below RO.out hb.out)
       replace HB := HB.step hb.out
       replace BX' := BX'.below hb.out
       replace KO' := Aside0.mk (KO'.out.trans (keepsOthers_below hb.out))
       replace HZ' := Aside0.mk (Nat.le_trans HZ'.out hb.out.size)
       replace B15 := B15.below hb.out
       refine hK.out _ _ ⟨BX', E.out _ PM.out.2.2.2.1, E.out _ PM.out.2.2.2.2.1⟩ (fun hS => ?_)
       clear hK K hb
       try simp only [Act.put, List.setIfInBounds_toArray, List.set_cons_zero, List.set_cons_succ]
       refine' wpAnyLast_take (i := 9) (oi := Oper.mk _ _ _ _ _ _) rfl (by kernel_rfl) (by kernel_rfl) (by kernel_rfl) (by kernel_rfl) (by kernel_rfl) (fun _ _ _ h => h) (Or.inl ⟨by rfl, ?hy12⟩) hS ?rest12
       case hy12 => (intro w hSw; (try dsimp only at hSw); first | (go_simp; done) | (go_simp; with_reducible rfl))
       try simp only [Act.put, List.setIfInBounds_toArray, List.set_cons_zero, List.set_cons_succ]
       refine' wpAnyLast_take (i := 13) (oi := Oper.mk _ _ _ _ _ _) rfl (by kernel_rfl) (by kernel_rfl) (by kernel_rfl) (by kernel_rfl) (by kernel_rfl) (fun _ _ _ h => h) (Or.inl ⟨by rfl, ?hy13⟩) hS ?rest13
       case hy13 => (intro w hSw; (try dsimp only at hSw); first | (go_simp; done) | (go_simp; with_reducible rfl))
       try simp only [Act.put, List.setIfInBounds_toArray, List.set_cons_zero, List.set_cons_succ]
       refine wpAnyLast_ready (rs := [15]) (by kernel_rfl) (by simp) ?_
       refine AllReadyL.cons_last (o := Oper.mk _ _ _ _ _ _) rfl (by decide) (fun K hK => ?_) ?_
       ·refine rg_store HB (by rfl) B15 GE15 81 _ _ rfl rfl rfl (by kernel_rfl) rfl (by simp [Value.oneCell']) ?_
        intro w16 B16 HB16 K16
        replace E := E.other K16 (fun b m => by have := PL.out.1 b m; have := N15.out; omega)
        replace R1 := Aside0.mk (row_other R1.out B15 (by decide) K16)
        replace R2 := Aside0.mk (row_other R2.out B15 (by decide) K16)
        replace B7 := B7.other K16 (by have := L7; have := N15.out; omega)
        replace RO := Aside0.mk (own_move RO.out (fun k ek => K16.out.2 k (by have := VB.out k ek; have := N15.out; omega)))
        replace HB := HB16
        replace BX' := BX'.other K16 (by have := N15.out; omega)
        replace KO' := Aside0.mk (KO'.out.trans (keepsOthers_other B15 K16))
        replace HZ' := Aside0.mk (Nat.le_trans HZ'.out K16.out.1)
        refine hK.out _ _ ?_
        clear hK K HB16 K16 B15
        try simp only [Act.put, List.setIfInBounds_toArray, List.set_cons_zero, List.set_cons_succ]
        refine wpAnyLast_done (by kernel_rfl) ?_ _
        refine Straight.normal ?_
        have hq4' := Q4.out
        have hq5' := Q5.out
        have d0 := B16.cell (i := 0) rfl
        have d1 := B16.cell (i := 1) rfl
        gi_upto_region 15 with (first
         | ((with_reducible refine gate_In (Op.store 79 (.tmp 80) (.tmp 79)) rfl ?_); refine ev_store1In (i := 3) HB B16 GE15 rfl 79 _ _ rfl rfl (.int .u64 WW) rfl (by simp) (by kernel_rfl) rfl ?_; intro w17 B17 HB17 K17 KO17))
        clear d0 d1 hq4' hq5'
        replace E := E.other K17 (fun b m => by have := PL.out.1 b m; have := N15.out; omega)
        replace R1 := Aside0.mk (row_other R1.out B16 (by decide) K17)
        replace R2 := Aside0.mk (row_other R2.out B16 (by decide) K17)
        replace B7 := B7.other K17 (by have := L7; have := N15.out; omega)
        replace RO := Aside0.mk (own_move RO.out (fun k ek => K17.out.2 k (by have := VB.out k ek; have := N15.out; omega)))
        replace HB := HB17
        have c7 := B7.cell (i := 0) rfl
        gi_wp2_with (first
         | ((with_reducible refine gate_dstIn (N := 82) rfl ?_); refine ev_loadSIn B17 rfl 81 _ rfl rfl Tryd.underlying81 rfl (by kernel_rfl) ?_)
         | ((with_reducible refine gate_dstIn (N := 83) rfl ?_); refine ev_litNIn HB rfl rfl #[.int .u64 SW, .int .u64 BW, .int .u64 PW, .int .u64 WW] 81 ?hr ?_; (case hr => first | (go_simp; done) | (go_simp; rfl)); intro gl w18 G_gl B_gl HB18 K_gl KO18; have ho18 := row_below RO.out K_gl.out; have b718 := B7.below K_gl.out)
         | ((with_reducible refine gate_dstIn (N := 84) rfl ?_); refine ev_appendNIn HB18 rfl _ _ 77 81 (.agg #[.int .u64 0, .int .u64 0, .int .u64 0, .int .u64 0]) 4 32 rfl Tryd.underlying77 (by kernel_rfl) rfl (by decide) (by decide) v pre.length _ rfl ho18 gl [.int .u64 SW, .int .u64 BW, .int .u64 PW, .int .u64 WW] rfl B_gl rfl (by intro u hu; simp at hu; rcases hu with rfl | rfl | rfl | rfl <;> rfl) HL.out ?_; intro v8 w19 ho19 HB19 K19 KO19 FV; obtain ⟨g', cap', rfl⟩ := FV.out; have b719 := b718.appendedN (by decide) ho18 K19)
         | ((with_reducible refine gate_In (Op.store 77 (.tmp 7) (.tmp 84)) rfl ?_); refine ev_store1In (i := 0) HB19 b719 GE_g7 rfl 77 _ _ rfl rfl _ rfl (by simp) (by kernel_rfl) rfl ?_; intro w20 B20 HB20 K20 KO20))
        have E20 := ((E.below K_gl.out).appendedN PL.out.2.1 ho18 K19).other K20 PL.out.2.2
        have R120 := row_other (row_appended (row_below R1.out K_gl.out) (by decide) ho18 K19) b719 (by decide) K20
        have R220 := row_other (row_appended (row_below R2.out K_gl.out) (by decide) ho18 K19) b719 (by decide) K20
        have O20 := row_other ho19 b719 (by decide) K20
        have hszF : W.heap.size ≤ w20.heap.size := Nat.le_trans HZ'.out (Nat.le_trans K17.out.1 (Nat.le_trans K_gl.out.size (Nat.le_trans K19.out.1 K20.out.1)))
        refine ⟨(((((KO'.out.trans KO17.out).trans KO18.out).trans KO19.out).trans KO20.out)).from _, Keep2.of_blk (HI.out.bs.out _ PM.out.2.2.2.2.2.1) (HI.out.bs.out _ PM.out.2.2.2.2.2.2) (E20.out _ PM.out.2.2.2.2.2.1) (E20.out _ PM.out.2.2.2.2.2.2) hszF, E20, R120, R220, ⟨_, B20, ?_⟩, HB20, Nat.le_trans HI.out.sz hszF⟩
        rw [flatR_snoc, ROW.out, List.length_append]
        exact O20
       exact AllReadyL.nil
      exact AllReadyL.nil
     exact AllReadyL.nil
    exact AllReadyL.nil
   ·gi_upto_region 13 with (fail)
    rw [OFF.out (by omega)]
    have q1 := Q1.out
    have q2 := Q2.out
    have q3 := Q3.out
    have hbd2 : Aside0 (Below W.drew.heap.size W.drew W.drew.drew) := ⟨below_drew (Below.refl _ _)⟩
    have hb := hbd2
    replace E := E.below hb.out
    replace R1 := Aside0.mk (row_below R1.out hb.out)
    replace R2 := Aside0.mk (row_below R2.out hb.out)
    replace B7 := B7.below hb.out
    replace RO := Aside0.mk (row_below RO.out hb.out)
    replace HB := HB.step hb.out
    replace BX' := BX'.below hb.out
    replace KO' := Aside0.mk (KO'.out.trans (keepsOthers_below hb.out))
    replace HZ' := Aside0.mk (Nat.le_trans HZ'.out hb.out.size)
    clear hb c1s hbd2 hfull
    refine wpIn_region_last_drew HF (S := fun W' => Blk W' gb (blkA (cutF s (64 * ((x.val : Nat) : Int)) 32)) 106 ∧ Blk W' g5 (clsA sgx) 100 ∧ Blk W' g6 (clsA blx) 100) (ds := [15]) (by kernel_rfl) (by kernel_rfl) ⟨BX', E.out _ PM.out.2.2.2.1, E.out _ PM.out.2.2.2.2.1⟩ (fun hS => ?_)
    refine wpAnyLast_take (i := 0) (oi := Oper.mk _ _ _ _ _ _) rfl (by kernel_rfl) (by kernel_rfl) (by kernel_rfl) (by kernel_rfl) (by kernel_rfl) (fun _ _ _ h => h) (rg_load (by rfl) (fun _ hS => hS.1) 106 _ rfl rfl Tryd.underlying106 rfl (size64' _)) hS ?_
    try simp only [Act.put, List.setIfInBounds_toArray, List.set_cons_zero, List.set_cons_succ]
    refine wpAnyLast_take (i := 1) (oi := Oper.mk _ _ _ _ _ _) rfl (by kernel_rfl) (by kernel_rfl) (by kernel_rfl) (by kernel_rfl) (by kernel_rfl) (fun _ _ _ h => h) (rg_load (by rfl) (fun _ hS => hS.2.1) 100 _ rfl rfl Tryd.underlying100 rfl (sizeC' _)) hS ?_
    try simp only [Act.put, List.setIfInBounds_toArray, List.set_cons_zero, List.set_cons_succ]
    refine' wpAnyLast_take (i := 3) (oi := Oper.mk _ _ _ _ _ _) rfl (by kernel_rfl) (by kernel_rfl) (by kernel_rfl) (by kernel_rfl) (by kernel_rfl) (fun _ _ _ h => h) (Or.inl ⟨by rfl, ?hy14⟩) hS ?rest14
    case hy14 => (intro w hSw; (try dsimp only at hSw); first | (go_simp; done) | (go_simp; with_reducible rfl))
    try simp only [Act.put, List.setIfInBounds_toArray, List.set_cons_zero, List.set_cons_succ]
    refine wpAnyLast_take (i := 5) (oi := Oper.mk _ _ _ _ _ _) rfl (by kernel_rfl) (by kernel_rfl) (by kernel_rfl) (by kernel_rfl) (by kernel_rfl) (fun _ _ _ h => h) (rg_load (by rfl) (fun _ hS => hS.1) 106 _ rfl rfl Tryd.underlying106 rfl (size64' _)) hS ?_
    try simp only [Act.put, List.setIfInBounds_toArray, List.set_cons_zero, List.set_cons_succ]
    refine wpAnyLast_take (i := 6) (oi := Oper.mk _ _ _ _ _ _) rfl (by kernel_rfl) (by kernel_rfl) (by kernel_rfl) (by kernel_rfl) (by kernel_rfl) (fun _ _ _ h => h) (rg_load (by rfl) (fun _ hS => hS.2.2) 100 _ rfl rfl Tryd.underlying100 rfl (sizeC' _)) hS ?_
    try simp only [Act.put, List.setIfInBounds_toArray, List.set_cons_zero, List.set_cons_succ]
    refine' wpAnyLast_take (i := 8) (oi := Oper.mk _ _ _ _ _ _) rfl (by kernel_rfl) (by kernel_rfl) (by kernel_rfl) (by kernel_rfl) (by kernel_rfl) (fun _ _ _ h => h) (Or.inl ⟨by rfl, ?hy15⟩) hS ?rest15
    case hy15 => (intro w hSw; (try dsimp only at hSw); first | (go_simp; done) | (go_simp; with_reducible rfl))
    try simp only [Act.put, List.setIfInBounds_toArray, List.set_cons_zero, List.set_cons_succ]
    refine' wpAnyLast_take (i := 10) (oi := Oper.mk _ _ _ _ _ _) rfl (by kernel_rfl) (by kernel_rfl) (by kernel_rfl) (by kernel_rfl) (by kernel_rfl) (fun _ _ _ h => h) (Or.inl ⟨by rfl, ?hy16⟩) hS ?rest16
    case hy16 => (intro w hSw; (try dsimp only at hSw); first | (go_simp; done) | (go_simp; with_reducible rfl))
    try simp only [Act.put, List.setIfInBounds_toArray, List.set_cons_zero, List.set_cons_succ]
    refine' wpAnyLast_take (i := 11) (oi := Oper.mk _ _ _ _ _ _) rfl (by kernel_rfl) (by kernel_rfl) (by kernel_rfl) (by kernel_rfl) (by kernel_rfl) (fun _ _ _ h => h) (Or.inl ⟨by rfl, ?hy17⟩) hS ?rest17
    case hy17 => (intro w hSw; (try dsimp only at hSw); first | (go_simp; done) | (go_simp; with_reducible rfl))
    try simp only [Act.put, List.setIfInBounds_toArray, List.set_cons_zero, List.set_cons_succ]
    refine' wpAnyLast_take (i := 12) (oi := Oper.mk _ _ _ _ _ _) rfl (by kernel_rfl) (by kernel_rfl) (by kernel_rfl) (by kernel_rfl) (by kernel_rfl) (fun _ _ _ h => h) (Or.inl ⟨by rfl, ?hy18⟩) hS ?rest18
    case hy18 => (intro w hSw; (try dsimp only at hSw); first | (go_simp; done) | (go_simp; with_reducible rfl))
    try simp only [Act.put, List.setIfInBounds_toArray, List.set_cons_zero, List.set_cons_succ]
    refine wpAnyLast_ready (rs := [2, 14]) (by kernel_rfl) (by simp) ?_
    refine AllReadyL.cons (o := Oper.mk _ _ _ _ _ _) rfl (by decide) (fun K hK => ?_) ?_
    ·refine rg_call (by rfl) _ _ (.int .u64 SG) (by first | (go_simp; done) | (go_simp; rfl)) (MS1.out _) ?_
     intro W' hb
     replace E := E.below hb.out
     replace R1 := Aside0.mk (row_below R1.out hb.out)
     replace R2 := Aside0.mk (row_below R2.out hb.out)
     replace B7 := B7.below hb.out
     replace RO := Aside0.mk (row_below RO.out hb.out)
     replace HB := HB.step hb.out
     replace BX' := BX'.below hb.out
     replace KO' := Aside0.mk (KO'.out.trans (keepsOthers_below hb.out))
     replace HZ' := Aside0.mk (Nat.le_trans HZ'.out hb.out.size)
     refine hK.out _ _ ⟨BX', E.out _ PM.out.2.2.2.1, E.out _ PM.out.2.2.2.2.1⟩ (fun hS => ?_)
     clear hK K hb
     try simp only [Act.put, List.setIfInBounds_toArray, List.set_cons_zero, List.set_cons_succ]
     refine' wpAnyLast_take (i := 4) (oi := Oper.mk _ _ _ _ _ _) rfl (by kernel_rfl) (by kernel_rfl) (by kernel_rfl) (by kernel_rfl) (by kernel_rfl) (fun _ _ _ h => h) (Or.inl ⟨by rfl, ?hy19⟩) hS ?rest19
     case hy19 => (intro w hSw; (try dsimp only at hSw); first | (go_simp; done) | (go_simp; with_reducible rfl))
     try simp only [Act.put, List.setIfInBounds_toArray, List.set_cons_zero, List.set_cons_succ]
     refine wpAnyLast_ready (rs := [7, 14]) (by kernel_rfl) (by simp) ?_
     refine AllReadyL.cons (o := Oper.mk _ _ _ _ _ _) rfl (by decide) (fun K hK => ?_) ?_
     ·refine rg_call (by rfl) _ _ (.int .u64 BL) (by first | (go_simp; done) | (go_simp; rfl)) (MS2.out _) ?_
      intro W' hb
      replace E := E.below hb.out
      replace R1 := Aside0.mk (row_below R1.out hb.out)
      replace R2 := Aside0.mk (row_below R2.out hb.out)
      replace B7 := B7.below hb.out
      replace RO := Aside0.mk (row_below RO.out hb.out)
      replace HB := HB.step hb.out
      replace BX' := BX'.below hb.out
      replace KO' := Aside0.mk (KO'.out.trans (keepsOthers_below hb.out))
      replace HZ' := Aside0.mk (Nat.le_trans HZ'.out hb.out.size)
      refine hK.out _ _ ⟨BX', E.out _ PM.out.2.2.2.1, E.out _ PM.out.2.2.2.2.1⟩ (fun hS => ?_)
      clear hK K hb
      try simp only [Act.put, List.setIfInBounds_toArray, List.set_cons_zero, List.set_cons_succ]
      refine' wpAnyLast_take (i := 9) (oi := Oper.mk _ _ _ _ _ _) rfl (by kernel_rfl) (by kernel_rfl) (by kernel_rfl) (by kernel_rfl) (by kernel_rfl) (fun _ _ _ h => h) (Or.inl ⟨by rfl, ?hy20⟩) hS ?rest20
      case hy20 => (intro w hSw; (try dsimp only at hSw); first | (go_simp; done) | (go_simp; with_reducible rfl))
      try simp only [Act.put, List.setIfInBounds_toArray, List.set_cons_zero, List.set_cons_succ]
      refine' wpAnyLast_take (i := 13) (oi := Oper.mk _ _ _ _ _ _) rfl (by kernel_rfl) (by kernel_rfl) (by kernel_rfl) (by kernel_rfl) (by kernel_rfl) (fun _ _ _ h => h) (Or.inl ⟨by rfl, ?hy21⟩) hS ?rest21
      case hy21 => (intro w hSw; (try dsimp only at hSw); first | (go_simp; done) | (go_simp; with_reducible rfl))
      try simp only [Act.put, List.setIfInBounds_toArray, List.set_cons_zero, List.set_cons_succ]
      refine wpAnyLast_ready (rs := [14]) (by kernel_rfl) (by simp) ?_
      refine AllReadyL.cons (o := Oper.mk _ _ _ _ _ _) rfl (by decide) (fun K hK => ?_) ?_
      ·refine rg_alloc HB (by rfl) (#[.int .u64 0, .int .u64 0, .int .u64 0, .int .u64 0]) 81 (by first | (go_simp; done) | (go_simp; rfl)) ?_
       intro g15 W' G15 GE15 B15 HBn hb
       have N15 := Aside0.mk (show w10.heap.size ≤ g15 ∧ gb < g15 ∧ W.heap.size ≤ g15 by have := HI.out.sz; have := HZ'.out; have := BX'.lt; have := G15.out; omega)
       clear HBn G15
       replace E := E.below hb.out
       replace R1 := Aside0.mk (row_below R1.out hb.out)
       replace R2 := Aside0.mk (row_below R2.out hb.out)
       replace B7 := B7.below hb.out
       replace RO := Aside0.mk (row_below RO.out hb.out)
       replace HB := HB.step hb.out
       replace BX' := BX'.below hb.out
       replace KO' := Aside0.mk (KO'.out.trans (keepsOthers_below hb.out))
       replace HZ' := Aside0.mk (Nat.le_trans HZ'.out hb.out.size)
       refine hK.out _ _ ⟨BX', E.out _ PM.out.2.2.2.1, E.out _ PM.out.2.2.2.2.1⟩ (fun hS => ?_)
       clear hK K hb
       try simp only [Act.put, List.setIfInBounds_toArray, List.set_cons_zero, List.set_cons_succ]
       refine wpAnyLast_ready (rs := [15]) (by kernel_rfl) (by simp) ?_
       refine AllReadyL.cons_last (o := Oper.mk _ _ _ _ _ _) rfl (by decide) (fun K hK => ?_) ?_
       ·refine rg_store HB (by rfl) B15 GE15 81 _ _ rfl rfl rfl (by kernel_rfl) rfl (by simp [Value.oneCell']) ?_
        intro w16 B16 HB16 K16
        replace E := E.other K16 (fun b m => by have := PL.out.1 b m; have := N15.out; omega)
        replace R1 := Aside0.mk (row_other R1.out B15 (by decide) K16)
        replace R2 := Aside0.mk (row_other R2.out B15 (by decide) K16)
        replace B7 := B7.other K16 (by have := L7; have := N15.out; omega)
        replace RO := Aside0.mk (own_move RO.out (fun k ek => K16.out.2 k (by have := VB.out k ek; have := N15.out; omega)))
        replace HB := HB16
        replace BX' := BX'.other K16 (by have := N15.out; omega)
        replace KO' := Aside0.mk (KO'.out.trans (keepsOthers_other B15 K16))
        replace HZ' := Aside0.mk (Nat.le_trans HZ'.out K16.out.1)
        refine hK.out _ _ ?_
        clear hK K HB16 K16 B15
        try simp only [Act.put, List.setIfInBounds_toArray, List.set_cons_zero, List.set_cons_succ]
        refine wpAnyLast_done (by kernel_rfl) ?_ _
        refine Straight.normal ?_
        have hq4' := Q4.out
        have hq5' := Q5.out
        have d0 := B16.cell (i := 0) rfl
        have d1 := B16.cell (i := 1) rfl
        gi_upto_region 15 with (first
         | ((with_reducible refine gate_In (Op.store 79 (.tmp 80) (.tmp 79)) rfl ?_); refine ev_store1In (i := 3) HB B16 GE15 rfl 79 _ _ rfl rfl (.int .u64 WW) rfl (by simp) (by kernel_rfl) rfl ?_; intro w17 B17 HB17 K17 KO17))
        clear d0 d1 hq4' hq5'
        replace E := E.other K17 (fun b m => by have := PL.out.1 b m; have := N15.out; omega)
        replace R1 := Aside0.mk (row_other R1.out B16 (by decide) K17)
        replace R2 := Aside0.mk (row_other R2.out B16 (by decide) K17)
        replace B7 := B7.other K17 (by have := L7; have := N15.out; omega)
        replace RO := Aside0.mk (own_move RO.out (fun k ek => K17.out.2 k (by have := VB.out k ek; have := N15.out; omega)))
        replace HB := HB17
        have c7 := B7.cell (i := 0) rfl
        gi_wp2_with (first
         | ((with_reducible refine gate_dstIn (N := 82) rfl ?_); refine ev_loadSIn B17 rfl 81 _ rfl rfl Tryd.underlying81 rfl (by kernel_rfl) ?_)
         | ((with_reducible refine gate_dstIn (N := 83) rfl ?_); refine ev_litNIn HB rfl rfl #[.int .u64 SW, .int .u64 BW, .int .u64 PW, .int .u64 WW] 81 ?hr ?_; (case hr => first | (go_simp; done) | (go_simp; rfl)); intro gl w18 G_gl B_gl HB18 K_gl KO18; have ho18 := row_below RO.out K_gl.out; have b718 := B7.below K_gl.out)
         | ((with_reducible refine gate_dstIn (N := 84) rfl ?_); refine ev_appendNIn HB18 rfl _ _ 77 81 (.agg #[.int .u64 0, .int .u64 0, .int .u64 0, .int .u64 0]) 4 32 rfl Tryd.underlying77 (by kernel_rfl) rfl (by decide) (by decide) v pre.length _ rfl ho18 gl [.int .u64 SW, .int .u64 BW, .int .u64 PW, .int .u64 WW] rfl B_gl rfl (by intro u hu; simp at hu; rcases hu with rfl | rfl | rfl | rfl <;> rfl) HL.out ?_; intro v8 w19 ho19 HB19 K19 KO19 FV; obtain ⟨g', cap', rfl⟩ := FV.out; have b719 := b718.appendedN (by decide) ho18 K19)
         | ((with_reducible refine gate_In (Op.store 77 (.tmp 7) (.tmp 84)) rfl ?_); refine ev_store1In (i := 0) HB19 b719 GE_g7 rfl 77 _ _ rfl rfl _ rfl (by simp) (by kernel_rfl) rfl ?_; intro w20 B20 HB20 K20 KO20))
        have E20 := ((E.below K_gl.out).appendedN PL.out.2.1 ho18 K19).other K20 PL.out.2.2
        have R120 := row_other (row_appended (row_below R1.out K_gl.out) (by decide) ho18 K19) b719 (by decide) K20
        have R220 := row_other (row_appended (row_below R2.out K_gl.out) (by decide) ho18 K19) b719 (by decide) K20
        have O20 := row_other ho19 b719 (by decide) K20
        have hszF : W.heap.size ≤ w20.heap.size := Nat.le_trans HZ'.out (Nat.le_trans K17.out.1 (Nat.le_trans K_gl.out.size (Nat.le_trans K19.out.1 K20.out.1)))
        refine ⟨(((((KO'.out.trans KO17.out).trans KO18.out).trans KO19.out).trans KO20.out)).from _, Keep2.of_blk (HI.out.bs.out _ PM.out.2.2.2.2.2.1) (HI.out.bs.out _ PM.out.2.2.2.2.2.2) (E20.out _ PM.out.2.2.2.2.2.1) (E20.out _ PM.out.2.2.2.2.2.2) hszF, E20, R120, R220, ⟨_, B20, ?_⟩, HB20, Nat.le_trans HI.out.sz hszF⟩
        rw [flatR_snoc, ROW.out, List.length_append]
        exact O20
       exact AllReadyL.nil
      exact AllReadyL.nil
     refine AllReadyL.cons (o := Oper.mk _ _ _ _ _ _) rfl (by decide) (fun K hK => ?_) ?_
     ·refine rg_alloc HB (by rfl) (#[.int .u64 0, .int .u64 0, .int .u64 0, .int .u64 0]) 81 (by first | (go_simp; done) | (go_simp; rfl)) ?_
      intro g15 W' G15 GE15 B15 HBn hb
      have N15 := Aside0.mk (show w10.heap.size ≤ g15 ∧ gb < g15 ∧ W.heap.size ≤ g15 by have := HI.out.sz; have := HZ'.out; have := BX'.lt; have := G15.out; omega)
      clear HBn G15
      replace E := E.below hb.out
      replace R1 := Aside0.mk (row_below R1.out hb.out)
      replace R2 := Aside0.mk (row_below R2.out hb.out)
      replace B7 := B7.below hb.out
      replace RO := Aside0.mk (row_below RO.out hb.out)
      replace HB := HB.step hb.out
      replace BX' := BX'.below hb.out
      replace KO' := Aside0.mk (KO'.out.trans (keepsOthers_below hb.out))
      replace HZ' := Aside0.mk (Nat.le_trans HZ'.out hb.out.size)
      refine hK.out _ _ ⟨BX', E.out _ PM.out.2.2.2.1, E.out _ PM.out.2.2.2.2.1⟩ (fun hS => ?_)
      clear hK K hb
      try simp only [Act.put, List.setIfInBounds_toArray, List.set_cons_zero, List.set_cons_succ]
      refine wpAnyLast_ready (rs := [7]) (by kernel_rfl) (by simp) ?_
      refine AllReadyL.cons (o := Oper.mk _ _ _ _ _ _) rfl (by decide) (fun K hK => ?_) ?_
      ·refine rg_call (by rfl) _ _ (.int .u64 BL) (by first | (go_simp; done) | (go_simp; rfl)) (MS2.out _) ?_
       intro W' hb
       replace E := E.below hb.out
       replace R1 := Aside0.mk (row_below R1.out hb.out)
       replace R2 := Aside0.mk (row_below R2.out hb.out)
       replace B7 := B7.below hb.out
       replace RO := Aside0.mk (row_below RO.out hb.out)
       replace HB := HB.step hb.out
       replace BX' := BX'.below hb.out
       replace KO' := Aside0.mk (KO'.out.trans (keepsOthers_below hb.out))
       replace HZ' := Aside0.mk (Nat.le_trans HZ'.out hb.out.size)
       replace B15 := B15.below hb.out
       refine hK.out _ _ ⟨BX', E.out _ PM.out.2.2.2.1, E.out _ PM.out.2.2.2.2.1⟩ (fun hS => ?_)
       clear hK K hb
       try simp only [Act.put, List.setIfInBounds_toArray, List.set_cons_zero, List.set_cons_succ]
       refine' wpAnyLast_take (i := 9) (oi := Oper.mk _ _ _ _ _ _) rfl (by kernel_rfl) (by kernel_rfl) (by kernel_rfl) (by kernel_rfl) (by kernel_rfl) (fun _ _ _ h => h) (Or.inl ⟨by rfl, ?hy22⟩) hS ?rest22
       case hy22 => (intro w hSw; (try dsimp only at hSw); first | (go_simp; done) | (go_simp; with_reducible rfl))
       try simp only [Act.put, List.setIfInBounds_toArray, List.set_cons_zero, List.set_cons_succ]
       refine' wpAnyLast_take (i := 13) (oi := Oper.mk _ _ _ _ _ _) rfl (by kernel_rfl) (by kernel_rfl) (by kernel_rfl) (by kernel_rfl) (by kernel_rfl) (fun _ _ _ h => h) (Or.inl ⟨by rfl, ?hy23⟩) hS ?rest23
       case hy23 => (intro w hSw; (try dsimp only at hSw); first | (go_simp; done) | (go_simp; with_reducible rfl))
       try simp only [Act.put, List.setIfInBounds_toArray, List.set_cons_zero, List.set_cons_succ]
       refine wpAnyLast_ready (rs := [15]) (by kernel_rfl) (by simp) ?_
       refine AllReadyL.cons_last (o := Oper.mk _ _ _ _ _ _) rfl (by decide) (fun K hK => ?_) ?_
       ·refine rg_store HB (by rfl) B15 GE15 81 _ _ rfl rfl rfl (by kernel_rfl) rfl (by simp [Value.oneCell']) ?_
        intro w16 B16 HB16 K16
        replace E := E.other K16 (fun b m => by have := PL.out.1 b m; have := N15.out; omega)
        replace R1 := Aside0.mk (row_other R1.out B15 (by decide) K16)
        replace R2 := Aside0.mk (row_other R2.out B15 (by decide) K16)
        replace B7 := B7.other K16 (by have := L7; have := N15.out; omega)
        replace RO := Aside0.mk (own_move RO.out (fun k ek => K16.out.2 k (by have := VB.out k ek; have := N15.out; omega)))
        replace HB := HB16
        replace BX' := BX'.other K16 (by have := N15.out; omega)
        replace KO' := Aside0.mk (KO'.out.trans (keepsOthers_other B15 K16))
        replace HZ' := Aside0.mk (Nat.le_trans HZ'.out K16.out.1)
        refine hK.out _ _ ?_
        clear hK K HB16 K16 B15
        try simp only [Act.put, List.setIfInBounds_toArray, List.set_cons_zero, List.set_cons_succ]
        refine wpAnyLast_done (by kernel_rfl) ?_ _
        refine Straight.normal ?_
        have hq4' := Q4.out
        have hq5' := Q5.out
        have d0 := B16.cell (i := 0) rfl
        have d1 := B16.cell (i := 1) rfl
        gi_upto_region 15 with (first
         | ((with_reducible refine gate_In (Op.store 79 (.tmp 80) (.tmp 79)) rfl ?_); refine ev_store1In (i := 3) HB B16 GE15 rfl 79 _ _ rfl rfl (.int .u64 WW) rfl (by simp) (by kernel_rfl) rfl ?_; intro w17 B17 HB17 K17 KO17))
        clear d0 d1 hq4' hq5'
        replace E := E.other K17 (fun b m => by have := PL.out.1 b m; have := N15.out; omega)
        replace R1 := Aside0.mk (row_other R1.out B16 (by decide) K17)
        replace R2 := Aside0.mk (row_other R2.out B16 (by decide) K17)
        replace B7 := B7.other K17 (by have := L7; have := N15.out; omega)
        replace RO := Aside0.mk (own_move RO.out (fun k ek => K17.out.2 k (by have := VB.out k ek; have := N15.out; omega)))
        replace HB := HB17
        have c7 := B7.cell (i := 0) rfl
        gi_wp2_with (first
         | ((with_reducible refine gate_dstIn (N := 82) rfl ?_); refine ev_loadSIn B17 rfl 81 _ rfl rfl Tryd.underlying81 rfl (by kernel_rfl) ?_)
         | ((with_reducible refine gate_dstIn (N := 83) rfl ?_); refine ev_litNIn HB rfl rfl #[.int .u64 SW, .int .u64 BW, .int .u64 PW, .int .u64 WW] 81 ?hr ?_; (case hr => first | (go_simp; done) | (go_simp; rfl)); intro gl w18 G_gl B_gl HB18 K_gl KO18; have ho18 := row_below RO.out K_gl.out; have b718 := B7.below K_gl.out)
         | ((with_reducible refine gate_dstIn (N := 84) rfl ?_); refine ev_appendNIn HB18 rfl _ _ 77 81 (.agg #[.int .u64 0, .int .u64 0, .int .u64 0, .int .u64 0]) 4 32 rfl Tryd.underlying77 (by kernel_rfl) rfl (by decide) (by decide) v pre.length _ rfl ho18 gl [.int .u64 SW, .int .u64 BW, .int .u64 PW, .int .u64 WW] rfl B_gl rfl (by intro u hu; simp at hu; rcases hu with rfl | rfl | rfl | rfl <;> rfl) HL.out ?_; intro v8 w19 ho19 HB19 K19 KO19 FV; obtain ⟨g', cap', rfl⟩ := FV.out; have b719 := b718.appendedN (by decide) ho18 K19)
         | ((with_reducible refine gate_In (Op.store 77 (.tmp 7) (.tmp 84)) rfl ?_); refine ev_store1In (i := 0) HB19 b719 GE_g7 rfl 77 _ _ rfl rfl _ rfl (by simp) (by kernel_rfl) rfl ?_; intro w20 B20 HB20 K20 KO20))
        have E20 := ((E.below K_gl.out).appendedN PL.out.2.1 ho18 K19).other K20 PL.out.2.2
        have R120 := row_other (row_appended (row_below R1.out K_gl.out) (by decide) ho18 K19) b719 (by decide) K20
        have R220 := row_other (row_appended (row_below R2.out K_gl.out) (by decide) ho18 K19) b719 (by decide) K20
        have O20 := row_other ho19 b719 (by decide) K20
        have hszF : W.heap.size ≤ w20.heap.size := Nat.le_trans HZ'.out (Nat.le_trans K17.out.1 (Nat.le_trans K_gl.out.size (Nat.le_trans K19.out.1 K20.out.1)))
        refine ⟨(((((KO'.out.trans KO17.out).trans KO18.out).trans KO19.out).trans KO20.out)).from _, Keep2.of_blk (HI.out.bs.out _ PM.out.2.2.2.2.2.1) (HI.out.bs.out _ PM.out.2.2.2.2.2.2) (E20.out _ PM.out.2.2.2.2.2.1) (E20.out _ PM.out.2.2.2.2.2.2) hszF, E20, R120, R220, ⟨_, B20, ?_⟩, HB20, Nat.le_trans HI.out.sz hszF⟩
        rw [flatR_snoc, ROW.out, List.length_append]
        exact O20
       exact AllReadyL.nil
      exact AllReadyL.nil
     exact AllReadyL.nil
    refine AllReadyL.cons (o := Oper.mk _ _ _ _ _ _) rfl (by decide) (fun K hK => ?_) ?_
    ·refine rg_alloc HB (by rfl) (#[.int .u64 0, .int .u64 0, .int .u64 0, .int .u64 0]) 81 (by first | (go_simp; done) | (go_simp; rfl)) ?_
     intro g15 W' G15 GE15 B15 HBn hb
     have N15 := Aside0.mk (show w10.heap.size ≤ g15 ∧ gb < g15 ∧ W.heap.size ≤ g15 by have := HI.out.sz; have := HZ'.out; have := BX'.lt; have := G15.out; omega)
     clear HBn G15
     replace E := E.below hb.out
     replace R1 := Aside0.mk (row_below R1.out hb.out)
     replace R2 := Aside0.mk (row_below R2.out hb.out)
     replace B7 := B7.below hb.out
     replace RO := Aside0.mk (row_below RO.out hb.out)
     replace HB := HB.step hb.out
     replace BX' := BX'.below hb.out
     replace KO' := Aside0.mk (KO'.out.trans (keepsOthers_below hb.out))
     replace HZ' := Aside0.mk (Nat.le_trans HZ'.out hb.out.size)
     refine hK.out _ _ ⟨BX', E.out _ PM.out.2.2.2.1, E.out _ PM.out.2.2.2.2.1⟩ (fun hS => ?_)
     clear hK K hb
     try simp only [Act.put, List.setIfInBounds_toArray, List.set_cons_zero, List.set_cons_succ]
     refine wpAnyLast_ready (rs := [2]) (by kernel_rfl) (by simp) ?_
     refine AllReadyL.cons (o := Oper.mk _ _ _ _ _ _) rfl (by decide) (fun K hK => ?_) ?_
     ·refine rg_call (by rfl) _ _ (.int .u64 SG) (by first | (go_simp; done) | (go_simp; rfl)) (MS1.out _) ?_
      intro W' hb
      replace E := E.below hb.out
      replace R1 := Aside0.mk (row_below R1.out hb.out)
      replace R2 := Aside0.mk (row_below R2.out hb.out)
      replace B7 := B7.below hb.out
      replace RO := Aside0.mk (row_below RO.out hb.out)
      replace HB := HB.step hb.out
      replace BX' := BX'.below hb.out
      replace KO' := Aside0.mk (KO'.out.trans (keepsOthers_below hb.out))
      replace HZ' := Aside0.mk (Nat.le_trans HZ'.out hb.out.size)
      replace B15 := B15.below hb.out
      refine hK.out _ _ ⟨BX', E.out _ PM.out.2.2.2.1, E.out _ PM.out.2.2.2.2.1⟩ (fun hS => ?_)
      clear hK K hb
      try simp only [Act.put, List.setIfInBounds_toArray, List.set_cons_zero, List.set_cons_succ]
      refine' wpAnyLast_take (i := 4) (oi := Oper.mk _ _ _ _ _ _) rfl (by kernel_rfl) (by kernel_rfl) (by kernel_rfl) (by kernel_rfl) (by kernel_rfl) (fun _ _ _ h => h) (Or.inl ⟨by rfl, ?hy24⟩) hS ?rest24
      case hy24 => (intro w hSw; (try dsimp only at hSw); first | (go_simp; done) | (go_simp; with_reducible rfl))
      try simp only [Act.put, List.setIfInBounds_toArray, List.set_cons_zero, List.set_cons_succ]
      refine wpAnyLast_ready (rs := [7]) (by kernel_rfl) (by simp) ?_
      refine AllReadyL.cons (o := Oper.mk _ _ _ _ _ _) rfl (by decide) (fun K hK => ?_) ?_
      ·refine rg_call (by rfl) _ _ (.int .u64 BL) (by first | (go_simp; done) | (go_simp; rfl)) (MS2.out _) ?_
       intro W' hb
       replace E := E.below hb.out
       replace R1 := Aside0.mk (row_below R1.out hb.out)
       replace R2 := Aside0.mk (row_below R2.out hb.out)
       replace B7 := B7.below hb.out
       replace RO := Aside0.mk (row_below RO.out hb.out)
       replace HB := HB.step hb.out
       replace BX' := BX'.below hb.out
       replace KO' := Aside0.mk (KO'.out.trans (keepsOthers_below hb.out))
       replace HZ' := Aside0.mk (Nat.le_trans HZ'.out hb.out.size)
       replace B15 := B15.below hb.out
       refine hK.out _ _ ⟨BX', E.out _ PM.out.2.2.2.1, E.out _ PM.out.2.2.2.2.1⟩ (fun hS => ?_)
       clear hK K hb
       try simp only [Act.put, List.setIfInBounds_toArray, List.set_cons_zero, List.set_cons_succ]
       refine' wpAnyLast_take (i := 9) (oi := Oper.mk _ _ _ _ _ _) rfl (by kernel_rfl) (by kernel_rfl) (by kernel_rfl) (by kernel_rfl) (by kernel_rfl) (fun _ _ _ h => h) (Or.inl ⟨by rfl, ?hy25⟩) hS ?rest25
       case hy25 => (intro w hSw; (try dsimp only at hSw); first | (go_simp; done) | (go_simp; with_reducible rfl))
       try simp only [Act.put, List.setIfInBounds_toArray, List.set_cons_zero, List.set_cons_succ]
       refine' wpAnyLast_take (i := 13) (oi := Oper.mk _ _ _ _ _ _) rfl (by kernel_rfl) (by kernel_rfl) (by kernel_rfl) (by kernel_rfl) (by kernel_rfl) (fun _ _ _ h => h) (Or.inl ⟨by rfl, ?hy26⟩) hS ?rest26
       case hy26 => (intro w hSw; (try dsimp only at hSw); first | (go_simp; done) | (go_simp; with_reducible rfl))
       try simp only [Act.put, List.setIfInBounds_toArray, List.set_cons_zero, List.set_cons_succ]
       refine wpAnyLast_ready (rs := [15]) (by kernel_rfl) (by simp) ?_
       refine AllReadyL.cons_last (o := Oper.mk _ _ _ _ _ _) rfl (by decide) (fun K hK => ?_) ?_
       ·refine rg_store HB (by rfl) B15 GE15 81 _ _ rfl rfl rfl (by kernel_rfl) rfl (by simp [Value.oneCell']) ?_
        intro w16 B16 HB16 K16
        replace E := E.other K16 (fun b m => by have := PL.out.1 b m; have := N15.out; omega)
        replace R1 := Aside0.mk (row_other R1.out B15 (by decide) K16)
        replace R2 := Aside0.mk (row_other R2.out B15 (by decide) K16)
        replace B7 := B7.other K16 (by have := L7; have := N15.out; omega)
        replace RO := Aside0.mk (own_move RO.out (fun k ek => K16.out.2 k (by have := VB.out k ek; have := N15.out; omega)))
        replace HB := HB16
        replace BX' := BX'.other K16 (by have := N15.out; omega)
        replace KO' := Aside0.mk (KO'.out.trans (keepsOthers_other B15 K16))
        replace HZ' := Aside0.mk (Nat.le_trans HZ'.out K16.out.1)
        refine hK.out _ _ ?_
        clear hK K HB16 K16 B15
        try simp only [Act.put, List.setIfInBounds_toArray, List.set_cons_zero, List.set_cons_succ]
        refine wpAnyLast_done (by kernel_rfl) ?_ _
        refine Straight.normal ?_
        have hq4' := Q4.out
        have hq5' := Q5.out
        have d0 := B16.cell (i := 0) rfl
        have d1 := B16.cell (i := 1) rfl
        gi_upto_region 15 with (first
         | ((with_reducible refine gate_In (Op.store 79 (.tmp 80) (.tmp 79)) rfl ?_); refine ev_store1In (i := 3) HB B16 GE15 rfl 79 _ _ rfl rfl (.int .u64 WW) rfl (by simp) (by kernel_rfl) rfl ?_; intro w17 B17 HB17 K17 KO17))
        clear d0 d1 hq4' hq5'
        replace E := E.other K17 (fun b m => by have := PL.out.1 b m; have := N15.out; omega)
        replace R1 := Aside0.mk (row_other R1.out B16 (by decide) K17)
        replace R2 := Aside0.mk (row_other R2.out B16 (by decide) K17)
        replace B7 := B7.other K17 (by have := L7; have := N15.out; omega)
        replace RO := Aside0.mk (own_move RO.out (fun k ek => K17.out.2 k (by have := VB.out k ek; have := N15.out; omega)))
        replace HB := HB17
        have c7 := B7.cell (i := 0) rfl
        gi_wp2_with (first
         | ((with_reducible refine gate_dstIn (N := 82) rfl ?_); refine ev_loadSIn B17 rfl 81 _ rfl rfl Tryd.underlying81 rfl (by kernel_rfl) ?_)
         | ((with_reducible refine gate_dstIn (N := 83) rfl ?_); refine ev_litNIn HB rfl rfl #[.int .u64 SW, .int .u64 BW, .int .u64 PW, .int .u64 WW] 81 ?hr ?_; (case hr => first | (go_simp; done) | (go_simp; rfl)); intro gl w18 G_gl B_gl HB18 K_gl KO18; have ho18 := row_below RO.out K_gl.out; have b718 := B7.below K_gl.out)
         | ((with_reducible refine gate_dstIn (N := 84) rfl ?_); refine ev_appendNIn HB18 rfl _ _ 77 81 (.agg #[.int .u64 0, .int .u64 0, .int .u64 0, .int .u64 0]) 4 32 rfl Tryd.underlying77 (by kernel_rfl) rfl (by decide) (by decide) v pre.length _ rfl ho18 gl [.int .u64 SW, .int .u64 BW, .int .u64 PW, .int .u64 WW] rfl B_gl rfl (by intro u hu; simp at hu; rcases hu with rfl | rfl | rfl | rfl <;> rfl) HL.out ?_; intro v8 w19 ho19 HB19 K19 KO19 FV; obtain ⟨g', cap', rfl⟩ := FV.out; have b719 := b718.appendedN (by decide) ho18 K19)
         | ((with_reducible refine gate_In (Op.store 77 (.tmp 7) (.tmp 84)) rfl ?_); refine ev_store1In (i := 0) HB19 b719 GE_g7 rfl 77 _ _ rfl rfl _ rfl (by simp) (by kernel_rfl) rfl ?_; intro w20 B20 HB20 K20 KO20))
        have E20 := ((E.below K_gl.out).appendedN PL.out.2.1 ho18 K19).other K20 PL.out.2.2
        have R120 := row_other (row_appended (row_below R1.out K_gl.out) (by decide) ho18 K19) b719 (by decide) K20
        have R220 := row_other (row_appended (row_below R2.out K_gl.out) (by decide) ho18 K19) b719 (by decide) K20
        have O20 := row_other ho19 b719 (by decide) K20
        have hszF : W.heap.size ≤ w20.heap.size := Nat.le_trans HZ'.out (Nat.le_trans K17.out.1 (Nat.le_trans K_gl.out.size (Nat.le_trans K19.out.1 K20.out.1)))
        refine ⟨(((((KO'.out.trans KO17.out).trans KO18.out).trans KO19.out).trans KO20.out)).from _, Keep2.of_blk (HI.out.bs.out _ PM.out.2.2.2.2.2.1) (HI.out.bs.out _ PM.out.2.2.2.2.2.2) (E20.out _ PM.out.2.2.2.2.2.1) (E20.out _ PM.out.2.2.2.2.2.2) hszF, E20, R120, R220, ⟨_, B20, ?_⟩, HB20, Nat.le_trans HI.out.sz hszF⟩
        rw [flatR_snoc, ROW.out, List.length_append]
        exact O20
       exact AllReadyL.nil
      exact AllReadyL.nil
     exact AllReadyL.nil
    exact AllReadyL.nil
  case done =>
   rintro D ys W hD rfl hI hK
   obtain ⟨v, b7, ho⟩ := hI.out
   have c7 := b7.cell (i := 0) rfl
   have HB := hI.hb
   have HD := Aside0.mk hD
   have HKD := Aside0.mk hK
   clear hK hD
   gi_wp2
   have hg := grownBy_putObj' W D (.deferred none)
   have hr : ∀ r, some D = some r → ∃ o : Obj, W.heap[r]? = some o ∧ o.isCells = false := fun r e => by
    cases e
    exact ⟨_, HKD.out, rfl⟩
   have hle : w.heap.size ≤ D := Nat.le_trans HBW.le HD.out
   refine ⟨by simp, .inl ⟨_, _, rfl, run_takeDeferred HKD.out, ?_⟩⟩
   refine ⟨_, results_tmp rfl _ _ _, v, rfl, ?_, (HB.kept hg hle (fun r e => by cases e; exact Nat.le_refl _)).out⟩
   have h1 := row_kept ho hg hr
   rw [flatR_all, List.length_finRange] at h1
   exact h1
  case stop =>
   rintro D c pre W _ _ h _
   exact h.elim
theorem marks_look.calls (a0 : ByteArray) (r : List S81) (w : World) (h : marks_look.f a0 = some r) :
  Calls Tryd.prog 37 #[.string a0] w fun e w' => ∃ v : Value, e = .returned v ∧ Kd.R k81 81 w' w.heap.size (fun _ => True) v r ∧ Below w.heap.size w w' := by
 unfold marks_look.f at h
 by_cases hs : a0.size ≤ 281474976702464
 case neg => rw [if_neg hs] at h; cases h
 rw [if_pos hs] at h
 simp only [Option.some.injEq] at h
 subst h
 refine (marks_look.walk a0 w hs).mono ?_
 rintro e w' ⟨v, rfl, hrow, hb⟩
 refine ⟨v, rfl, ⟨fun _ _ => trivial, _, ?_, lookL_reps (fun k => k81_mkM _ _ _ (rowS a0 k)) _⟩, hb⟩
 rw [show (lookL a0).length = nwords a0.size by simp [lookL]]
 exact hrow
end


end Go.Proofs.YtfihkkjkifkemaaDoor.PS
end
-- PSx5
section
namespace Go.Proofs.YtfihkkjkifkemaaDoor.PS
open Go.RowKit Go.Proofs.YtfihkkjkifkemaaDoorW.PrintWords Go.Proofs.YtfihkkjkifkemaaDoorW.PrintLast Go.Proofs.YtfihkkjkifkemaaDoorW.PrintMore
attribute [local go_sem] max2_int min2_int max_two min_two max_three min_three max_four min_four   -- for this text's walks alone
set_option linter.unusedVariables false
set_option linter.unusedSimpArgs false

section
open Go.Proofs Go.Proofs.YtfihkkjkifkemaaDoorQ
set_option maxHeartbeats 1000000 in
theorem bits_TrailingZeros64.core (x k idx : Nat) (w : World) (hx0 : ((x : Int) == 0) = false)
    (key : IntKind.u64.wrap (Go.bits BinOp.and IntKind.u64 (x : Int) (IntKind.u64.wrap (-(x : Int))) * 285870213051353865) / 288230376151711744 = (idx : Int))
    (hi : idx < 64) (hk : k < 64) (hcell : w.cell? ⟨0, idx, none⟩ = some (.int .u8 k)) :
    Calls Tryd.prog 55 #[.int .u64 x] w fun e w' => e = .returned (.int .i64 k) ∧ w' = w := by
  go_enter Tryd.func55, Tryd.ntmps55
  go_wp2_with (simp only [key])
  go_ret
  exact ⟨rfl, rfl⟩
/-- The place of the lowest set bit; the table stands in block 0. -/
theorem bits_TrailingZeros64.calls (x : Nat) (hx : x < 18446744073709551616) (hx0 : x ≠ 0) (w : World) (hT : TabAt 0 Lib.deBruijn64tab w) :
    Calls Tryd.prog 55 #[.int .u64 x] w fun e w' => e = .returned (.int .i64 (Lib.ctz 64 x)) ∧ w' = w := by
  obtain ⟨hlow, hk⟩ := Lib.lowest_bit 64 x hx0 hx
  obtain ⟨hi, htab⟩ := Lib.deBruijn64_at _ hk
  have hcell := hT _ hi
  rw [htab] at hcell
  exact bits_TrailingZeros64.core x _ _ w (by simp; omega) (tz64_key x _ hx hx0 hlow) hi hk hcell
/-- Of no set bit. -/
theorem bits_TrailingZeros64.zero (w : World) : Calls Tryd.prog 55 #[.int .u64 0] w fun e w' => e = .returned (.int .i64 64) ∧ w' = w := by
  go_enter Tryd.func55, Tryd.ntmps55
  go_wp2
  go_ret
  exact ⟨rfl, rfl⟩
end


section
open Go.Proofs.YtfihkkjkifkemaaDoorQ Go.Proofs.YtfihkkjkifkemaaDoorM Go.Shelf
attribute [local go_sem] Oper.semAt_some
theorem tz_any (x : BitVec 64) (w : World) (hT : TabOk w) :
    Calls Tryd.prog 55 #[.int .u64 (iv x)] w fun e w' => e = .returned (.int .i64 (tzW x : Int)) ∧ w = w' := by
  unfold tzW
  by_cases h : x = 0#64
  · subst h
    exact (bits_TrailingZeros64.zero w).mono fun e w' hw => ⟨by rw [hw.1]; rfl, hw.2.symm⟩
  · have h0 : x.toNat ≠ 0 := fun e => h (BitVec.eq_of_toNat_eq (by rw [e]; rfl))
    rw [if_neg h]
    exact (bits_TrailingZeros64.calls x.toNat x.isLt h0 w hT.out).mono fun e w' hw => ⟨hw.1, hw.2.symm⟩
theorem iv_shr (q : Nat → Bool) (i : Nat) (h : i ≤ 64) : iv (word q) / 2 ^ min i 64 = iv (word q >>> i) := by
  rw [Nat.min_eq_left h]
  unfold iv
  rw [BitVec.toNat_ushiftRight, Nat.shiftRight_eq_div_pow]
  simp
theorem iv_not (x : BitVec 64) : bits .xor .u64 18446744073709551615 (iv x) = iv (~~~ x) := by
  rw [show (18446744073709551615 : Int) = iv (BitVec.allOnes 64) from by decide, bits_xor]
  apply congrArg
  rw [← BitVec.allOnes_xor]
theorem wrap_sum (a b c : Nat) (h : c = a + b) (hc : c ≤ 128) : wrap64 ((a : Int) + (b : Int)) = (c : Int) := by
  subst h
  unfold wrap64
  omega
theorem fuel_next {i a m fu : Nat} (h : i ≤ a ∧ a < 64 ∧ 0 < m ∧ a + m ≤ 64 ∧ 65 - i ≤ fu + 1) : 65 - (a + m) ≤ fu := by omega
theorem less_next {i a m fu : Nat} (h : i ≤ a ∧ a < 64 ∧ 0 < m ∧ a + m ≤ 64 ∧ 65 - i ≤ fu + 1) : 64 - (a + m) < 64 - i := by omega
theorem tz_shr (q : Nat → Bool) (i : Nat) : tzW (word q >>> i) ≤ 64 := by
  rw [word_ushr]
  rcases tzW_word (fun j => decide (i + j < 64) && q (i + j)) with h | h
  · omega
  · omega
set_option maxHeartbeats 4000000 in
set_option maxRecDepth 100000 in
theorem words_Runs_1.walk (F : Fence) (HF : Aside0 (F = Fence.wide)) (n : Nat) (hn : 3 ≤ n) (l g1 : Nat) (q : Nat → Bool) (J Jx : List (Nat × Nat) → World → Prop) (W0 : World)
    (hY : ∀ pre x W, J pre W → pre ++ [x] <+: runsF q 65 0 → YieldAt F (n - 1) Tryd.prog l #[.int .i64 (x.1 : Int), .int .i64 (x.2 : Int)] W fun e W' =>
      (e = .returned (.bool true) ∧ J (pre ++ [x]) W' ∧ Keep2 0 0 W W') ∨ (e = .returned (.bool false) ∧ Jx (pre ++ [x]) W'))
    (hB : ∀ pre W, J pre W → Blk W g1 #[.int .u64 (iv (word q))] 79) (hT : TabOk W0) (h0 : J [] W0) :
    CallsIn F n Tryd.prog 59 #[.func (.yield l) #[] #[], .pointer (some ⟨g1, 0, none⟩)] W0 fun e W' => (∃ v, e = .returned v) ∧
      ((∃ ys, ys = runsF q 65 0 ∧ J ys W') ∨ (∃ pre, pre <+: runsF q 65 0 ∧ Jx pre W')) := by
  have HY := Aside0.mk hY
  have HJ0 := Aside0.mk h0
  have HT := Aside0.mk hT
  have HBB := Aside0.mk hB
  clear hY h0 hT hB
  have f0 := wide_fn HF 55
  have n1 : 1 ≤ n := by omega
  have n2 : 1 ≤ n - 1 := by omega
  have hro := wide_round HF
  refine callsIn_of_wp Tryd.func59 rfl (wide_fn HF _) ?_ (wide_round HF)
  simp only [Tryd.ntmps59, List.size_toArray, List.length_cons, List.length_nil, Nat.reduceAdd, Nat.reduceSub, Array.replicate_succ, Array.replicate_zero, List.push_toArray, List.append_toArray, List.nil_append, List.cons_append]
  gi_wp2
  gi_loopw [3] (fun v wr => ∃ (i fu : Nat) (pre : List (Nat × Nat)), v = .int .i64 (i : Int) ∧ Aside0 (i ≤ 64 ∧ 65 - i ≤ fu ∧ pre ++ runsF q fu i = runsF q 65 0) ∧ Aside0 (J pre wr) ∧ Aside0 (TabOk wr)) (fun v _ => 64 - (intOf v).toNat)
  case atStart => exact ⟨0, 65, [], rfl, ⟨by decide, by decide, rfl⟩, HJ0, HT⟩
  case round =>
    clear HJ0 HT
    obtain ⟨i, fu, pre, rfl, HI, HJi, HT⟩ := hrel
    have B1 := HBB.out _ _ HJi.out
    have c1 := B1.cell (i := 0) rfl
    have HE := HI.out
    by_cases hz : i < 64
    · have hz0 : decide ((i : Int) < 64) = true := decide_eq_true (by omega)
      have RA := Aside0.mk (runs_at q i (by omega))
      obtain ⟨d, hd⟩ : ∃ d, d = tzW (word q >>> i) := ⟨_, rfl⟩
      obtain ⟨a, ha⟩ : ∃ a, a = i + d := ⟨_, rfl⟩
      have hd64 : d ≤ 64 := by rw [hd]; exact tz_shr q i
      have TZ1 : Aside0 (∀ w, TabOk w → Calls Tryd.prog 55 #[.int .u64 (iv (word q) / 2 ^ min i 64)] w fun e w' => e = .returned (.int .i64 (d : Int)) ∧ w = w') := ⟨fun w hw => by
        rw [iv_shr q i (by omega), hd]
        exact tz_any _ w hw⟩
      have hw1 : wrap64 ((i : Int) + (d : Int)) = (a : Int) := wrap_sum i d a ha (by omega)
      obtain ⟨fu, rfl⟩ : ∃ m, fu = m + 1 := ⟨fu - 1, by omega⟩
      by_cases h64 : a < 64
      · have ha0 : decide (64 ≤ (a : Int)) = false := decide_eq_false (by omega)
        have ha1 : (0 : Int) ≤ (a : Int) := by omega
        obtain ⟨m, hm⟩ : ∃ m, m = tzW (~~~ (word q >>> a)) := ⟨_, rfl⟩
        have TZ2 : Aside0 (∀ w, TabOk w → Calls Tryd.prog 55 #[.int .u64 (bits .xor .u64 18446744073709551615 (iv (word q) / 2 ^ min a 64))] w fun e w' => e = .returned (.int .i64 (m : Int)) ∧ w = w') := ⟨fun w hw => by
          rw [iv_shr q a (by omega), iv_not, hm]
          exact tz_any _ w hw⟩
        have hL := HE.2.2
        rw [runsF_succ, ← hd, ← ha, if_neg (by omega), ← hm] at hL
        have hqa : q a = true := by
          rcases RA.out with ⟨h1, _⟩ | ⟨_, h2, _⟩
          · rw [← hd, ← ha] at h1
            omega
          · rw [← hd, ← ha] at h2
            exact h2
        have hlen := runs_len q a h64 hqa
        rw [← hm] at hlen
        have hw2 : wrap64 ((a : Int) + (m : Int)) = ((a + m : Nat) : Int) := wrap_sum a m _ rfl (Nat.le_trans hlen.2.1 (by decide))
        have HN : Aside0 (i ≤ a ∧ a < 64 ∧ 0 < m ∧ a + m ≤ 64 ∧ 65 - i ≤ fu + 1) := ⟨⟨by omega, h64, hlen.1, hlen.2.1, HE.2.1⟩⟩
        have HL2 := Aside0.mk hL
        have hpx : pre ++ [(a, m)] <+: runsF q 65 0 := by
          rw [← hL]
          exact ⟨runsF q fu (a + m), by rw [List.append_assoc]; rfl⟩
        obtain ⟨fn, tmps, assign, body, hy, hR⟩ := HY.out pre (a, m) wr HJi.out hpx
        have HPX := Aside0.mk hpx
        have HR := Aside0.mk hR
        dsimp only at hy
        clear hz HE h64 hL hlen hqa hpx hR ha hd hm hd64 RA
        gi_wp2_with (first
          | (gi_at_call 55; refine (callsIn_of HF (TZ1.out _ HT.out)).mono ?_; rintro e w3 ⟨rfl, rfl⟩; clear TZ1)
          | (gi_at_call 55; refine (callsIn_of HF (TZ2.out _ HT.out)).mono ?_; rintro e w3 ⟨rfl, rfl⟩; clear TZ2))
        refine HR.out.mono ?_
        rintro e W6 (⟨rfl, hJ6, hk6⟩ | ⟨rfl, hJx6⟩)
        · have HT6 := Aside0.mk (HT.out.keep hk6)
          have HJ6 := Aside0.mk hJ6
          clear hJ6 hk6
          gi_wp2
          go_roundw
          case rel => exact ⟨a + m, fu, pre ++ [(a, m)], by rw [hw2], ⟨HN.out.2.2.2.1, fuel_next HN.out, by rw [List.append_assoc]; exact HL2.out⟩, HJ6, HT6⟩
          case measure =>
            rw [hw2]
            show 64 - (a + m) < 64 - i
            exact less_next HN.out
        · have HJ6 := Aside0.mk hJx6
          clear hJx6
          gi_wp2
          refine bodyPost_ret (results_none rfl _ _ _) rfl ?_
          exact ⟨⟨_, rfl⟩, .inr ⟨_, HPX.out, HJ6.out⟩⟩
      · have ha0 : decide (64 ≤ (a : Int)) = true := decide_eq_true (by omega)
        have hr : runsF q (fu + 1) i = [] := by unfold runsF; rw [← hd, ← ha]; exact if_pos (by omega)
        have hL := HE.2.2
        rw [hr, List.append_nil] at hL
        have HL := Aside0.mk hL
        clear hz HE hr hL ha hd h64 hd64 RA
        gi_wp2_with (first
          | (gi_at_call 55; refine (callsIn_of HF (TZ1.out _ HT.out)).mono ?_; rintro e w3 ⟨rfl, rfl⟩))
        refine bodyPost_ret (results_none rfl _ _ _) rfl ?_
        exact ⟨⟨_, rfl⟩, .inl ⟨_, HL.out, HJi.out⟩⟩
    · have hz0 : decide ((i : Int) < 64) = false := decide_eq_false (by omega)
      have e64 : i = 64 := by omega
      subst e64
      obtain ⟨fu, rfl⟩ : ∃ m, fu = m + 1 := ⟨fu - 1, by omega⟩
      have hr : runsF q (fu + 1) 64 = [] := by unfold runsF; rw [if_pos (Nat.le_add_right _ _)]
      have hL := HE.2.2
      rw [hr, List.append_nil] at hL
      have HL := Aside0.mk hL
      clear hz HE hr hL
      gi_wp2
      go_end0
      exact ⟨⟨_, rfl⟩, .inl ⟨_, HL.out, HJi.out⟩⟩
/-- The runs of a word's bits, one by one. -/
theorem words_Runs_1.stopsO (F : Fence) (HF : Aside0 (F = Fence.wide)) (n : Nat) (hn : 3 ≤ n) (g1 : Nat) (q : Nat → Bool) (w : World)
    (B1 : Blk w g1 #[.int .u64 (iv (word q))] 79) (hT : TabOk w) :
    SeqO F n Tryd.prog 59 #[.pointer (some ⟨g1, 0, none⟩)] (fun x : Nat × Nat => #[.int .i64 (x.1 : Int), .int .i64 (x.2 : Int)]) (Keep2 0 g1) (fun ys => ys = runsF q 65 0) (fun pre => pre <+: runsF q 65 0) w := by
  intro l J Jx W hW _ _ _ _ hY h0
  have P0 := hT.pos
  have L1 := B1.lt
  refine (words_Runs_1.walk F HF n hn l g1 q (fun pre A => J [] pre A ∧ Blk A g1 #[.int .u64 (iv (word q))] 79) Jx W (fun pre x A hA hp => (hY [] pre x A (fun k hk => (List.not_mem_nil hk).elim) hA.1 hp).mono fun e A' h => h.2.2.imp (fun h => ⟨h.1, ⟨h.2.1, ⟨h.2.2.2.1.trans hA.2.out⟩⟩, ⟨h.2.2.1, h.2.2.1, h.2.2.2.2⟩⟩) id) (fun pre A h => h.2) (hT.step hW) ⟨h0, B1.below hW⟩).mono ?_
  rintro e W' ⟨hv, (⟨ys, h1, h2⟩ | h)⟩
  · exact ⟨hv, .inl ⟨ys, [], h1, fun k hk => (List.not_mem_nil hk).elim, h2.1⟩⟩
  · exact ⟨hv, .inr h⟩
end


open Go.Proofs.YtfihkkjkifkemaaDoorQ Go.Proofs.YtfihkkjkifkemaaDoorM in
set_option maxHeartbeats 4000000 in
set_option maxRecDepth 100000 in
theorem words_Runs.calls (x : Int) (w : World) :
    Calls Tryd.prog 46 #[.int .u64 x] w fun e w' => ∃ g1 : Nat, e = .returned (.func (.func 59) #[] #[.pointer (some ⟨g1, 0, none⟩)]) ∧
      w.heap.size ≤ g1 ∧ Blk w' g1 #[.int .u64 x] 79 ∧ BelowH w w' := by
  have HB := BelowH.refl w
  go_enter Tryd.func46, Tryd.ntmps46
  go_wp2_with (first | ((with_reducible refine gate_dst (N := 1) rfl ?_); refine ev_alloc HB rfl (#[.int .u64 x]) 79 ?hr ?_; (case hr => first | (go_simp; done) | (go_simp; rfl)); intro g1 w1 G_g1 GE_g1 B_g1 HBn K_g1; clear HB; have HB := HBn; clear HBn))
  go_ret
  exact ⟨g1, rfl, GE_g1.out, B_g1, HB⟩


section
open Go.Proofs.YtfihkkjkifkemaaDoorQ Go.Proofs.YtfihkkjkifkemaaDoorM Go.Shelf
attribute [local go_sem] Oper.semAt_some
/-- The encoding of a span. -/
def wEnc (x : Nat × Nat) : Array Value := #[.agg #[.int .i64 (x.1 : Int), .int .i64 (x.2 : Int)]]
/-- Between two yields. -/
structure WoS (J : List Nat → List (Nat × Nat) → World → Prop) (X : List Nat) (ts : List (Nat × Nat)) (o : Option Nat) (gy gf g1 gr l nw b : Nat) (cur : Array Value) (s : ByteArray) (Ds : List Nat) (W : World) : Prop where mk ::
  j : J X ts W
  by_ : Blk W gy #[.func (.yield l) #[] #[]] 89
  bf : Blk W gf #[.int .i64 (fromI o)] 3
  bs : Blk W g1 #[.string s] 9
  br : nw ≠ 0 → Blk W gr cur 81
  ht : TabOk W
  mk_ : Marks b Ds W
  mem : gy ∈ X ∧ gf ∈ X ∧ gr ∈ X
  ne : g1 < b ∧ 0 < b ∧ gy ≠ gf ∧ (nw ≠ 0 → gr ≠ gf) ∧ b ≤ gf
  sz : b ≤ W.heap.size
section
variable {J : List Nat → List (Nat × Nat) → World → Prop} {X : List Nat} {ts : List (Nat × Nat)} {o : Option Nat} {gy gf g1 gr l nw b : Nat} {cur : Array Value} {s : ByteArray} {Ds : List Nat} {W W' : World}
theorem WoS.kept (h : WoS J X ts o gy gf g1 gr l nw b cur s Ds W) (hJ : ∀ X, OwnFrom b (J X)) {m : Nat} (hm : b ≤ m) (hD : ∀ D ∈ Ds, D < m) {row : Option Nat} (hg : W.grownBy W' row) (hr : ∀ r, row = some r → m ≤ r ∧ ∃ o : Obj, W.heap[r]? = some o ∧ o.isCells = false) : WoS J X ts o gy gf g1 gr l nw b cur s Ds W' := by
  have hr' : ∀ r, row = some r → ∃ o : Obj, W.heap[r]? = some o ∧ o.isCells = false := fun r e => (hr r e).2
  exact ⟨hJ X _ _ _ _ h.j hg (fun r e => ⟨Nat.le_trans hm (hr r e).1, (hr r e).2⟩), h.by_.kept hg hr', h.bf.kept hg hr', h.bs.kept hg hr', fun h0 => (h.br h0).kept hg hr', h.ht.kept hg hr', h.mk_.grown hg hD (fun r e => (hr r e).1), h.mem, h.ne, Nat.le_trans h.sz hg.size⟩
theorem WoS.below (h : WoS J X ts o gy gf g1 gr l nw b cur s Ds W) (hJ : ∀ X, OwnFrom b (J X)) (hb : Below W.heap.size W W') : WoS J X ts o gy gf g1 gr l nw b cur s Ds W' :=
  h.kept hJ h.sz (fun D hD => h.mk_.lt hD) (row := none) ⟨hb.os, hb.tape, hb.output, hb.size, fun k hk _ => hb.block k hk⟩ (fun r e => by cases e)
theorem WoS.turned {X' : List Nat} (h : WoS J (X' ++ X) ts o gy gf g1 gr l nw b cur s Ds W) (hA : ∀ X pre W1 W2, (∀ k ∈ X, b ≤ k) → J X pre W1 → Turned X W1 W2 → J X pre W2) {m : Nat} (hm : b ≤ m) (hD : ∀ D ∈ Ds, D < m) (hX' : ∀ k ∈ X', m ≤ k) (hXb : ∀ k ∈ X, b ≤ k) (hX : gy < m ∧ gf < m ∧ gr < m) (ht : Turned X' W W') : WoS J (X' ++ X) ts o gy gf g1 gr l nw b cur s Ds W' := by
  have z := h.ne
  exact ⟨hA _ _ _ _ (fun k hk => (List.mem_append.1 hk).elim (fun hk => Nat.le_trans hm (hX' k hk)) (hXb k)) h.j (ht.mono fun k hk => List.mem_append_left _ hk), h.by_.turned ht (not_mem_above hX' hX.1), h.bf.turned ht (not_mem_above hX' hX.2.1), h.bs.turned ht (not_mem_above hX' (by omega)), fun h0 => (h.br h0).turned ht (not_mem_above hX' hX.2.2), h.ht.heap (ht.block 0 h.ht.pos (not_mem_above hX' (by omega))), h.mk_.same (fun D hD' => ht.block D (h.mk_.lt hD') (not_mem_above hX' (hD D hD'))), h.mem, h.ne, Nat.le_trans h.sz ht.size⟩
/-- The beginning of the open one is laid anew. -/
theorem WoS.put (h : WoS J X ts o gy gf g1 gr l nw b cur s Ds W) (hA : ∀ X pre W1 W2, (∀ k ∈ X, b ≤ k) → J X pre W1 → Turned X W1 W2 → J X pre W2) (hXb : ∀ k ∈ X, b ≤ k) {wc : World} (hc : BelowH wc W) (hc' : BelowH wc W') (K : Aside0 (W.heap.size ≤ W'.heap.size ∧ ∀ k, k ≠ gf → W'.heap[k]? = W.heap[k]?)) {o' : Option Nat} (B : Blk W' gf #[.int .i64 (fromI o')] 3) : WoS J X ts o' gy gf g1 gr l nw b cur s Ds W' := by
  have z := h.ne
  have zf := h.ne.2.2.2.2
  have NT : Turned X W W' := ⟨hc'.out.os.trans hc.out.os.symm, hc'.out.tape.trans hc.out.tape.symm, hc'.out.output.trans hc.out.output.symm, K.out.1, fun k hk hn => K.out.2 k fun c => hn (c ▸ h.mem.2.1)⟩
  exact ⟨hA _ _ _ _ hXb h.j NT, h.by_.other K z.2.2.1, B, h.bs.other K (by omega), fun h0 => (h.br h0).other K (z.2.2.2.1 h0), h.ht.other (by omega) K, h.mk_.same (fun D hD => K.out.2 D (fun e => by
    subst e
    have := (h.mk_.at_ D hD).2
    rw [h.bf.out] at this
    cases this)), h.mem, h.ne, Nat.le_trans h.sz K.out.1⟩
/-- Behind a yield. -/
theorem WoS.told (h : WoS J X ts o gy gf g1 gr l nw b cur s Ds W) {ts2 : List (Nat × Nat)} (hkf : KeepsFrom b W W') (hx : ∀ k ∈ X, W'.heap[k]? = W.heap[k]?) (hk2 : Keep2 0 g1 W W') (hJ2 : J X ts2 W') : WoS J X ts2 o gy gf g1 gr l nw b cur s Ds W' :=
  ⟨hJ2, ⟨(hx gy h.mem.1).trans h.by_.out⟩, ⟨(hx gf h.mem.2.1).trans h.bf.out⟩, ⟨hk2.2.1.trans h.bs.out⟩, fun h0 => ⟨(hx gr h.mem.2.2).trans (h.br h0).out⟩, h.ht.keep hk2, h.mk_.keeps hkf (Nat.le_refl _), h.mem, h.ne, Nat.le_trans h.sz hkf.size⟩
theorem WoS.ts_eq {ts2 : List (Nat × Nat)} (h : WoS J X ts o gy gf g1 gr l nw b cur s Ds W) (e : ts = ts2) : WoS J X ts2 o gy gf g1 gr l nw b cur s Ds W := e ▸ h
theorem WoS.mark (h : WoS J X ts o gy gf g1 gr l nw b cur s Ds W) {D : Nat} (h1 : b ≤ D) (h2 : W.heap[D]? = some (.deferred (some []))) (h3 : D ∉ Ds) : WoS J X ts o gy gf g1 gr l nw b cur s (D :: Ds) W :=
  ⟨h.j, h.by_, h.bf, h.bs, h.br, h.ht, h.mk_.cons h1 h2 h3, h.mem, h.ne, h.sz⟩
end
/-- A list of blocks that lie from b on. -/
def InX (b : Nat) (X : List Nat) (W : World) : Prop := ∀ k ∈ X, b ≤ k ∧ k < W.heap.size
theorem InX.grow {b : Nat} {X : List Nat} {W W' : World} (h : InX b X W) (hs : W.heap.size ≤ W'.heap.size) : InX b X W' := fun k hk => ⟨(h k hk).1, Nat.lt_of_lt_of_le (h k hk).2 hs⟩
theorem InX.app {b m : Nat} {X Y : List Nat} {W W1 : World} (hX : ∀ k ∈ X, m ≤ k ∧ k < W.heap.size) (hm : b ≤ m) (hY : InX b Y W1) (hs : W1.heap.size ≤ W.heap.size) : InX b (X ++ Y) W := fun k hk => (List.mem_append.1 hk).elim (fun hk => ⟨Nat.le_trans hm (hX k hk).1, (hX k hk).2⟩) (fun hk => (hY.grow hs) k hk)
/-- Between two runs of one row. -/
structure WoR (J : List Nat → List (Nat × Nat) → World → Prop) (X' Z1 : List Nat) (b64 : Nat) (rs : List (Nat × Nat)) (o1 : Option Nat) (ts1 : List (Nat × Nat)) (gy gf g1 gr l nw b : Nat) (cur : Array Value) (s : ByteArray) (Ds : List Nat) (g4 : Nat) (kk : Int) (m : Nat) (pre : List (Nat × Nat)) (W : World) : Prop where mk ::
  out : ∃ tp op, RowSt b64 rs o1 pre tp op ∧ WoS J (X' ++ Z1) (ts1 ++ tp) op gy gf g1 gr l nw b cur s Ds W
  b4 : Blk W g4 #[.int .i64 kk] 3
  sz : m ≤ W.heap.size
/-- How the row may be left. -/
def WoX (J : List Nat → List (Nat × Nat) → World → Prop) (Jx : List (Nat × Nat) → World → Prop) (b64 : Nat) (rs : List (Nat × Nat)) (o1 : Option Nat) (ts1 : List (Nat × Nat)) (gy gf g1 gr l nw b : Nat) (cur : Array Value) (s : ByteArray) (Ds : List Nat) (c : Code) (W : World) : Prop :=
  (c = .ret ∧ (∃ ts, ts <+: spansW s ∧ Jx ts W) ∧ Marks b Ds W) ∨
  (c = .exit 1 ∧ ∃ X2, InX b X2 W ∧ WoS J X2 (ts1 ++ (rowT b64 rs o1).1) (rowT b64 rs o1).2 gy gf g1 gr l nw b cur s Ds W)
theorem rowsW_get (s : ByteArray) (k j : Nat) (hj : j < 4) : ∀ n, k < n → ((List.range n).flatMap (rowN s))[k * 4 + j]? = (rowN s k)[j]?
  | 0, h => by omega
  | n + 1, h => by
    have hl : ∀ m, ((List.range m).flatMap (rowN s)).length = 4 * m := fun m => by
      induction m with
      | zero => rfl
      | succ m ih =>
        rw [List.range_succ, List.flatMap_append, List.length_append, ih]
        simp [rowN]
        omega
    rw [List.range_succ, List.flatMap_append]
    by_cases e : k = n
    · subst e
      rw [List.getElem?_append_right (by rw [hl]; omega), hl, show k * 4 + j - 4 * k = j by omega]
      simp
    · rw [List.getElem?_append_left (by rw [hl]; omega)]
      exact rowsW_get s k j hj n (by omega)
set_option maxHeartbeats 4000000 in
set_option maxRecDepth 100000 in
theorem marks_Words_1.stops (F : Fence) (HF : Aside0 (F = Fence.wide)) (n : Nat) (hn : 7 ≤ n) (g1 : Nat) (s : ByteArray) (hs : s.size ≤ 1099511627776) (w : World)
    (B1 : Blk w g1 #[.string s] 9) (hT : TabOk w) :
    SeqO F n Tryd.prog 45 #[.pointer (some ⟨g1, 0, none⟩)] wEnc (Keep2 0 g1) (fun ys => ys = spansW s) (fun pre => pre <+: spansW s) w := by
  intro l J Jx W0 hW hJo hJxo hE hAb hY h0
  obtain ⟨R0, hR0⟩ : ∃ R0 : Ending → World → Prop, R0 = fun e W' => (∃ v, e = .returned v) ∧ ((∃ xs X, xs = spansW s ∧ (∀ k ∈ X, W0.heap.size ≤ k ∧ k < W'.heap.size) ∧ J X xs W') ∨ (∃ pre, pre <+: spansW s ∧ Jx pre W')) := ⟨_, rfl⟩
  rw [← hR0]
  have HR0 := Aside0.mk hR0
  clear hR0
  have HAB := Aside0.mk hAb
  have HY := Aside0.mk hY
  have HJ0 := Aside0.mk h0
  have HT := Aside0.mk (hT.step hW)
  have HJO := Aside0.mk hJo
  have HJXO := Aside0.mk hJxo
  have HE := Aside0.mk hE
  have HS := Aside0.mk hs
  have D1 := B1.below hW
  have HG1 := Aside0.mk (And.intro (Nat.lt_of_lt_of_le B1.lt hW.size) (hT.step hW).pos)
  obtain ⟨nw, hnw⟩ : ∃ nw, nw = nwords s.size := ⟨_, rfl⟩
  have HNW := Aside0.mk hnw
  have hnw1 : (nw : Int) ≤ 17179869184 := by rw [hnw]; unfold nwords; omega
  clear hAb hY h0 hT hW hJo hJxo hE hs B1 hnw
  have f1 := wide_fn HF 37
  have f2 := wide_fn HF 46
  have f3 := wide_fn HF 59
  have n1 : 1 ≤ n := by omega
  have n2 : 1 ≤ n - 1 := by omega
  have n3 : 1 ≤ n - 1 - 1 := by omega
  have hro := wide_round HF
  have HB := BelowH.refl W0
  refine callsIn_of_wp_marks Tryd.func45 rfl (wide_fn HF _) ?_ hro
  simp only [Tryd.ntmps45, List.size_toArray, List.length_cons, List.length_nil, Nat.reduceAdd, Nat.reduceSub, Array.replicate_succ, Array.replicate_zero, List.push_toArray, List.append_toArray, List.nil_append, List.cons_append]
  gi_wp2_with (first
    | ((with_reducible refine gate_dstIn (N := 2) rfl ?_); refine ev_allocIn HB rfl rfl (#[.func (.yield l) #[] #[]]) 89 ?hr ?_; (case hr => first | (go_simp; done) | (go_simp; rfl)); intro gy w3 G_gy GE_gy B_gy HBn K_gy KO_w3; clear HB; have HB := HBn; clear HBn))
  refine wpIn_scope HF ?_
  gi_wp2_with (first
    | ((with_reducible refine gate_dstIn (N := 3) rfl ?_); refine ev_allocIn HB rfl rfl (#[.int .i64 0]) 3 ?hr ?_; (case hr => first | (go_simp; done) | (go_simp; rfl)); intro gf w4 G_gf GE_gf B_gf HBn K_gf KO_w4; clear HB; have HB := HBn; clear HBn)
    | ((with_reducible refine gate_In (Op.store 3 (.tmp 3) (.const (.int .i64 (-1)))) rfl ?_); refine ev_store1In (i := 0) HB B_gf GE_gf rfl 3 _ _ rfl rfl (.int .i64 (-1)) rfl (by simp) (by kernel_rfl) rfl ?_; intro w5 B5 HBn K_w5 KO_w5; clear HB; have HB := HBn; clear HBn))
  refine wpIn_label ?_
  have Nyf : gy ≠ gf := by have := B_gy.lt; have := G_gf.out; omega
  have Y5 := (B_gy.below K_gf.out).other K_w5 Nyf
  have E1 := D1.below HB.out
  have c1 := E1.cell (i := 0) rfl
  have hlk := marks_look.walk s w5 (by have := HS.out; omega)
  rw [← HNW.out] at hlk
  have LK := Aside0.mk hlk
  clear hlk
  gi_wp2_with (first
    | (gi_at_call 37; refine (callsIn_of HF LK.out).mono ?_; rintro e w6 ⟨v, rfl, hrow, hb6⟩; have HR6 := Aside0.mk hrow; have HB6 := HB.step hb6; have HK6 := Aside0.mk hb6; obtain ⟨ad, cp, rfl⟩ := own_slice hrow; clear hrow hb6))
  have HO : Aside0 ((ad = none ∧ nw = 0) ∨ ∃ gr cur, ad = some ⟨gr, 0, none⟩ ∧ w5.heap.size ≤ gr ∧ Blk w6 gr cur 81 ∧ ∀ k j, k < nw → j < 4 → cur[k * 4 + j]? = (rowN s k)[j]?) := ⟨by
    rcases row_openN HR6.out with ⟨h1, h2⟩ | ⟨gr, cap, cur, h1, h2, h3, h4⟩
    · injection h1 with h1
      exact .inl ⟨h1, h2⟩
    · injection h1 with h1
      refine .inr ⟨gr, cur, h1, h2, h3, fun k j hk hj => ?_⟩
      have hg := rowsW_get s k j hj nw hk
      cases hx : (rowN s k)[j]? with
      | none => rw [List.getElem?_eq_none_iff] at hx; simp [rowN] at hx; omega
      | some u => rw [hx] at hg; exact h4 _ _ hg⟩
  obtain ⟨gr, cur, HO⟩ : ∃ gr cur, Aside0 (((ad = none ∧ nw = 0) ∧ gr = gf) ∨ (ad = some ⟨gr, 0, none⟩ ∧ w5.heap.size ≤ gr ∧ Blk w6 gr cur 81 ∧ ∀ k j, k < nw → j < 4 → cur[k * 4 + j]? = (rowN s k)[j]?)) := by
    rcases HO.out with h | ⟨gr, cur, h⟩
    · exact ⟨gf, #[], ⟨.inl ⟨h, rfl⟩⟩⟩
    · exact ⟨gr, cur, ⟨.inr h⟩⟩
  have HGET : Aside0 (nw ≠ 0 → ad = some ⟨gr, 0, none⟩ ∧ ∀ k j, k < nw → j < 4 → cur[k * 4 + j]? = (rowN s k)[j]?) := ⟨fun h0 => by
    rcases HO.out with ⟨⟨_, h⟩, _⟩ | ⟨h1, _, _, h3⟩
    · exact absurd h h0
    · exact ⟨h1, h3⟩⟩
  have F6 := B5.below HK6.out
  have Y6 := Y5.below HK6.out
  have X6 : ∃ X, InX W0.heap.size X w6 ∧ WoS J X [] none gy gf g1 gr l nw W0.heap.size cur s [] w6 := by
    have J6 : ∀ X, J X [] W0 → J X [] w6 := fun X h => HJO.out X [] W0 w6 none h ⟨HB6.out.os, HB6.out.tape, HB6.out.output, HB6.out.size, fun k hk _ => HB6.out.block k hk⟩ (fun r e => by cases e)
    have z1 := GE_gy.out
    have z2 := GE_gf.out
    have z3 := Y6.lt
    have z4 := F6.lt
    have z5 := HB.le
    have z6 := HB6.le
    have z7 := B5.lt
    have j2 := HE.out _ _ _ gf (HE.out _ _ _ gy HJ0.out GE_gy.out) GE_gf.out
    rcases HO.out with ⟨⟨h1, h2⟩, rfl⟩ | ⟨h1, h2, h3, h4⟩
    · refine ⟨[gr, gy], fun k hk => ?_, J6 _ j2, Y6, F6, E1.below HK6.out, fun h0 => absurd h2 h0, HT.out.step HB6.out, Marks.nil, ⟨by simp, by simp, by simp⟩, ⟨HG1.out.1, HG1.out.2, Nyf, fun h0 => absurd h2 h0, GE_gf.out⟩, z6⟩
      simp only [List.mem_cons, List.not_mem_nil, or_false] at hk
      rcases hk with rfl | rfl <;> omega
    · have z8 := h3.lt
      refine ⟨[gr, gf, gy], fun k hk => ?_, J6 _ (HE.out _ _ _ gr j2 (by omega)), Y6, F6, E1.below HK6.out, fun _ => h3, HT.out.step HB6.out, Marks.nil, ⟨by simp, by simp, by simp⟩, ⟨HG1.out.1, HG1.out.2, Nyf, fun _ => by omega, GE_gf.out⟩, z6⟩
      simp only [List.mem_cons, List.not_mem_nil, or_false] at hk
      rcases hk with rfl | rfl | rfl <;> omega
  obtain ⟨X, hX6, hI6⟩ := X6
  have I6 := Aside0.mk hI6
  have RX6 := Aside0.mk hX6
  clear hX6 hI6 HO LK HT B_gy K_gy KO_w3 KO_w4 KO_w5 B_gf K_gf G_gf G_gy B5 K_w5 Y5 E1 c1 D1 F6 Y6 HK6 HR6 HB HB6 HJ0 HG1 GE_gy GE_gf Nyf
  refine wpIn_loopM (fun m a W => ∃ (k : Nat) (X Ds : List Nat) (ts : List (Nat × Nat)) (o : Option Nat) (z11 : Int) (y4 y5 y6 y7 y12 y13 y14 y15 y16 y17 y18 y19 y20 y21 y22 y23 y24 y25 y26 y27 y28 y29 y30 y31 y32 y33 y34 y35 y36 y37 y38 y39 y40 y41 y42 y43 y44 y45 y46 y47 y48 y49 y50 y51 y52 y53 y54 y55 y56 y57 y58 y59 y60 y61 y62 y63 y64 y65 : Value), m = nw - k ∧ z11 = (k : Int) ∧ k ≤ nw ∧ a = { tmps := #[.func (.yield l) #[] #[], .pointer (some ⟨g1, 0, none⟩), .pointer (some ⟨gy, 0, none⟩), .pointer (some ⟨gf, 0, none⟩), y4, y5, y6, y7, .string s, .slice ad nw cp, .int .i64 (nw : Int), .int .i64 z11, y12, y13, y14, y15, y16, y17, y18, y19, y20, y21, y22, y23, y24, y25, y26, y27, y28, y29, y30, y31, y32, y33, y34, y35, y36, y37, y38, y39, y40, y41, y42, y43, y44, y45, y46, y47, y48, y49, y50, y51, y52, y53, y54, y55, y56, y57, y58, y59, y60, y61, y62, y63, y64, y65], defers := marksD Ds } ∧
    Aside0 (WordSt s k ts o) ∧ Aside0 (InX W0.heap.size X W) ∧ Aside0 (WoS J X ts o gy gf g1 gr l nw W0.heap.size cur s Ds W)) nw
    ⟨0, X, [], [], none, 0, _, _, _, _, _, _, _, _, _, _, _, _, _, _, _, _, _, _, _, _, _, _, _, _, _, _, _, _, _, _, _, _, _, _, _, _, _, _, _, _, _, _, _, _, _, _, _, _, _, _, _, _, _, _, _, _, _, _, rfl, rfl, Nat.zero_le _, rfl, ⟨WordSt.start s⟩, RX6, I6⟩ ?_
  clear I6 RX6 X
  rintro m a W ⟨k, X, Ds, ts, o, z11, y4, y5, y6, y7, y12, y13, y14, y15, y16, y17, y18, y19, y20, y21, y22, y23, y24, y25, y26, y27, y28, y29, y30, y31, y32, y33, y34, y35, y36, y37, y38, y39, y40, y41, y42, y43, y44, y45, y46, y47, y48, y49, y50, y51, y52, y53, y54, y55, y56, y57, y58, y59, y60, y61, y62, y63, y64, y65, rfl, hz11, hk, rfl, HW, RX, HI⟩ K hK
  have HKK := Aside0.mk hK
  clear hK
  by_cases hlt : k < nw
  · have HLT := Aside0.mk hlt
    obtain ⟨rfl, hcur⟩ := HGET.out (by omega)
    have BR := HI.out.br (by omega)
    obtain ⟨A, hA⟩ : ∃ A, A = iv (wordAt s.size (sgq s) k) := ⟨_, rfl⟩
    obtain ⟨B, hB⟩ : ∃ B, B = iv (wordAt s.size (blq s) k) := ⟨_, rfl⟩
    obtain ⟨C, hC⟩ : ∃ C, C = iv (wordAt s.size (opq s) k) := ⟨_, rfl⟩
    obtain ⟨D, hD⟩ : ∃ D, D = iv (word (wrow s k)) := ⟨_, rfl⟩
    have hrN : rowN s k = [.int .u64 A, .int .u64 B, .int .u64 C, .int .u64 D] := by rw [hA, hB, hC, hD]; rfl
    have hcur' := fun j hj => hcur k j hlt hj
    rw [hrN] at hcur'
    have cr0 : W.cell? ⟨gr, k * 4, none⟩ = some (.int .u64 A) := BR.cell (hcur' 0 (by decide))
    have cr1 : W.cell? ⟨gr, k * 4 + 1, none⟩ = some (.int .u64 B) := BR.cell (hcur' 1 (by decide))
    have cr2 : W.cell? ⟨gr, k * 4 + 2, none⟩ = some (.int .u64 C) := BR.cell (hcur' 2 (by decide))
    have cr3 : W.cell? ⟨gr, k * 4 + 3, none⟩ = some (.int .u64 D) := BR.cell (hcur' 3 (by decide))
    have hq1 : (k : Int) < (nw : Int) := by omega
    have hq2 : (0 : Int) ≤ (k : Int) := by omega
    have HD := Aside0.mk hD
    subst hz11
    clear hA hB hC hD hrN hcur hcur' hlt hk BR
    have HB := BelowH.refl W
    gi_upto_region 5 with (first
      | ((with_reducible refine gate_dstIn (N := 4) rfl ?_); refine ev_allocIn HB rfl rfl (#[.int .i64 0]) 3 ?hr ?_; (case hr => first | (go_simp; done) | (go_simp; rfl)); intro g4 w5 G_g4 GE_g4 B_g4 HBn K_g4 KO_w5; clear HB; have HB := HBn; clear HBn)
      | ((with_reducible refine gate_dstIn (N := 5) rfl ?_); refine ev_allocIn HB rfl rfl (#[.int .u64 0, .int .u64 0, .int .u64 0, .int .u64 0]) 81 ?hr ?_; (case hr => first | (go_simp; done) | (go_simp; rfl)); intro g5 w6 G_g5 GE_g5 B_g5 HBn K_g5 KO_w6; clear HB; have HB := HBn; clear HBn)
      | ((with_reducible refine gate_In (Op.store 3 (.tmp 4) (.tmp 13)) rfl ?_); refine ev_store1In (i := 0) HB (B_g4.below K_g5.out) GE_g4 rfl 3 _ _ rfl rfl (.int .i64 (k : Int)) rfl (by simp) (by kernel_rfl) rfl ?_; intro w7 B7 HBn K_w7 KO_w7; clear HB; have HB := HBn; clear HBn)
      | ((with_reducible refine gate_In (Op.store 81 (.tmp 5) (.tmp 15)) rfl ?_); refine ev_storeIn HB (B_g5.other K_w7 (by have := B_g4.lt; have := G_g5.out; omega)) GE_g5 rfl 81 _ _ rfl rfl rfl (by kernel_rfl) rfl (by simp [Value.oneCell']) ?_; intro w8 B8 HBn K_w8 KO_w8; clear HB; have HB := HBn; clear HBn))
    have N45 : g4 ≠ g5 := by have := B_g4.lt; have := G_g5.out; omega
    have B4 := B7.other K_w8 N45
    have I8 := Aside0.mk (HI.out.below HJO.out HB.out)
    have RX8 : Aside0 (InX W0.heap.size (g5 :: g4 :: X) w8) := ⟨fun i hi => by
      have z1 := GE_g4.out
      have z2 := GE_g5.out
      have z3 := B4.lt
      have z4 := B8.lt
      have z5 := HI.out.sz
      rcases List.mem_cons.1 hi with rfl | hi
      · omega
      · rcases List.mem_cons.1 hi with rfl | hi
        · omega
        · exact (RX.out.grow HB.le) i hi⟩
    have J8 : Aside0 (WoS J (g5 :: g4 :: X) ts o gy gf g1 gr l nw W0.heap.size cur s Ds w8) := ⟨by
      have h := I8.out
      have j1 := HE.out _ _ _ g5 (HE.out _ _ _ g4 HI.out.j GE_g4.out) GE_g5.out
      have j2 := HJO.out _ ts W w8 none j1 ⟨HB.out.os, HB.out.tape, HB.out.output, HB.out.size, fun k hk _ => HB.out.block k hk⟩ (fun r e => by cases e)
      exact ⟨j2, h.by_, h.bf, h.bs, h.br, h.ht, h.mk_, ⟨List.mem_cons_of_mem _ (List.mem_cons_of_mem _ h.mem.1), List.mem_cons_of_mem _ (List.mem_cons_of_mem _ h.mem.2.1), List.mem_cons_of_mem _ (List.mem_cons_of_mem _ h.mem.2.2)⟩, h.ne, h.sz⟩⟩
    have NG : Aside0 (W0.heap.size ≤ g4 ∧ W0.heap.size ≤ g5 ∧ g4 ≠ gf ∧ g5 ≠ gf ∧ g4 ≠ g5) := ⟨by
      have z1 := GE_g4.out
      have z2 := GE_g5.out
      have z5 := HI.out.sz
      have z6 := HI.out.bf.lt
      omega⟩
    clear I8 HI RX HB N45 B_g4 B_g5 K_g4 K_g5 K_w7 K_w8 KO_w5 KO_w6 KO_w7 KO_w8 G_g4 G_g5 GE_g4 GE_g5 B7 cr0 cr1 cr2 cr3
    obtain ⟨Z, hZ⟩ : ∃ Z, Z = g5 :: g4 :: X := ⟨_, rfl⟩
    rw [← hZ] at J8 RX8
    have HZM : Aside0 (g5 ∈ Z ∧ g4 ∈ Z) := ⟨by rw [hZ]; exact ⟨by simp, by simp⟩⟩
    clear hZ
    have bf8 := J8.out.bf
    have cf := bf8.cell (i := 0) rfl
    have c53 := B8.cell (i := 3) rfl
    have c40 := B4.cell (i := 0) rfl
    obtain ⟨q, hq⟩ : ∃ q, q = wrow s k := ⟨_, rfl⟩
    have hWR := HW.out.row (by have := HLT.out; have := HNW.out; omega)
    rw [← hq] at hWR
    have HD' : Aside0 (D = iv (word q)) := ⟨by rw [hq]; exact HD.out⟩
    have HWR := Aside0.mk hWR
    clear hWR HW HD hq bf8
    have hkb : (k : Int) ≤ 17179869184 := by omega
    have hw1 : wrap64 (64 * (k : Int)) = 64 * (k : Int) := wrap_64k hkb hq2
    clear hkb
    simp only [Act.put, List.setIfInBounds_toArray, List.set_cons_zero, List.set_cons_succ]
    obtain ⟨cb, hcb⟩ : ∃ cb, cb = clA o q := ⟨_, rfl⟩
    have HCB := Aside0.mk hcb
    clear hcb
    gi_cut [23] from 16 (fun v23 wx => v23 = .bool cb ∧ wx = w8)
    case first =>
      cases o with
      | none =>
        dsimp only [fromI] at cf
        gi_wp2
        gi_meet
        case rel => exact ⟨by rw [HCB.out]; rfl, rfl⟩
      | some f =>
        dsimp only [fromI] at cf
        have hf0 : decide (0 ≤ (f : Int)) = true := decide_eq_true (by omega)
        have hcl : (bits .and .u64 D 1 == 0) = cb := by rw [HD'.out, HCB.out]; exact clA_bit f q
        gi_wp2
        gi_meet
        case rel => exact ⟨rfl, rfl⟩
    case rest =>
    obtain ⟨rfl, rfl⟩ := hcut
    gi_upto_if 23 with (fail)
    gi_cut [24] from 23 (fun _ wx => Aside0 (InX W0.heap.size Z wx) ∧ Aside0 (WoS J Z (ts ++ (rowA (64 * k) q o).1) (rowA (64 * k) q o).2 gy gf g1 gr l nw W0.heap.size cur s Ds wx) ∧ Aside0 (Blk wx g4 #[.int .i64 (k : Int)] 3 ∧ Blk wx g5 #[.int .u64 A, .int .u64 B, .int .u64 C, .int .u64 D] 81))
    case first =>
      cases cb with
      | true =>
        obtain ⟨f, rfl, hra⟩ := rowA_shut (b := 64 * k) HCB.out.symm
        have HRA := Aside0.mk hra
        have hpx : ts ++ [(f, 64 * k)] <+: spansW s := by
          have := HWR.out.1
          rwa [hra] at this
        obtain ⟨fn, tmps, assign, body, hy, hR⟩ := HY.out Z ts (f, 64 * k) wc RX8.out J8.out.j hpx
        dsimp only [wEnc] at hy
        rw [show ((64 * k : Nat) : Int) = 64 * (k : Int) from by omega] at hy
        have HR := Aside0.mk hR
        have HPX := Aside0.mk hpx
        have cy := J8.out.by_.cell (i := 0) rfl
        dsimp only [fromI] at cf
        clear hR hpx hra
        gi_wp2
        refine (roundIn_any HF HR.out).mono ?_
        rintro e W2 ⟨hkf, hx, (⟨rfl, hJ2, hk2⟩ | ⟨rfl, hJx2⟩)⟩
        · have I2 := Aside0.mk (J8.out.told hkf hx hk2 hJ2)
          have RX2 := Aside0.mk (RX8.out.grow hkf.size)
          have F2 := I2.out.bf
          obtain ⟨wd, HBc, hwc⟩ := below_cut W2 gf (Nat.le_of_lt F2.lt)
          have GEc : Aside0 (wd.heap.size ≤ gf) := ⟨Nat.le_of_eq hwc⟩
          have HB2 : Aside0 (Blk W2 g4 #[.int .i64 (k : Int)] 3 ∧ Blk W2 g5 #[.int .u64 A, .int .u64 B, .int .u64 C, .int .u64 D] 81) := ⟨⟨⟨(hx g4 HZM.out.2).trans B4.out⟩, ⟨(hx g5 HZM.out.1).trans B8.out⟩⟩⟩
          clear hJ2 hkf hx hk2 hwc cf cy c40 c53 hy
          gi_wp2_with (first
            | ((with_reducible refine gate_In (Op.store 3 (.tmp 3) (.const (.int .i64 (-1)))) rfl ?_); refine ev_store1In (i := 0) HBc F2 GEc rfl 3 _ _ rfl rfl (.int .i64 (-1)) rfl (by simp) (by kernel_rfl) rfl ?_; intro w9 B9 HB9 K_w9 KO_w9))
          try simp only [Act.put, List.setIfInBounds_toArray, List.set_cons_zero, List.set_cons_succ]
          gi_meet
          case rel =>
            refine ⟨⟨RX2.out.grow K_w9.out.1⟩, ⟨?_⟩, ⟨HB2.out.1.other K_w9 NG.out.2.2.1, HB2.out.2.other K_w9 NG.out.2.2.2.1⟩⟩
            rw [HRA.out]
            exact I2.out.put HAB.out (fun k hk => (RX2.out k hk).1) HBc HB9 K_w9 B9
        · have HJ2 := Aside0.mk hJx2
          have HM2 := Aside0.mk (J8.out.mk_.keeps hkf (Nat.le_refl _))
          clear hJx2 hkf hx cy cf c40 c53 hy
          gi_wp2
          refine leaves_marksS (S := fun A => Jx (ts ++ [(f, 64 * k)]) A) (fun A D' hs h1 h2 => HJXO.out.putObj _ hs h1 h2 rfl) Ds W2 HJ2.out HM2.out fun A hA => ⟨_, results_none rfl _ _ _, by rw [HR0.out]; exact ⟨⟨_, rfl⟩, .inr ⟨_, HPX.out, hA⟩⟩⟩
      | false =>
        have HRA := Aside0.mk (rowA_keep (b := 64 * k) HCB.out.symm)
        gi_wp2
        gi_meet
        case rel =>
          refine ⟨RX8, ⟨?_⟩, ⟨B4, B8⟩⟩
          rw [HRA.out]
          exact J8.out.ts_eq (List.append_nil _).symm
    case rest =>
    obtain ⟨RX9, I9, HBB⟩ := hcut
    clear RX8 J8 B4 B8 cf c53 c40
    obtain ⟨ts1, hts1⟩ : ∃ ts1, ts1 = ts ++ (rowA (64 * k) q o).1 := ⟨_, rfl⟩
    obtain ⟨o1, ho1⟩ : ∃ o1, o1 = (rowA (64 * k) q o).2 := ⟨_, rfl⟩
    rw [← hts1, ← ho1] at I9
    have hWR := HWR.out.2
    rw [← hts1, ← ho1] at hWR
    have HWN := Aside0.mk hWR
    clear hWR HWR hts1 ho1 HCB cb ts o
    have c53 := HBB.out.2.cell (i := 3) rfl
    gi_wp2_with (first
      | (gi_at_call 46; refine (callsIn_of HF (words_Runs.calls D _)).mono ?_; rintro e w7 ⟨gq, rfl, GE1, B1, HB7⟩))
    clear c53
    have RX7 : Aside0 (InX W0.heap.size (gq :: Z) w7) := ⟨fun i hi => by
      have := I9.out.sz
      have := B1.lt
      rcases List.mem_cons.1 hi with rfl | hi
      · omega
      · exact (RX9.out.grow HB7.le) i hi⟩
    have I7 : Aside0 (WoS J (gq :: Z) ts1 o1 gy gf g1 gr l nw W0.heap.size cur s Ds w7) := ⟨by
      have h := I9.out.below HJO.out HB7.out
      have j2 := HJO.out _ ts1 wc w7 none (HE.out _ _ _ gq I9.out.j GE1) ⟨HB7.out.os, HB7.out.tape, HB7.out.output, HB7.out.size, fun k hk _ => HB7.out.block k hk⟩ (fun r e => by cases e)
      exact ⟨j2, h.by_, h.bf, h.bs, h.br, h.ht, h.mk_, ⟨List.mem_cons_of_mem _ h.mem.1, List.mem_cons_of_mem _ h.mem.2.1, List.mem_cons_of_mem _ h.mem.2.2⟩, h.ne, h.sz⟩⟩
    have B47 := HBB.out.1.below HB7.out
    have T7 := I7.out.ht
    have P0 := T7.pos
    have L1 := B1.lt
    have hD7 : ∀ D ∈ Ds, D < w7.heap.size := fun D hD => I7.out.mk_.lt hD
    have HP := Aside0.mk (And.intro hD7 I7.out.sz)
    have HL7 : Aside0 ((gy < w7.heap.size ∧ gf < w7.heap.size ∧ gr < w7.heap.size) ∧ g4 < w7.heap.size ∧ gq < w7.heap.size ∧ gq ∉ [gf, gy]) := ⟨by
      have m := I7.out.mem
      have z1 := (RX7.out gy m.1).2
      have z2 := (RX7.out gf m.2.1).2
      have z3 := (RX7.out gr m.2.2).2
      have z4 := B47.lt
      have z5 := (RX9.out gy I9.out.mem.1).2
      have z6 := (RX9.out gf I9.out.mem.2.1).2
      refine ⟨⟨z1, z2, z3⟩, z4, L1, ?_⟩
      simp only [List.mem_cons, List.not_mem_nil, or_false]
      omega⟩
    rw [HD'.out] at B1
    obtain ⟨rs, hrs⟩ : ∃ rs, rs = runsF q 65 0 := ⟨_, rfl⟩
    have HRS := Aside0.mk hrs
    have HSO := words_Runs_1.stopsO F HF (n - 1) (by omega) gq q w7 B1 T7
    rw [← hrs] at HSO
    rw [← hrs] at HWN
    have HRM : Aside0 (∀ x ∈ rs, x.1 < 64 ∧ 0 < x.2 ∧ x.1 + x.2 ≤ 64) := ⟨fun x hx => by
      rw [hrs] at hx
      have := runsF_mem q 65 0 x (by decide) hx
      exact this.2⟩
    have S7 := Aside0.mk B1
    clear hrs hD7 RX9 I9 HBB HB7 GE1 B1 T7
    refine wpIn_rangeFunc_O hro n1 (gf := 59) (lb := #[.pointer (some ⟨gq, 0, none⟩)]) rfl f3 (enters_of Tryd.func59 (by kernel_rfl) rfl)
      HSO Keep2.trans (fun W l o o' hl ho hc hw => Keep2.putObj P0 L1 W l o o' hl ho hc hw) (Below.refl _ _) (fun _ => rfl)
      (fun X' => WoR J X' (gq :: Z) (64 * k) rs o1 ts1 gy gf g1 gr l nw W0.heap.size cur s Ds g4 (k : Int) w7.heap.size)
      (fun c pre W => WoX J Jx (64 * k) rs o1 ts1 gy gf g1 gr l nw W0.heap.size cur s Ds c W)
      (fun X' pre A B row hs hg hr => by
        obtain ⟨tp, op, h1, h2⟩ := hs.out
        exact ⟨⟨tp, op, h1, h2.kept HJO.out HP.out.2 HP.out.1 hg hr⟩, hs.b4.kept hg (fun r e => (hr r e).2), Nat.le_trans hs.sz hg.size⟩)
      (fun c pre A B row hs hg hr => by
        have hr0 : ∀ r, row = some r → W0.heap.size ≤ r ∧ ∃ o : Obj, A.heap[r]? = some o ∧ o.isCells = false := fun r e => ⟨Nat.le_trans HP.out.2 (hr r e).1, (hr r e).2⟩
        rcases hs with ⟨h1, ⟨t, h2, h3⟩, h4⟩ | ⟨h1, X2, h2, h3⟩
        · exact .inl ⟨h1, ⟨t, h2, HJXO.out _ _ _ _ h3 hg hr0⟩, h4.grown hg HP.out.1 (fun r e => (hr r e).1)⟩
        · exact .inr ⟨h1, X2, h2.grow hg.size, h3.kept HJO.out HP.out.2 HP.out.1 hg hr⟩)
      (fun X' pre A k h hk => by
        obtain ⟨tp, op, h1, h2⟩ := h.out
        exact ⟨⟨tp, op, h1, HE.out _ _ _ k h2.j hk, h2.by_, h2.bf, h2.bs, h2.br, h2.ht, h2.mk_, ⟨List.mem_cons_of_mem _ h2.mem.1, List.mem_cons_of_mem _ h2.mem.2.1, List.mem_cons_of_mem _ h2.mem.2.2⟩, h2.ne, h2.sz⟩, h.b4, h.sz⟩)
      (fun X' pre A C hX h ht => by
        obtain ⟨tp, op, h1, h2⟩ := h.out
        exact ⟨⟨tp, op, h1, h2.turned HAB.out HP.out.2 HP.out.1 hX (fun k hk => (RX7.out k hk).1) HL7.out.1 ht⟩, h.b4.turned ht (not_mem_above hX HL7.out.2.1), Nat.le_trans h.sz ht.size⟩)
      ⟨⟨[], o1, RowSt.start _ _ _, I7.out.ts_eq (List.append_nil _).symm⟩, B47, Nat.le_refl _⟩
      (fun y a' W => a' = { tmps := #[.func (.yield l) #[] #[], .pointer (some ⟨g1, 0, none⟩), .pointer (some ⟨gy, 0, none⟩), .pointer (some ⟨gf, 0, none⟩), .pointer (some ⟨g4, 0, none⟩), .pointer (some ⟨g5, 0, none⟩), .int .i64 (y.1 : Int), .int .i64 (y.2 : Int), .string s, .slice (some ⟨gr, 0, none⟩) nw cp, .int .i64 (nw : Int), .int .i64 (k : Int), .bool true, .int .i64 (k : Int), .pointer (some ⟨gr, k * 4, none⟩), .agg #[.int .u64 A, .int .u64 B, .int .u64 C, .int .u64 D], u16, u17, u18, u19, u20, u21, u22, u23, u24, u25, u26, u27, u28, u29, u30, .pointer (some ⟨g5, 3, none⟩), .int .u64 D, .func (.func 59) #[] #[.pointer (some ⟨gq, 0, none⟩)], .int .i64 (y.1 : Int), .int .i64 (y.2 : Int), u36, u37, u38, u39, u40, u41, u42, u43, u44, u45, u46, u47, u48, u49, u50, u51, u52, u53, u54, u55, u56, u57, u58, u59, u60, u61, u62, u63, u64, u65], defers := [] })
      (fun x a' pre A B row hs hg hr => hs)
      ?assign ?body ?done ?stop
    case assign =>
      intro X' l' pre y W K' hX' hI hsp hK'
      have hz : ∀ t : Array Value, (((#[34, 35] : Array Tmp).zip ((fun x : Nat × Nat => #[Value.int .i64 (x.1 : Int), Value.int .i64 (x.2 : Int)]) y)).foldl (fun t (p, v) => t.setIfInBounds p v) t) = (t.setIfInBounds 34 (.int .i64 (y.1 : Int))).setIfInBounds 35 (.int .i64 (y.2 : Int)) := fun t => by simp
      rw [hz]
      simp only [List.setIfInBounds_toArray, List.set_cons_succ, List.set_cons_zero]
      clear hz
      gi_wp2
      exact hK' _ _ ((KeepsOthers.refl _).from _) (fun _ _ => rfl) ⟨rfl, rfl, Nat.le_refl _⟩ hI rfl
    case body =>
      rintro X' l' pre y a' W' hX' hl ⟨r, hr⟩ hI rfl hsp
      clear hr hl
      obtain ⟨tp, op, hst, hIo⟩ := hI.out
      have hym := HRM.out y (hsp.subset (List.mem_append_right _ (List.mem_singleton.2 rfl)))
      have RXX : Aside0 (InX W0.heap.size (X' ++ gq :: Z) W') := ⟨InX.app hX' HP.out.2 RX7.out hI.sz⟩
      have HXL := Aside0.mk hX'
      have HIO := Aside0.mk hIo
      have HB4 := Aside0.mk hI.b4
      have HSZ := Aside0.mk hI.sz
      have HST := Aside0.mk hst
      have HSP := Aside0.mk hsp
      obtain ⟨f', hf'⟩ : ∃ f', f' = op.getD (64 * k + y.1) := ⟨_, rfl⟩
      have HF' := Aside0.mk hf'
      obtain ⟨ob, hob⟩ : ∃ ob, ob = op.isNone := ⟨_, rfl⟩
      have HOB := Aside0.mk hob
      have cf := hIo.bf.cell (i := 0) rfl
      have c4 := hI.b4.cell (i := 0) rfl
      obtain ⟨yi, yn⟩ := y
      dsimp only at hym HF' ⊢
      have HYM := Aside0.mk hym
      have hkb : (k : Int) ≤ 17179869184 := by have := HLT.out; omega
      have hw2 : wrap64 (64 * (k : Int) + (yi : Int)) = 64 * (k : Int) + (yi : Int) := wrap_64ki hkb hq2 (by omega)
      have hw3 : wrap64 (64 * (k : Int) + (yi : Int) + (yn : Int)) = 64 * (k : Int) + (yi : Int) + (yn : Int) := wrap_64kin hkb hq2 hym.2.2
      have hw4 : wrap64 ((yi : Int) + (yn : Int)) = (yi : Int) + (yn : Int) := wrap_sum64 hym.2.2
      obtain ⟨zi, hzi⟩ : ∃ zi : Int, zi = (yi : Int) := ⟨_, rfl⟩
      obtain ⟨zn, hzn⟩ : ∃ zn : Int, zn = (yn : Int) := ⟨_, rfl⟩
      rw [← hzi, ← hzn]
      rw [← hzi] at hw2 hw3 hw4
      rw [← hzn] at hw3 hw4
      have HZI := Aside0.mk hzi
      have HZN := Aside0.mk hzn
      clear hI hX' hIo hst hsp hf' hob hym hkb hzi hzn
      gi_upto_region 11 with (fail)
      gi_cut [37] from 36 (fun v37 wx => v37 = .bool ob ∧ wx = W')
      case first =>
        cases op with
        | none =>
          dsimp only [fromI] at cf
          gi_wp2
          gi_meet
          case rel => exact ⟨by rw [HOB.out]; rfl, rfl⟩
        | some f =>
          dsimp only [fromI] at cf
          have hf0 : decide ((f : Int) < 0) = false := decide_eq_false (by omega)
          gi_wp2
          gi_meet
          case rel => exact ⟨by rw [HOB.out]; rfl, rfl⟩
      case rest =>
      obtain ⟨rfl, rfl⟩ := hcut
      gi_upto_if 37 with (fail)
      gi_cut [38] from 36 (fun _ wx => Aside0 (WoS J (X' ++ gq :: Z) (ts1 ++ tp) (some f') gy gf g1 gr l nw W0.heap.size cur s Ds wx) ∧ Aside0 (Blk wx g4 #[.int .i64 (k : Int)] 3) ∧ Aside0 (KeepsFrom W0.heap.size wc wx ∧ (∀ k ∈ X', wx.heap[k]? = wc.heap[k]?) ∧ Keep2 0 gq wc wx))
      case first =>
        cases ob with
        | true =>
          cases op with
          | some f => exact absurd HOB.out (by simp)
          | none =>
            have F2 := HIO.out.bf
            obtain ⟨wd, HBc, hwc⟩ := below_cut wc gf (Nat.le_of_lt F2.lt)
            have GEc : Aside0 (wd.heap.size ≤ gf) := ⟨Nat.le_of_eq hwc⟩
            dsimp only [fromI] at cf F2
            clear hwc cf
            gi_wp2_with (first
              | ((with_reducible refine gate_In (Op.store 3 (.tmp 3) (.tmp 41)) rfl ?_); refine ev_store1In (i := 0) HBc F2 GEc rfl 3 _ _ rfl rfl (.int .i64 (64 * (k : Int) + zi)) (congrArg (Value.int .i64) hw2) (by simp) (by kernel_rfl) rfl ?_; intro w9 B9 HB9 K_w9 KO_w9))
            try simp only [Act.put, List.setIfInBounds_toArray, List.set_cons_zero, List.set_cons_succ]
            gi_meet
            case rel =>
              have e1 : (f' : Int) = 64 * (k : Int) + zi := by
                rw [HF'.out, HZI.out]
                exact cast_ki k yi
              have B9' : Blk w9 gf #[.int .i64 (fromI (some f'))] 3 := by
                show Blk w9 gf #[.int .i64 (f' : Int)] 3
                rw [e1]
                exact B9
              have zf := HIO.out.ne
              have z0 := HL7.out
              simp only [List.mem_cons, List.not_mem_nil, or_false, not_or] at z0
              exact ⟨⟨HIO.out.put HAB.out (fun k hk => (RXX.out k hk).1) HBc HB9 K_w9 B9'⟩, ⟨HB4.out.other K_w9 NG.out.2.2.1⟩, ⟨KO_w9.out.from _, fun k hk => K_w9.out.2 k (fun c => by have := (HXL.out k hk).1; omega), ⟨K_w9.out.2 0 (by omega), K_w9.out.2 gq z0.2.2.2.1, K_w9.out.1⟩⟩⟩
        | false =>
          cases op with
          | none => exact absurd HOB.out (by simp)
          | some f =>
            have e1 : f' = f := HF'.out
            gi_wp2
            gi_meet
            case rel => exact ⟨⟨by rw [e1]; exact HIO.out⟩, HB4, ⟨(KeepsOthers.refl _).from _, fun _ _ => rfl, ⟨rfl, rfl, Nat.le_refl _⟩⟩⟩
      case rest =>
      obtain ⟨I9, B49, KK⟩ := hcut
      clear HIO HB4 HOB cf c4
      have c4 := B49.out.cell (i := 0) rfl
      have cf := I9.out.bf.cell (i := 0) rfl
      dsimp only [fromI] at cf
      by_cases h64 : yi + yn = 64
      · have hb : (zi + zn == 64) = true := by rw [HZI.out, HZN.out]; exact beq_64t h64
        have HRT := Aside0.mk (HST.out.full HSP.out h64)
        clear h64
        gi_wp2
        refine ⟨KeepsFrom.up KK.out.1 HP.out.2, KK.out.2.1, .inr ⟨rfl, X' ++ gq :: Z, RXX.out.grow KK.out.1.size, ?_⟩⟩
        rw [HRT.out, ← HF'.out]
        exact I9.out
      · have hb : (zi + zn == 64) = false := by rw [HZI.out, HZN.out]; exact beq_64 h64
        have hnx := HST.out.next HSP.out h64
        dsimp only at hnx
        rw [← HF'.out] at hnx
        have hpx : (ts1 ++ tp) ++ [(f', 64 * k + yi + yn)] <+: spansW s := by
          rw [List.append_assoc]
          exact ((List.prefix_append_right_inj ts1).2 hnx.2).trans HWN.out.1
        have RX9 : Aside0 (InX W0.heap.size (X' ++ gq :: Z) wc) := ⟨RXX.out.grow KK.out.1.size⟩
        obtain ⟨fn, tmps, assign, body, hy, hR⟩ := HY.out (X' ++ gq :: Z) (ts1 ++ tp) (f', 64 * k + yi + yn) wc RX9.out I9.out.j hpx
        dsimp only [wEnc] at hy
        rw [cast_kin, ← HZI.out, ← HZN.out] at hy
        have HR := Aside0.mk hR
        have HPX := Aside0.mk hpx
        have HNX := Aside0.mk hnx.1
        have cy := I9.out.by_.cell (i := 0) rfl
        clear hR hpx hnx h64
        gi_wp2
        refine (roundIn_wide HF HR.out).mono ?_
        rintro e W2 ⟨hkf, hx, (⟨rfl, hJ2, hk2⟩ | ⟨rfl, hJx2⟩)⟩
        · have I2 := Aside0.mk (I9.out.told hkf hx hk2 hJ2)
          have F2 := I2.out.bf
          obtain ⟨wd, HBc, hwc⟩ := below_cut W2 gf (Nat.le_of_lt F2.lt)
          have GEc : Aside0 (wd.heap.size ≤ gf) := ⟨Nat.le_of_eq hwc⟩
          have B42 : Aside0 (Blk W2 g4 #[.int .i64 (k : Int)] 3) := ⟨⟨(hx g4 (List.mem_append_right _ (List.mem_cons_of_mem _ HZM.out.2))).trans B49.out.out⟩⟩
          have HK2 := Aside0.mk (And.intro hkf (And.intro hx hk2))
          dsimp only [fromI] at F2
          clear hJ2 hkf hx hk2 hwc cf cy c4 hy
          gi_wp2_with (first
            | ((with_reducible refine gate_In (Op.store 3 (.tmp 3) (.const (.int .i64 (-1)))) rfl ?_); refine ev_store1In (i := 0) HBc F2 GEc rfl 3 _ _ rfl rfl (.int .i64 (-1)) rfl (by simp) (by kernel_rfl) rfl ?_; intro w9 B9 HB9 K_w9 KO_w9))
          obtain ⟨hkf, hx, hk2⟩ := HK2.out
          have zf := I2.out.ne
          have z0 := HL7.out
          simp only [List.mem_cons, List.not_mem_nil, or_false, not_or] at z0
          refine ⟨KeepsFrom.up (KK.out.1.trans (hkf.trans (KO_w9.out.from _))) HP.out.2, fun k hk => (K_w9.out.2 k (fun c => by have := (HXL.out k hk).1; omega)).trans ((hx k (List.mem_append_left _ hk)).trans (KK.out.2.1 k hk)), ⟨(K_w9.out.2 0 (by omega)).trans (hk2.1.trans KK.out.2.2.1), (K_w9.out.2 gq z0.2.2.2.1).trans ((hx gq (List.mem_append_right _ (List.mem_cons_self ..))).trans KK.out.2.2.2.1), Nat.le_trans KK.out.1.size (Nat.le_trans hkf.size K_w9.out.1)⟩, ⟨_, none, HNX.out, ?_⟩, B42.out.other K_w9 NG.out.2.2.1, Nat.le_trans HSZ.out (Nat.le_trans KK.out.1.size (Nat.le_trans hkf.size K_w9.out.1))⟩
          have h := I2.out.put HAB.out (fun k hk => (RX9.out k hk).1) HBc HB9 K_w9 (o' := none) B9
          exact h.ts_eq (List.append_assoc _ _ _)
        · have HJ2 := Aside0.mk hJx2
          have HK2 := Aside0.mk (And.intro hkf hx)
          have HM2 := Aside0.mk (I9.out.mk_.keeps hkf (Nat.le_refl _))
          clear hJx2 hkf hx cf cy c4 hy
          gi_wp2
          exact ⟨KeepsFrom.up (KK.out.1.trans HK2.out.1) HP.out.2, fun k hk => (HK2.out.2 k (List.mem_append_left _ hk)).trans (KK.out.2.1 k hk), .inl ⟨rfl, ⟨_, HPX.out, HJ2.out⟩, HM2.out⟩⟩
    case done =>
      rintro D' X' ys W' hD hX' rfl hI hK'
      obtain ⟨tp, op, hst, hIo⟩ := hI.out
      have HRT := Aside0.mk hst.end_
      have HDn : D' ∉ Ds := fun c => by have := HP.out.1 D' c; omega
      have RXX : Aside0 (InX W0.heap.size (X' ++ gq :: Z) W') := ⟨InX.app hX' HP.out.2 RX7.out hI.sz⟩
      have I9 := Aside0.mk (hIo.mark (Nat.le_trans HP.out.2 hD) hK' HDn)
      have hkb : (k : Int) ≤ 17179869184 := by have := HLT.out; omega
      have hw9 : wrap64 ((k : Int) + 1) = (k : Int) + 1 := wrap_succ hkb hq2
      clear hI hX' hD hK' hst hIo HDn hkb
      gi_wp2
      refine HKK.out (nw - (k + 1)) _ _ (by have := HLT.out; omega) ⟨k + 1, X' ++ gq :: Z, D' :: Ds, ts1 ++ tp, op, _, _, _, _, _, _, _, _, _, _, _, _, _, _, _, _, _, _, _, _, _, _, _, _, _, _, _, _, _, _, _, _, _, _, _, _, _, _, _, _, _, _, _, _, _, _, _, _, _, _, _, _, _, _, _, _, _, _, _, rfl, by omega, by have := HLT.out; omega, rfl, ⟨?_⟩, RXX, I9⟩
      have h := HWN.out.2
      rw [HRT.out] at h
      exact h
    case stop =>
      rintro D' c pre W' hD hp hIx hK'
      have HDn : D' ∉ Ds := fun c => by have := HP.out.1 D' c; omega
      rcases hIx with ⟨rfl, ⟨t, h1, h2⟩, h3⟩ | ⟨rfl, X2, h1, h2⟩
      · have HM2 := Aside0.mk (h3.cons (Nat.le_trans HP.out.2 hD) hK' HDn)
        have HPX := Aside0.mk h1
        have HJ2 := Aside0.mk h2
        clear hp h1 h2 h3 hK' hD HDn
        gi_wp2
        exact leaves_marksS (S := fun A => Jx t A) (fun A D' hs h1 h2 => HJXO.out.putObj _ hs h1 h2 rfl) (D' :: Ds) W' HJ2.out HM2.out fun A hA => ⟨_, results_none rfl _ _ _, by rw [HR0.out]; exact ⟨⟨_, rfl⟩, .inr ⟨_, HPX.out, hA⟩⟩⟩
      · have RX2 := Aside0.mk h1
        have I9 := Aside0.mk (h2.mark (Nat.le_trans HP.out.2 hD) hK' HDn)
        have hkb : (k : Int) ≤ 17179869184 := by have := HLT.out; omega
        have hw9 : wrap64 ((k : Int) + 1) = (k : Int) + 1 := wrap_succ hkb hq2
        clear hp h1 h2 hK' hD HDn hkb
        gi_wp2
        exact HKK.out (nw - (k + 1)) _ _ (by have := HLT.out; omega) ⟨k + 1, X2, D' :: Ds, _, _, _, _, _, _, _, _, _, _, _, _, _, _, _, _, _, _, _, _, _, _, _, _, _, _, _, _, _, _, _, _, _, _, _, _, _, _, _, _, _, _, _, _, _, _, _, _, _, _, _, _, _, _, _, _, _, _, _, _, _, rfl, by omega, by have := HLT.out; omega, rfl, ⟨HWN.out.2⟩, RX2, I9⟩
  · have EK : k = nw := by omega
    subst hz11
    have hq1 : decide ((k : Int) < (nw : Int)) = false := decide_eq_false (by omega)
    have hq1' : decide (k < nw) = false := decide_eq_false (by omega)
    have HK := Aside0.mk EK
    have HWE : Aside0 (WordSt s (nwords s.size) ts o) := ⟨by rw [← HNW.out, ← EK]; exact HW.out⟩
    have cf := HI.out.bf.cell (i := 0) rfl
    have cs := HI.out.bs.cell (i := 0) rfl
    have cy := HI.out.by_.cell (i := 0) rfl
    have hsz : (s.size : Int) ≤ 1099511627776 := by have := HS.out; omega
    clear EK hlt hk HW
    cases o with
    | none =>
      dsimp only [fromI] at cf
      clear cs cy
      gi_wp2
      exact leaves_marksS (S := fun A => J X ts A ∧ W.heap.size ≤ A.heap.size) (fun A D' hs h1 h2 => ⟨(HJO.out _).putObj _ hs.1 h1 h2 rfl, by simpa using hs.2⟩) Ds W ⟨HI.out.j, Nat.le_refl _⟩ HI.out.mk_ fun A hA => ⟨_, results_none rfl _ _ _, by rw [HR0.out]; exact ⟨⟨_, rfl⟩, .inl ⟨_, X, HWE.out.done, RX.out.grow hA.2, hA.1⟩⟩⟩
    | some f =>
      dsimp only [fromI] at cf
      have hE2 := HWE.out.last
      obtain ⟨fn, tmps, assign, body, hy, hR⟩ := HY.out X ts (f, s.size) W RX.out HI.out.j (by rw [hE2]; exact List.prefix_rfl)
      dsimp only [wEnc] at hy
      have HR := Aside0.mk hR
      have HE2 := Aside0.mk hE2
      have hf0 : decide (0 ≤ (f : Int)) = true := decide_eq_true (by omega)
      clear hR hE2
      gi_wp2
      refine (roundIn_any HF HR.out).mono ?_
      rintro e W2 ⟨hkf, hx, (⟨rfl, hJ2, hk2⟩ | ⟨rfl, hJx2⟩)⟩
      · have HJ2 := Aside0.mk hJ2
        have HM2 := Aside0.mk (HI.out.mk_.keeps hkf (Nat.le_refl _))
        have HZ2 := Aside0.mk hkf.size
        clear hJ2 hkf hx hk2 cy cs cf hy
        gi_wp2
        exact leaves_marksS (S := fun A => J X (ts ++ [(f, s.size)]) A ∧ W2.heap.size ≤ A.heap.size) (fun A D' hs h1 h2 => ⟨(HJO.out _).putObj _ hs.1 h1 h2 rfl, by simpa using hs.2⟩) Ds W2 ⟨HJ2.out, Nat.le_refl _⟩ HM2.out fun A hA => ⟨_, results_none rfl _ _ _, by rw [HR0.out]; exact ⟨⟨_, rfl⟩, .inl ⟨_, X, HE2.out, RX.out.grow (Nat.le_trans HZ2.out hA.2), hA.1⟩⟩⟩
      · have HJ2 := Aside0.mk hJx2
        have HM2 := Aside0.mk (HI.out.mk_.keeps hkf (Nat.le_refl _))
        clear hJx2 hkf hx cy cs cf hy
        gi_wp2
        exact leaves_marksS (S := fun A => Jx (ts ++ [(f, s.size)]) A) (fun A D' hs h1 h2 => HJXO.out.putObj _ hs h1 h2 rfl) Ds W2 HJ2.out HM2.out fun A hA => ⟨_, results_none rfl _ _ _, by rw [HR0.out]; exact ⟨⟨_, rfl⟩, .inr ⟨_, by rw [HE2.out]; exact List.prefix_rfl, hA⟩⟩⟩
end


open Go.Proofs.YtfihkkjkifkemaaDoorQ Go.Proofs.YtfihkkjkifkemaaDoorM in
set_option maxHeartbeats 4000000 in
set_option maxRecDepth 100000 in
theorem marks_Words.calls (s : ByteArray) (w : World) :
    Calls Tryd.prog 35 #[.string s] w fun e w' => ∃ g1 : Nat, e = .returned (.func (.func 45) #[] #[.pointer (some ⟨g1, 0, none⟩)]) ∧
      w.heap.size ≤ g1 ∧ Blk w' g1 #[.string s] 9 ∧ BelowH w w' := by
  have HB := BelowH.refl w
  go_enter Tryd.func35, Tryd.ntmps35
  go_wp2_with (first | ((with_reducible refine gate_dst (N := 1) rfl ?_); refine ev_alloc HB rfl (#[.string s]) 9 ?hr ?_; (case hr => first | (go_simp; done) | (go_simp; rfl)); intro g1 w1 G_g1 GE_g1 B_g1 HBn K_g1; clear HB; have HB := HBn; clear HBn))
  go_ret
  exact ⟨g1, rfl, GE_g1.out, B_g1, HB⟩


def bitmap_size.f (a0 : Int) : Option (Int) := if (Int.tmod a0 64) = 0 then (some (wrap64 (Int.tdiv a0 64))) else (some (wrap64 ((wrap64 (Int.tdiv a0 64)) + 1)))
set_option maxHeartbeats 8000000 in
set_option maxRecDepth 100000 in
theorem bitmap_size.calls (a0 : Int) (r : Int) (w : World) (h : bitmap_size.f a0 = some r) :
    Calls Tryd.prog 74 #[.int .i64 a0] w fun e w' => e = .returned (.int .i64 r) ∧ Drawn0 w w' := by
  have H : (if (Int.tmod a0 64) = 0 then (some (wrap64 (Int.tdiv a0 64))) else (some (wrap64 ((wrap64 (Int.tdiv a0 64)) + 1)))) = some r := h
  clear h
  by_cases c2 : (Int.tmod a0 64) = 0
  · rw [if_pos c2] at H
    have c2b0 : ((Int.tmod a0 64) == 0) = true := beq_iff_eq.mpr c2
    have c2b1 : ((Int.tmod a0 64) != 0) = false := bne_eq_false_iff_eq.mpr c2
    clear c2
    obtain rfl := Option.some.inj H
    go_enter Tryd.func74, Tryd.ntmps74
    go_wp2
    go_ret
    exact ⟨by first | rfl | (simp; done) | (simp [*]; done), by repeat (first | exact Drawn0.refl _ | apply Drawn0.step)⟩
  · rw [if_neg c2] at H
    have c2b0 : ((Int.tmod a0 64) == 0) = false := beq_eq_false_iff_ne.mpr c2
    have c2b1 : ((Int.tmod a0 64) != 0) = true := bne_iff_ne.mpr c2
    obtain rfl := Option.some.inj H
    go_enter Tryd.func74, Tryd.ntmps74
    go_wp2
    go_ret
    exact ⟨by first | rfl | (simp; done) | (simp [*]; done), by repeat (first | exact Drawn0.refl _ | apply Drawn0.step)⟩

def bitmap_tail.f (a0 : Int) : Option (Int) := if (Int.tmod a0 64) = 0 then (some 18446744073709551615) else (if 0 ≤ (Int.tmod a0 64) then (some (IntKind.u64.wrap ((shl .u64 1 (Int.tmod a0 64)) - 1))) else (none))
set_option maxHeartbeats 8000000 in
set_option maxRecDepth 100000 in
theorem bitmap_tail.calls (a0 : Int) (r : Int) (w : World) (h : bitmap_tail.f a0 = some r) :
    Calls Tryd.prog 75 #[.int .i64 a0] w fun e w' => e = .returned (.int .u64 r) ∧ Drawn0 w w' := by
  have H : (if (Int.tmod a0 64) = 0 then (some 18446744073709551615) else (if 0 ≤ (Int.tmod a0 64) then (some (IntKind.u64.wrap ((shl .u64 1 (Int.tmod a0 64)) - 1))) else (none))) = some r := h
  clear h
  by_cases c2 : (Int.tmod a0 64) = 0
  · rw [if_pos c2] at H
    have c2b0 : ((Int.tmod a0 64) == 0) = true := beq_iff_eq.mpr c2
    have c2b1 : ((Int.tmod a0 64) != 0) = false := bne_eq_false_iff_eq.mpr c2
    clear c2
    obtain rfl := Option.some.inj H
    go_enter Tryd.func75, Tryd.ntmps75
    go_wp2
    go_ret
    exact ⟨by first | rfl | (simp; done) | (simp [*]; done), by repeat (first | exact Drawn0.refl _ | apply Drawn0.step)⟩
  · rw [if_neg c2] at H
    have c2b0 : ((Int.tmod a0 64) == 0) = false := beq_eq_false_iff_ne.mpr c2
    have c2b1 : ((Int.tmod a0 64) != 0) = true := bne_iff_ne.mpr c2
    obtain ⟨ji3, hji3⟩ : ∃ j_ : Int, (Int.tmod a0 64) = j_ := ⟨_, rfl⟩
    replace H : (if 0 ≤ (ji3) then (some (IntKind.u64.wrap ((shl .u64 1 (ji3)) - 1))) else (none)) = some r := by first | (rw [hji3] at H; exact H) | (simp only [hji3] at H ⊢; exact H)
    (try rw [hji3] at c2b0)
    (try rw [hji3] at c2b1)
    by_cases c4 : 0 ≤ (ji3)
    · rw [if_pos c4] at H
      have c4b0 := eq_true c4
      have c4b1 : decide (0 ≤ (ji3)) = true := decide_eq_true c4
      clear c4
      obtain ⟨ji5, hji5⟩ : ∃ j_ : Int, (shl .u64 1 (ji3)) = j_ := ⟨_, rfl⟩
      replace H : (some (IntKind.u64.wrap ((ji5) - 1))) = some r := by first | (rw [hji5] at H; exact H) | (simp only [hji5] at H ⊢; exact H)
      have hji5_ : (IntKind.u64.wrap (1 * 2 ^ min (ji3).toNat 64)) = ji5 := hji5
      have hji5z : (ji3) ≤ 64 → (IntKind.u64.wrap (1 * 2 ^ (ji3).toNat)) = ji5 := shl_small hji5
      have hji5u : (IntKind.u64.wrap (2 ^ min (ji3).toNat 64)) = ji5 := by have h_ := hji5_; rw [Int.one_mul] at h_; exact h_
      have hji5v : (ji3) ≤ 64 → (IntKind.u64.wrap (2 ^ (ji3).toNat)) = ji5 := fun hle_ => by have h_ := hji5z hle_; rw [Int.one_mul] at h_; exact h_
      obtain rfl := Option.some.inj H
      go_enter Tryd.func75, Tryd.ntmps75
      go_wp2
      go_ret
      exact ⟨by first | rfl | (simp; done) | (simp only [← hji3, ← hji5] <;> (first | rfl | simp)) | (simp [*]; done), by repeat (first | exact Drawn0.refl _ | apply Drawn0.step)⟩
    · rw [if_neg c4] at H
      exact absurd H (by simp)

def bitmap_Formed.f (a0_0 : Int) (l0_1 : List Int) : Option (Bool) := if a0_0 < 0 then (some false) else ((bitmap_size.f a0_0).bind fun t102 => (if (l0_1.length : Int) = t102 then (if a0_0 = 0 then (some true) else (if 0 ≤ (wrap64 ((l0_1.length : Int) - 1)) then (if (wrap64 ((l0_1.length : Int) - 1)) < (l0_1.length : Int) then ((bitmap_tail.f a0_0).bind fun t104 => (some ((Go.bits .andNot .u64 (rd l0_1 (wrap64 ((l0_1.length : Int) - 1))) t104) == 0))) else (none)) else (none))) else (some false)))
set_option maxHeartbeats 8000000 in
set_option maxRecDepth 100000 in
theorem bitmap_Formed.calls (a0_0 : Int) (A0_1 : Option Addr) (c0_1 : Nat) (l0_1 : List Int) (r : Bool) (w : World) (hr0_1 : Kd.C (Kd.int .u64) w A0_1 l0_1.length l0_1) (hc0_1 : l0_1.length ≤ c0_1) (h : bitmap_Formed.f a0_0 l0_1 = some r) :
    Calls Tryd.prog 62 #[.agg #[.int .i64 a0_0, .slice A0_1 l0_1.length c0_1]] w fun e w' => e = .returned (.bool r) ∧ Below w.heap.size w w' := by
  have hu95 := Tryd.underlying95
  have HR0_1 := Aside0.mk hr0_1
  have HC0_1 := Aside0.mk hc0_1
  clear hr0_1 hc0_1
  have HB := Aside0.mk (Below.refl w.heap.size w)
  have H : (if a0_0 < 0 then (some false) else ((bitmap_size.f a0_0).bind fun t102 => (if (l0_1.length : Int) = t102 then (if a0_0 = 0 then (some true) else (if 0 ≤ (wrap64 ((l0_1.length : Int) - 1)) then (if (wrap64 ((l0_1.length : Int) - 1)) < (l0_1.length : Int) then ((bitmap_tail.f a0_0).bind fun t104 => (some ((Go.bits .andNot .u64 (rd l0_1 (wrap64 ((l0_1.length : Int) - 1))) t104) == 0))) else (none)) else (none))) else (some false)))) = some r := h
  clear h
  by_cases c2 : a0_0 < 0
  · rw [if_pos c2] at H
    have c2b0 : decide (a0_0 < 0) = true := decide_eq_true c2
    clear c2
    obtain rfl := Option.some.inj H
    go_enter Tryd.func62, Tryd.ntmps62
    go_wp2_with (first | ((with_reducible refine gate_dst (N := 1) rfl ?_); (try (refine gate_guard (by rfl) ?_; dsimp only)); refine box_event ?hg (N := 1) ?hd (cs := #[.int .i64 a0_0, .slice A0_1 l0_1.length c0_1]) (t := 95) ?hr ?_; (case hd => rfl); (case hg => rfl); (case hr => first | (go_simp; done) | (go_simp; rfl)); intro gb101 hg w3 hbox hb; have n0_ := Aside0.mk (below_step (by repeat (first | (with_reducible first | exact HB.out | apply below_alloc | apply pw_below_drewN | apply below_drew1) | exact HB.out)) hb); have n1_ := Aside0.mk (hbox); have n2_ := Aside0.mk ((by rw [hg]; exact (below_size (by repeat (first | (with_reducible first | exact HB.out | apply below_alloc | apply pw_below_drewN | apply below_drew1) | exact HB.out))) : w.heap.size ≤ gb101)); have n3_ := Aside0.mk ((by rw [hg]; exact (below_size (by repeat (first | (with_reducible first | exact HB.out | apply below_alloc | apply pw_below_drewN | apply below_drew1) | exact HB.out))) : w.heap.size ≤ gb101)); clear HB; have HB := n0_; have BK101 := n1_; have GW101 := n2_; have GE101 := n3_; clear n0_ n1_ n2_ n3_; clear hb hbox hg; have hcz4_0 : w3.cell? ⟨gb101, 0, none⟩ = some (.int .i64 a0_0) := (blk_cell BK101.out 0).trans rfl; have hcz4_1 : w3.cell? ⟨gb101, 1, none⟩ = some (.slice A0_1 l0_1.length c0_1) := (blk_cell BK101.out 1).trans rfl; have hfz4_0 := blk_frozen BK101.out 0; have hfz4_1 := blk_frozen BK101.out 1))
    repeat (go_quiet (first | ((with_reducible refine gate_dst (N := 1) rfl ?_); (try (refine gate_guard (by rfl) ?_; dsimp only)); refine box_event ?hg (N := 1) ?hd (cs := #[.int .i64 a0_0, .slice A0_1 l0_1.length c0_1]) (t := 95) ?hr ?_; (case hd => rfl); (case hg => rfl); (case hr => first | (go_simp; done) | (go_simp; rfl)); intro gb101 hg w3 hbox hb; have n0_ := Aside0.mk (below_step (by repeat (first | (with_reducible first | exact HB.out | apply below_alloc | apply pw_below_drewN | apply below_drew1) | exact HB.out)) hb); have n1_ := Aside0.mk (hbox); have n2_ := Aside0.mk ((by rw [hg]; exact (below_size (by repeat (first | (with_reducible first | exact HB.out | apply below_alloc | apply pw_below_drewN | apply below_drew1) | exact HB.out))) : w.heap.size ≤ gb101)); have n3_ := Aside0.mk ((by rw [hg]; exact (below_size (by repeat (first | (with_reducible first | exact HB.out | apply below_alloc | apply pw_below_drewN | apply below_drew1) | exact HB.out))) : w.heap.size ≤ gb101)); clear HB; have HB := n0_; have BK101 := n1_; have GW101 := n2_; have GE101 := n3_; clear n0_ n1_ n2_ n3_; clear hb hbox hg; have hcz4_0 : w3.cell? ⟨gb101, 0, none⟩ = some (.int .i64 a0_0) := (blk_cell BK101.out 0).trans rfl; have hcz4_1 : w3.cell? ⟨gb101, 1, none⟩ = some (.slice A0_1 l0_1.length c0_1) := (blk_cell BK101.out 1).trans rfl; have hfz4_0 := blk_frozen BK101.out 0; have hfz4_1 := blk_frozen BK101.out 1)); try go_wp2_with (first | ((with_reducible refine gate_dst (N := 1) rfl ?_); (try (refine gate_guard (by rfl) ?_; dsimp only)); refine box_event ?hg (N := 1) ?hd (cs := #[.int .i64 a0_0, .slice A0_1 l0_1.length c0_1]) (t := 95) ?hr ?_; (case hd => rfl); (case hg => rfl); (case hr => first | (go_simp; done) | (go_simp; rfl)); intro gb101 hg w3 hbox hb; have n0_ := Aside0.mk (below_step (by repeat (first | (with_reducible first | exact HB.out | apply below_alloc | apply pw_below_drewN | apply below_drew1) | exact HB.out)) hb); have n1_ := Aside0.mk (hbox); have n2_ := Aside0.mk ((by rw [hg]; exact (below_size (by repeat (first | (with_reducible first | exact HB.out | apply below_alloc | apply pw_below_drewN | apply below_drew1) | exact HB.out))) : w.heap.size ≤ gb101)); have n3_ := Aside0.mk ((by rw [hg]; exact (below_size (by repeat (first | (with_reducible first | exact HB.out | apply below_alloc | apply pw_below_drewN | apply below_drew1) | exact HB.out))) : w.heap.size ≤ gb101)); clear HB; have HB := n0_; have BK101 := n1_; have GW101 := n2_; have GE101 := n3_; clear n0_ n1_ n2_ n3_; clear hb hbox hg; have hcz4_0 : w3.cell? ⟨gb101, 0, none⟩ = some (.int .i64 a0_0) := (blk_cell BK101.out 0).trans rfl; have hcz4_1 : w3.cell? ⟨gb101, 1, none⟩ = some (.slice A0_1 l0_1.length c0_1) := (blk_cell BK101.out 1).trans rfl; have hfz4_0 := blk_frozen BK101.out 0; have hfz4_1 := blk_frozen BK101.out 1)))
    go_ret
    exact ⟨by first | rfl | (simp [errW_none, errW_some] <;> rfl) | (simp [*, errW_none, errW_some] <;> rfl), by repeat (first | (with_reducible first | exact HB.out | apply below_alloc | apply pw_below_drewN | apply below_drew1 | refine below_set ?_ GE101.out) | exact HB.out)⟩
  · rw [if_neg c2] at H
    have c2b0 : decide (a0_0 < 0) = false := decide_eq_false c2
    clear c2
    replace H := Option.bind_eq_some_iff.mp H
    obtain ⟨t102, A50, H⟩ := H
    replace H : (if (l0_1.length : Int) = t102 then (if a0_0 = 0 then (some true) else (if 0 ≤ (wrap64 ((l0_1.length : Int) - 1)) then (if (wrap64 ((l0_1.length : Int) - 1)) < (l0_1.length : Int) then ((bitmap_tail.f a0_0).bind fun t104 => (some ((Go.bits .andNot .u64 (rd l0_1 (wrap64 ((l0_1.length : Int) - 1))) t104) == 0))) else (none)) else (none))) else (some false)) = some r := H
    have A5 := Aside0.mk A50
    clear A50
    by_cases c6 : (l0_1.length : Int) = t102
    · rw [if_pos c6] at H
      have c6b0 : ((l0_1.length : Int) == t102) = true := beq_iff_eq.mpr c6
      have c6b1 : ((l0_1.length : Int) != t102) = false := bne_eq_false_iff_eq.mpr c6
      clear c6
      by_cases c7 : a0_0 = 0
      · rw [if_pos c7] at H
        have c7b0 : (a0_0 == 0) = true := beq_iff_eq.mpr c7
        have c7b1 : (a0_0 != 0) = false := bne_eq_false_iff_eq.mpr c7
        clear c7
        obtain rfl := Option.some.inj H
        go_enter Tryd.func62, Tryd.ntmps62
        go_wp2_with (first | ((with_reducible refine gate_dst (N := 1) rfl ?_); (try (refine gate_guard (by rfl) ?_; dsimp only)); refine box_event ?hg (N := 1) ?hd (cs := #[.int .i64 a0_0, .slice A0_1 l0_1.length c0_1]) (t := 95) ?hr ?_; (case hd => rfl); (case hg => rfl); (case hr => first | (go_simp; done) | (go_simp; rfl)); intro gb101 hg w8 hbox hb; have n0_ := Aside0.mk (below_step (by repeat (first | (with_reducible first | exact HB.out | apply below_alloc | apply pw_below_drewN | apply below_drew1) | exact HB.out)) hb); have n1_ := Aside0.mk (hbox); have n2_ := Aside0.mk ((by rw [hg]; exact (below_size (by repeat (first | (with_reducible first | exact HB.out | apply below_alloc | apply pw_below_drewN | apply below_drew1) | exact HB.out))) : w.heap.size ≤ gb101)); have n3_ := Aside0.mk ((by rw [hg]; exact (below_size (by repeat (first | (with_reducible first | exact HB.out | apply below_alloc | apply pw_below_drewN | apply below_drew1) | exact HB.out))) : w.heap.size ≤ gb101)); clear HB; have HB := n0_; have BK101 := n1_; have GW101 := n2_; have GE101 := n3_; clear n0_ n1_ n2_ n3_; clear hb hbox hg; have hcz9_0 : w8.cell? ⟨gb101, 0, none⟩ = some (.int .i64 a0_0) := (blk_cell BK101.out 0).trans rfl; have hcz9_1 : w8.cell? ⟨gb101, 1, none⟩ = some (.slice A0_1 l0_1.length c0_1) := (blk_cell BK101.out 1).trans rfl; have hfz9_0 := blk_frozen BK101.out 0; have hfz9_1 := blk_frozen BK101.out 1) | (go_at_call 74; (with_reducible refine (bitmap_size.calls a0_0 t102 _ A5.out).mono ?_); rintro e w' ⟨rfl, ⟨nd, rfl⟩⟩; (try first | exact ⟨rfl, _, World.drewN_drewN _ _ _⟩ | exact ⟨rfl, _, Eq.trans (World.drewN_drewN _ _ _) (congrArg (World.drewN _) (Nat.add_assoc _ _ _))⟩)))
        repeat (go_quiet (first | ((with_reducible refine gate_dst (N := 1) rfl ?_); (try (refine gate_guard (by rfl) ?_; dsimp only)); refine box_event ?hg (N := 1) ?hd (cs := #[.int .i64 a0_0, .slice A0_1 l0_1.length c0_1]) (t := 95) ?hr ?_; (case hd => rfl); (case hg => rfl); (case hr => first | (go_simp; done) | (go_simp; rfl)); intro gb101 hg w8 hbox hb; have n0_ := Aside0.mk (below_step (by repeat (first | (with_reducible first | exact HB.out | apply below_alloc | apply pw_below_drewN | apply below_drew1) | exact HB.out)) hb); have n1_ := Aside0.mk (hbox); have n2_ := Aside0.mk ((by rw [hg]; exact (below_size (by repeat (first | (with_reducible first | exact HB.out | apply below_alloc | apply pw_below_drewN | apply below_drew1) | exact HB.out))) : w.heap.size ≤ gb101)); have n3_ := Aside0.mk ((by rw [hg]; exact (below_size (by repeat (first | (with_reducible first | exact HB.out | apply below_alloc | apply pw_below_drewN | apply below_drew1) | exact HB.out))) : w.heap.size ≤ gb101)); clear HB; have HB := n0_; have BK101 := n1_; have GW101 := n2_; have GE101 := n3_; clear n0_ n1_ n2_ n3_; clear hb hbox hg; have hcz9_0 : w8.cell? ⟨gb101, 0, none⟩ = some (.int .i64 a0_0) := (blk_cell BK101.out 0).trans rfl; have hcz9_1 : w8.cell? ⟨gb101, 1, none⟩ = some (.slice A0_1 l0_1.length c0_1) := (blk_cell BK101.out 1).trans rfl; have hfz9_0 := blk_frozen BK101.out 0; have hfz9_1 := blk_frozen BK101.out 1) | (go_at_call 74; (with_reducible refine (bitmap_size.calls a0_0 t102 _ A5.out).mono ?_); rintro e w' ⟨rfl, ⟨nd, rfl⟩⟩; (try first | exact ⟨rfl, _, World.drewN_drewN _ _ _⟩ | exact ⟨rfl, _, Eq.trans (World.drewN_drewN _ _ _) (congrArg (World.drewN _) (Nat.add_assoc _ _ _))⟩))); try go_wp2_with (first | ((with_reducible refine gate_dst (N := 1) rfl ?_); (try (refine gate_guard (by rfl) ?_; dsimp only)); refine box_event ?hg (N := 1) ?hd (cs := #[.int .i64 a0_0, .slice A0_1 l0_1.length c0_1]) (t := 95) ?hr ?_; (case hd => rfl); (case hg => rfl); (case hr => first | (go_simp; done) | (go_simp; rfl)); intro gb101 hg w8 hbox hb; have n0_ := Aside0.mk (below_step (by repeat (first | (with_reducible first | exact HB.out | apply below_alloc | apply pw_below_drewN | apply below_drew1) | exact HB.out)) hb); have n1_ := Aside0.mk (hbox); have n2_ := Aside0.mk ((by rw [hg]; exact (below_size (by repeat (first | (with_reducible first | exact HB.out | apply below_alloc | apply pw_below_drewN | apply below_drew1) | exact HB.out))) : w.heap.size ≤ gb101)); have n3_ := Aside0.mk ((by rw [hg]; exact (below_size (by repeat (first | (with_reducible first | exact HB.out | apply below_alloc | apply pw_below_drewN | apply below_drew1) | exact HB.out))) : w.heap.size ≤ gb101)); clear HB; have HB := n0_; have BK101 := n1_; have GW101 := n2_; have GE101 := n3_; clear n0_ n1_ n2_ n3_; clear hb hbox hg; have hcz9_0 : w8.cell? ⟨gb101, 0, none⟩ = some (.int .i64 a0_0) := (blk_cell BK101.out 0).trans rfl; have hcz9_1 : w8.cell? ⟨gb101, 1, none⟩ = some (.slice A0_1 l0_1.length c0_1) := (blk_cell BK101.out 1).trans rfl; have hfz9_0 := blk_frozen BK101.out 0; have hfz9_1 := blk_frozen BK101.out 1) | (go_at_call 74; (with_reducible refine (bitmap_size.calls a0_0 t102 _ A5.out).mono ?_); rintro e w' ⟨rfl, ⟨nd, rfl⟩⟩; (try first | exact ⟨rfl, _, World.drewN_drewN _ _ _⟩ | exact ⟨rfl, _, Eq.trans (World.drewN_drewN _ _ _) (congrArg (World.drewN _) (Nat.add_assoc _ _ _))⟩))))
        go_ret
        exact ⟨by first | rfl | (simp [errW_none, errW_some] <;> rfl) | (simp [*, errW_none, errW_some] <;> rfl), by repeat (first | (with_reducible first | exact HB.out | apply below_alloc | apply pw_below_drewN | apply below_drew1 | refine below_set ?_ GE101.out) | exact HB.out)⟩
      · rw [if_neg c7] at H
        have c7b0 : (a0_0 == 0) = false := beq_eq_false_iff_ne.mpr c7
        have c7b1 : (a0_0 != 0) = true := bne_iff_ne.mpr c7
        obtain ⟨ji10, hji10⟩ : ∃ j_ : Int, (wrap64 ((l0_1.length : Int) - 1)) = j_ := ⟨_, rfl⟩
        replace H : (if 0 ≤ (ji10) then (if (ji10) < (l0_1.length : Int) then ((bitmap_tail.f a0_0).bind fun t104 => (some ((Go.bits .andNot .u64 (rd l0_1 (ji10)) t104) == 0))) else (none)) else (none)) = some r := by first | (rw [hji10] at H; exact H) | (simp only [hji10] at H ⊢; exact H)
        (try rw [hji10] at A5)
        have hji10w : (IntKind.i64.wrap ((l0_1.length : Int) - 1)) = ji10 := (i64_w _).trans hji10
        by_cases c11 : 0 ≤ (ji10)
        · rw [if_pos c11] at H
          have c11b0 : decide (0 ≤ (ji10)) = true := decide_eq_true c11
          clear c11
          by_cases c12 : (ji10) < (l0_1.length : Int)
          · rw [if_pos c12] at H
            have c12b0 : decide ((ji10) < (l0_1.length : Int)) = true := decide_eq_true c12
            clear c12
            replace H := Option.bind_eq_some_iff.mp H
            obtain ⟨t104, A130, H⟩ := H
            replace H : (some ((Go.bits .andNot .u64 (rd l0_1 (ji10)) t104) == 0)) = some r := H
            have A13 := Aside0.mk A130
            clear A130
            obtain rfl := Option.some.inj H
            go_enter Tryd.func62, Tryd.ntmps62
            go_wp2_with (first | ((with_reducible refine gate_dst (N := 1) rfl ?_); (try (refine gate_guard (by rfl) ?_; dsimp only)); refine box_event ?hg (N := 1) ?hd (cs := #[.int .i64 a0_0, .slice A0_1 l0_1.length c0_1]) (t := 95) ?hr ?_; (case hd => rfl); (case hg => rfl); (case hr => first | (go_simp; done) | (go_simp; rfl)); intro gb101 hg w14 hbox hb; have n0_ := Aside0.mk (below_step (by repeat (first | (with_reducible first | exact HB.out | apply below_alloc | apply pw_below_drewN | apply below_drew1) | exact HB.out)) hb); have n1_ := Aside0.mk (hbox); have n2_ := Aside0.mk ((by rw [hg]; exact (below_size (by repeat (first | (with_reducible first | exact HB.out | apply below_alloc | apply pw_below_drewN | apply below_drew1) | exact HB.out))) : w.heap.size ≤ gb101)); have n3_ := Aside0.mk ((by rw [hg]; exact (below_size (by repeat (first | (with_reducible first | exact HB.out | apply below_alloc | apply pw_below_drewN | apply below_drew1) | exact HB.out))) : w.heap.size ≤ gb101)); clear HB; have HB := n0_; have BK101 := n1_; have GW101 := n2_; have GE101 := n3_; clear n0_ n1_ n2_ n3_; clear hb hbox hg; have hcz15_0 : w14.cell? ⟨gb101, 0, none⟩ = some (.int .i64 a0_0) := (blk_cell BK101.out 0).trans rfl; have hcz15_1 : w14.cell? ⟨gb101, 1, none⟩ = some (.slice A0_1 l0_1.length c0_1) := (blk_cell BK101.out 1).trans rfl; have hfz15_0 := blk_frozen BK101.out 0; have hfz15_1 := blk_frozen BK101.out 1) | (go_at_call 74; (with_reducible refine (bitmap_size.calls a0_0 t102 _ A5.out).mono ?_); rintro e w' ⟨rfl, ⟨nd, rfl⟩⟩; (try first | exact ⟨rfl, _, World.drewN_drewN _ _ _⟩ | exact ⟨rfl, _, Eq.trans (World.drewN_drewN _ _ _) (congrArg (World.drewN _) (Nat.add_assoc _ _ _))⟩); have p103 : 0 ≤ ((ji10) : Int) := of_decide_eq_true (by first | (with_reducible assumption) | assumption); have q103 : (ji10) < (l0_1.length : Int) := of_decide_eq_true (by first | (with_reducible assumption) | assumption); obtain ⟨ad103, e103, hx103_0⟩ := Kd.at_int HR0_1.out (ji10) p103 q103; cases e103; replace hx103_0 := (HB.out.cell (World.block_lt_of_cell? w _ hx103_0)).trans hx103_0; replace p103 := eq_true p103; replace q103 := eq_true q103) | (go_at_call 75; (with_reducible refine (bitmap_tail.calls a0_0 t104 _ A13.out).mono ?_); rintro e w' ⟨rfl, ⟨nd, rfl⟩⟩; (try first | exact ⟨rfl, _, World.drewN_drewN _ _ _⟩ | exact ⟨rfl, _, Eq.trans (World.drewN_drewN _ _ _) (congrArg (World.drewN _) (Nat.add_assoc _ _ _))⟩)))
            repeat (go_quiet (first | ((with_reducible refine gate_dst (N := 1) rfl ?_); (try (refine gate_guard (by rfl) ?_; dsimp only)); refine box_event ?hg (N := 1) ?hd (cs := #[.int .i64 a0_0, .slice A0_1 l0_1.length c0_1]) (t := 95) ?hr ?_; (case hd => rfl); (case hg => rfl); (case hr => first | (go_simp; done) | (go_simp; rfl)); intro gb101 hg w14 hbox hb; have n0_ := Aside0.mk (below_step (by repeat (first | (with_reducible first | exact HB.out | apply below_alloc | apply pw_below_drewN | apply below_drew1) | exact HB.out)) hb); have n1_ := Aside0.mk (hbox); have n2_ := Aside0.mk ((by rw [hg]; exact (below_size (by repeat (first | (with_reducible first | exact HB.out | apply below_alloc | apply pw_below_drewN | apply below_drew1) | exact HB.out))) : w.heap.size ≤ gb101)); have n3_ := Aside0.mk ((by rw [hg]; exact (below_size (by repeat (first | (with_reducible first | exact HB.out | apply below_alloc | apply pw_below_drewN | apply below_drew1) | exact HB.out))) : w.heap.size ≤ gb101)); clear HB; have HB := n0_; have BK101 := n1_; have GW101 := n2_; have GE101 := n3_; clear n0_ n1_ n2_ n3_; clear hb hbox hg; have hcz15_0 : w14.cell? ⟨gb101, 0, none⟩ = some (.int .i64 a0_0) := (blk_cell BK101.out 0).trans rfl; have hcz15_1 : w14.cell? ⟨gb101, 1, none⟩ = some (.slice A0_1 l0_1.length c0_1) := (blk_cell BK101.out 1).trans rfl; have hfz15_0 := blk_frozen BK101.out 0; have hfz15_1 := blk_frozen BK101.out 1) | (go_at_call 74; (with_reducible refine (bitmap_size.calls a0_0 t102 _ A5.out).mono ?_); rintro e w' ⟨rfl, ⟨nd, rfl⟩⟩; (try first | exact ⟨rfl, _, World.drewN_drewN _ _ _⟩ | exact ⟨rfl, _, Eq.trans (World.drewN_drewN _ _ _) (congrArg (World.drewN _) (Nat.add_assoc _ _ _))⟩); have p103 : 0 ≤ ((ji10) : Int) := of_decide_eq_true (by first | (with_reducible assumption) | assumption); have q103 : (ji10) < (l0_1.length : Int) := of_decide_eq_true (by first | (with_reducible assumption) | assumption); obtain ⟨ad103, e103, hx103_0⟩ := Kd.at_int HR0_1.out (ji10) p103 q103; cases e103; replace hx103_0 := (HB.out.cell (World.block_lt_of_cell? w _ hx103_0)).trans hx103_0; replace p103 := eq_true p103; replace q103 := eq_true q103) | (go_at_call 75; (with_reducible refine (bitmap_tail.calls a0_0 t104 _ A13.out).mono ?_); rintro e w' ⟨rfl, ⟨nd, rfl⟩⟩; (try first | exact ⟨rfl, _, World.drewN_drewN _ _ _⟩ | exact ⟨rfl, _, Eq.trans (World.drewN_drewN _ _ _) (congrArg (World.drewN _) (Nat.add_assoc _ _ _))⟩))); try go_wp2_with (first | ((with_reducible refine gate_dst (N := 1) rfl ?_); (try (refine gate_guard (by rfl) ?_; dsimp only)); refine box_event ?hg (N := 1) ?hd (cs := #[.int .i64 a0_0, .slice A0_1 l0_1.length c0_1]) (t := 95) ?hr ?_; (case hd => rfl); (case hg => rfl); (case hr => first | (go_simp; done) | (go_simp; rfl)); intro gb101 hg w14 hbox hb; have n0_ := Aside0.mk (below_step (by repeat (first | (with_reducible first | exact HB.out | apply below_alloc | apply pw_below_drewN | apply below_drew1) | exact HB.out)) hb); have n1_ := Aside0.mk (hbox); have n2_ := Aside0.mk ((by rw [hg]; exact (below_size (by repeat (first | (with_reducible first | exact HB.out | apply below_alloc | apply pw_below_drewN | apply below_drew1) | exact HB.out))) : w.heap.size ≤ gb101)); have n3_ := Aside0.mk ((by rw [hg]; exact (below_size (by repeat (first | (with_reducible first | exact HB.out | apply below_alloc | apply pw_below_drewN | apply below_drew1) | exact HB.out))) : w.heap.size ≤ gb101)); clear HB; have HB := n0_; have BK101 := n1_; have GW101 := n2_; have GE101 := n3_; clear n0_ n1_ n2_ n3_; clear hb hbox hg; have hcz15_0 : w14.cell? ⟨gb101, 0, none⟩ = some (.int .i64 a0_0) := (blk_cell BK101.out 0).trans rfl; have hcz15_1 : w14.cell? ⟨gb101, 1, none⟩ = some (.slice A0_1 l0_1.length c0_1) := (blk_cell BK101.out 1).trans rfl; have hfz15_0 := blk_frozen BK101.out 0; have hfz15_1 := blk_frozen BK101.out 1) | (go_at_call 74; (with_reducible refine (bitmap_size.calls a0_0 t102 _ A5.out).mono ?_); rintro e w' ⟨rfl, ⟨nd, rfl⟩⟩; (try first | exact ⟨rfl, _, World.drewN_drewN _ _ _⟩ | exact ⟨rfl, _, Eq.trans (World.drewN_drewN _ _ _) (congrArg (World.drewN _) (Nat.add_assoc _ _ _))⟩); have p103 : 0 ≤ ((ji10) : Int) := of_decide_eq_true (by first | (with_reducible assumption) | assumption); have q103 : (ji10) < (l0_1.length : Int) := of_decide_eq_true (by first | (with_reducible assumption) | assumption); obtain ⟨ad103, e103, hx103_0⟩ := Kd.at_int HR0_1.out (ji10) p103 q103; cases e103; replace hx103_0 := (HB.out.cell (World.block_lt_of_cell? w _ hx103_0)).trans hx103_0; replace p103 := eq_true p103; replace q103 := eq_true q103) | (go_at_call 75; (with_reducible refine (bitmap_tail.calls a0_0 t104 _ A13.out).mono ?_); rintro e w' ⟨rfl, ⟨nd, rfl⟩⟩; (try first | exact ⟨rfl, _, World.drewN_drewN _ _ _⟩ | exact ⟨rfl, _, Eq.trans (World.drewN_drewN _ _ _) (congrArg (World.drewN _) (Nat.add_assoc _ _ _))⟩))))
            go_ret
            exact ⟨by first | rfl | (simp [errW_none, errW_some] <;> rfl) | (simp only [← hji10]; first | rfl | (simp [errW_none, errW_some] <;> rfl)) | (simp [*, errW_none, errW_some] <;> rfl), by repeat (first | (with_reducible first | exact HB.out | apply below_alloc | apply pw_below_drewN | apply below_drew1 | refine below_set ?_ GE101.out) | exact HB.out)⟩
          · rw [if_neg c12] at H
            exact absurd H (by simp)
        · rw [if_neg c11] at H
          exact absurd H (by simp)
    · rw [if_neg c6] at H
      have c6b0 : ((l0_1.length : Int) == t102) = false := beq_eq_false_iff_ne.mpr c6
      have c6b1 : ((l0_1.length : Int) != t102) = true := bne_iff_ne.mpr c6
      obtain rfl := Option.some.inj H
      go_enter Tryd.func62, Tryd.ntmps62
      go_wp2_with (first | ((with_reducible refine gate_dst (N := 1) rfl ?_); (try (refine gate_guard (by rfl) ?_; dsimp only)); refine box_event ?hg (N := 1) ?hd (cs := #[.int .i64 a0_0, .slice A0_1 l0_1.length c0_1]) (t := 95) ?hr ?_; (case hd => rfl); (case hg => rfl); (case hr => first | (go_simp; done) | (go_simp; rfl)); intro gb101 hg w16 hbox hb; have n0_ := Aside0.mk (below_step (by repeat (first | (with_reducible first | exact HB.out | apply below_alloc | apply pw_below_drewN | apply below_drew1) | exact HB.out)) hb); have n1_ := Aside0.mk (hbox); have n2_ := Aside0.mk ((by rw [hg]; exact (below_size (by repeat (first | (with_reducible first | exact HB.out | apply below_alloc | apply pw_below_drewN | apply below_drew1) | exact HB.out))) : w.heap.size ≤ gb101)); have n3_ := Aside0.mk ((by rw [hg]; exact (below_size (by repeat (first | (with_reducible first | exact HB.out | apply below_alloc | apply pw_below_drewN | apply below_drew1) | exact HB.out))) : w.heap.size ≤ gb101)); clear HB; have HB := n0_; have BK101 := n1_; have GW101 := n2_; have GE101 := n3_; clear n0_ n1_ n2_ n3_; clear hb hbox hg; have hcz17_0 : w16.cell? ⟨gb101, 0, none⟩ = some (.int .i64 a0_0) := (blk_cell BK101.out 0).trans rfl; have hcz17_1 : w16.cell? ⟨gb101, 1, none⟩ = some (.slice A0_1 l0_1.length c0_1) := (blk_cell BK101.out 1).trans rfl; have hfz17_0 := blk_frozen BK101.out 0; have hfz17_1 := blk_frozen BK101.out 1) | (go_at_call 74; (with_reducible refine (bitmap_size.calls a0_0 t102 _ A5.out).mono ?_); rintro e w' ⟨rfl, ⟨nd, rfl⟩⟩; (try first | exact ⟨rfl, _, World.drewN_drewN _ _ _⟩ | exact ⟨rfl, _, Eq.trans (World.drewN_drewN _ _ _) (congrArg (World.drewN _) (Nat.add_assoc _ _ _))⟩)))
      repeat (go_quiet (first | ((with_reducible refine gate_dst (N := 1) rfl ?_); (try (refine gate_guard (by rfl) ?_; dsimp only)); refine box_event ?hg (N := 1) ?hd (cs := #[.int .i64 a0_0, .slice A0_1 l0_1.length c0_1]) (t := 95) ?hr ?_; (case hd => rfl); (case hg => rfl); (case hr => first | (go_simp; done) | (go_simp; rfl)); intro gb101 hg w16 hbox hb; have n0_ := Aside0.mk (below_step (by repeat (first | (with_reducible first | exact HB.out | apply below_alloc | apply pw_below_drewN | apply below_drew1) | exact HB.out)) hb); have n1_ := Aside0.mk (hbox); have n2_ := Aside0.mk ((by rw [hg]; exact (below_size (by repeat (first | (with_reducible first | exact HB.out | apply below_alloc | apply pw_below_drewN | apply below_drew1) | exact HB.out))) : w.heap.size ≤ gb101)); have n3_ := Aside0.mk ((by rw [hg]; exact (below_size (by repeat (first | (with_reducible first | exact HB.out | apply below_alloc | apply pw_below_drewN | apply below_drew1) | exact HB.out))) : w.heap.size ≤ gb101)); clear HB; have HB := n0_; have BK101 := n1_; have GW101 := n2_; have GE101 := n3_; clear n0_ n1_ n2_ n3_; clear hb hbox hg; have hcz17_0 : w16.cell? ⟨gb101, 0, none⟩ = some (.int .i64 a0_0) := (blk_cell BK101.out 0).trans rfl; have hcz17_1 : w16.cell? ⟨gb101, 1, none⟩ = some (.slice A0_1 l0_1.length c0_1) := (blk_cell BK101.out 1).trans rfl; have hfz17_0 := blk_frozen BK101.out 0; have hfz17_1 := blk_frozen BK101.out 1) | (go_at_call 74; (with_reducible refine (bitmap_size.calls a0_0 t102 _ A5.out).mono ?_); rintro e w' ⟨rfl, ⟨nd, rfl⟩⟩; (try first | exact ⟨rfl, _, World.drewN_drewN _ _ _⟩ | exact ⟨rfl, _, Eq.trans (World.drewN_drewN _ _ _) (congrArg (World.drewN _) (Nat.add_assoc _ _ _))⟩))); try go_wp2_with (first | ((with_reducible refine gate_dst (N := 1) rfl ?_); (try (refine gate_guard (by rfl) ?_; dsimp only)); refine box_event ?hg (N := 1) ?hd (cs := #[.int .i64 a0_0, .slice A0_1 l0_1.length c0_1]) (t := 95) ?hr ?_; (case hd => rfl); (case hg => rfl); (case hr => first | (go_simp; done) | (go_simp; rfl)); intro gb101 hg w16 hbox hb; have n0_ := Aside0.mk (below_step (by repeat (first | (with_reducible first | exact HB.out | apply below_alloc | apply pw_below_drewN | apply below_drew1) | exact HB.out)) hb); have n1_ := Aside0.mk (hbox); have n2_ := Aside0.mk ((by rw [hg]; exact (below_size (by repeat (first | (with_reducible first | exact HB.out | apply below_alloc | apply pw_below_drewN | apply below_drew1) | exact HB.out))) : w.heap.size ≤ gb101)); have n3_ := Aside0.mk ((by rw [hg]; exact (below_size (by repeat (first | (with_reducible first | exact HB.out | apply below_alloc | apply pw_below_drewN | apply below_drew1) | exact HB.out))) : w.heap.size ≤ gb101)); clear HB; have HB := n0_; have BK101 := n1_; have GW101 := n2_; have GE101 := n3_; clear n0_ n1_ n2_ n3_; clear hb hbox hg; have hcz17_0 : w16.cell? ⟨gb101, 0, none⟩ = some (.int .i64 a0_0) := (blk_cell BK101.out 0).trans rfl; have hcz17_1 : w16.cell? ⟨gb101, 1, none⟩ = some (.slice A0_1 l0_1.length c0_1) := (blk_cell BK101.out 1).trans rfl; have hfz17_0 := blk_frozen BK101.out 0; have hfz17_1 := blk_frozen BK101.out 1) | (go_at_call 74; (with_reducible refine (bitmap_size.calls a0_0 t102 _ A5.out).mono ?_); rintro e w' ⟨rfl, ⟨nd, rfl⟩⟩; (try first | exact ⟨rfl, _, World.drewN_drewN _ _ _⟩ | exact ⟨rfl, _, Eq.trans (World.drewN_drewN _ _ _) (congrArg (World.drewN _) (Nat.add_assoc _ _ _))⟩))))
      go_ret
      exact ⟨by first | rfl | (simp [errW_none, errW_some] <;> rfl) | (simp [*, errW_none, errW_some] <;> rfl), by repeat (first | (with_reducible first | exact HB.out | apply below_alloc | apply pw_below_drewN | apply below_drew1 | refine below_set ?_ GE101.out) | exact HB.out)⟩

section
open Go.Proofs.YtfihkkjkifkemaaDoorQ Go.Proofs.YtfihkkjkifkemaaDoorM Go.Shelf
attribute [local go_sem] Oper.semAt_some
theorem tz_up (q : Nat → Bool) (i k : Nat) (h : upW q i ≠ 0#64) (hk : k = Lib.ctz 64 (upW q i).toNat) (w : World) (hT : TabOk w) :
    Calls Tryd.prog 55 #[.int .u64 (iv (upW q i))] w fun e w' => e = .returned (.int .i64 (k : Int)) ∧ w = w' := by
  have h0 : (upW q i).toNat ≠ 0 := fun e => h (BitVec.eq_of_toNat_eq (by rw [e]; rfl))
  subst hk
  exact (bits_TrailingZeros64.calls (upW q i).toNat (upW q i).isLt h0 w hT.out).mono fun e w' hw => ⟨hw.1, hw.2.symm⟩
set_option maxHeartbeats 4000000 in
set_option maxRecDepth 100000 in
theorem words_Each_1.walk (F : Fence) (HF : Aside0 (F = Fence.wide)) (n : Nat) (hn : 3 ≤ n) (l g1 : Nat) (q : Nat → Bool) (J Jx : List (SetP 64 q) → World → Prop) (W0 : World)
    (hY : ∀ pre (x : SetP 64 q) W, J pre W → pre ++ [x] <+: setP 64 q 64 → YieldAt F (n - 1) Tryd.prog l #[.int .i64 (x.val : Int)] W fun e W' =>
      (e = .returned (.bool true) ∧ J (pre ++ [x]) W' ∧ Keep2 0 0 W W') ∨ (e = .returned (.bool false) ∧ Jx (pre ++ [x]) W'))
    (B1 : Blk W0 g1 #[.int .u64 (iv (word q))] 79) (hT : TabOk W0) (h0 : J [] W0) :
    CallsIn F n Tryd.prog 54 #[.func (.yield l) #[] #[], .pointer (some ⟨g1, 0, none⟩)] W0 fun e W' => (∃ v, e = .returned v) ∧
      ((∃ ys, ys = setP 64 q 64 ∧ J ys W') ∨ (∃ pre, pre <+: setP 64 q 64 ∧ Jx pre W')) := by
  have HY := Aside0.mk hY
  have HJ0 := Aside0.mk h0
  have HT := Aside0.mk hT
  clear hY h0 hT
  have f0 := wide_fn HF 55
  have n1 : 1 ≤ n := by omega
  have n2 : 1 ≤ n - 1 := by omega
  have hro := wide_round HF
  have c1 := B1.cell (i := 0) rfl
  refine callsIn_of_wp Tryd.func54 rfl (wide_fn HF _) ?_ (wide_round HF)
  simp only [Tryd.ntmps54, List.size_toArray, List.length_cons, List.length_nil, Nat.reduceAdd, Nat.reduceSub, Array.replicate_succ, Array.replicate_zero, List.push_toArray, List.append_toArray, List.nil_append, List.cons_append]
  gi_wp2
  gi_loopw [3] (fun v wr => ∃ i : Nat, v = .int .u64 (iv (upW q i)) ∧ Aside0 (i ≤ 64) ∧ Aside0 (J (setP 64 q i) wr) ∧ Aside0 (TabOk wr)) (fun v _ => (intOf v).toNat)
  case atStart => exact ⟨0, by rw [upW_zero], ⟨Nat.zero_le _⟩, HJ0, HT⟩
  case round =>
    clear B1 HJ0 HT c1
    obtain ⟨i, rfl, HI, HJi, HT⟩ := hrel
    by_cases hz : upW q i = 0#64
    · have hz0 : (iv (upW q i) != 0) = false := by rw [hz]; rfl
      have HZ := Aside0.mk hz
      clear hz
      gi_wp2
      go_end0
      have h := HJi.out
      rw [← up_end q i HI.out HZ.out] at h
      exact ⟨⟨_, rfl⟩, .inl ⟨_, rfl, h⟩⟩
    · have hz0 : (iv (upW q i) != 0) = true := by
        rw [bne_iff_ne]
        intro e
        exact hz (iv_inj.1 (e.trans (by decide)))
      obtain ⟨k, hk, h1, h2, h3, h4⟩ := up_set q i hz
      have LESS := Aside0.mk (up_less hz)
      have TZ : Aside0 (∀ w, TabOk w → Calls Tryd.prog 55 #[.int .u64 (iv (upW q i))] w fun e w' => e = .returned (.int .i64 (k : Int)) ∧ w = w') := ⟨fun w hw => tz_up q i k hz h1 w hw⟩
      have NEXT : Aside0 (bits .and .u64 (iv (upW q i)) (IntKind.u64.wrap (iv (upW q i) - 1)) = iv (upW q (k + 1))) := ⟨by
        rw [show (1 : Int) = iv 1#64 from by decide, wrap_sub, bits_and, h4]⟩
      have HK := Aside0.mk hk
      have HS : Aside0 (setP 64 q (k + 1) = setP 64 q i ++ [⟨k, HK.out⟩]) := ⟨h3⟩
      rw [h4] at LESS
      have HL : setP 64 q i ++ [⟨k, HK.out⟩] <+: setP 64 q 64 := by
        rw [← HS.out]
        exact setP_le (by have := HK.out.1; omega)
      obtain ⟨fn, tmps, assign, body, hy, hR⟩ := HY.out (setP 64 q i) ⟨k, HK.out⟩ wr HJi.out HL
      have HR := Aside0.mk hR
      dsimp only at hy
      clear hR h1 h2 h3 h4 hz hk HL
      gi_wp2_with (first
        | (gi_at_call 55; refine (callsIn_of HF (TZ.out _ HT.out)).mono ?_; rintro e w3 ⟨rfl, rfl⟩))
      refine HR.out.mono ?_
      rintro e W6 (⟨rfl, hJ6, hk6⟩ | ⟨rfl, hJx6⟩)
      · have HT6 := Aside0.mk (HT.out.keep hk6)
        have HJ6 := Aside0.mk (show J (setP 64 q (k + 1)) W6 by rw [HS.out]; exact hJ6)
        clear hJ6 hk6
        gi_wp2
        go_roundw
        case rel => exact ⟨k + 1, by rw [NEXT.out], ⟨by have := HK.out.1; omega⟩, HJ6, HT6⟩
        case measure =>
          have := LESS.out
          simp only [intOf]
          rw [NEXT.out]
          unfold iv
          omega
      · have HJ6 := Aside0.mk hJx6
        clear hJx6
        gi_wp2
        refine bodyPost_ret (results_none rfl _ _ _) rfl ?_
        refine ⟨⟨_, rfl⟩, .inr ⟨_, ?_, HJ6.out⟩⟩
        rw [← HS.out]
        exact setP_le (by have := HK.out.1; omega)
theorem set64_lt {q : Nat → Bool} {pre : List (SetP 64 q)} {x : SetP 64 q} (h : pre ++ [x] <+: setP 64 q 64) : pre.length < 64 := by
  have h1 := h.length_le
  have h2 := setP_length (n := 64) (q := q) 64
  rw [List.length_append, List.length_singleton] at h1
  omega
/-- What Each hands back tells the set places, rising. -/
theorem words_Each_1.stops (F : Fence) (HF : Aside0 (F = Fence.wide)) (n : Nat) (hn : 3 ≤ n) (g1 : Nat) (q : Nat → Bool) (w : World)
    (B1 : Blk w g1 #[.int .u64 (iv (word q))] 79) (hT : TabOk w) :
    SeqStopsK F n Tryd.prog 54 #[.pointer (some ⟨g1, 0, none⟩)] (fun x : SetP 64 q => #[.int .i64 (x.val : Int)]) (Keep2 0 0) (fun ys => ys = setP 64 q 64) (fun pre => pre <+: setP 64 q 64) 64 w := by
  intro l J Jx W hW _ _ hY h0
  exact words_Each_1.walk F HF n hn l g1 q J Jx W (fun pre x A hA hp => hY pre x A hA (set64_lt hp)) (B1.below hW) (hT.step hW) h0
/-- The same in the wider form. -/
theorem words_Each_1.stopsO (F : Fence) (HF : Aside0 (F = Fence.wide)) (n : Nat) (hn : 3 ≤ n) (g1 : Nat) (q : Nat → Bool) (w : World)
    (B1 : Blk w g1 #[.int .u64 (iv (word q))] 79) (hT : TabOk w) :
    SeqO F n Tryd.prog 54 #[.pointer (some ⟨g1, 0, none⟩)] (fun x : SetP 64 q => #[.int .i64 (x.val : Int)]) (Keep2 0 0) (fun ys => ys = setP 64 q 64) (fun pre => pre <+: setP 64 q 64) w := by
  intro l J Jx W hW _ _ _ _ hY h0
  refine (words_Each_1.walk F HF n hn l g1 q (J []) Jx W (fun pre x A hA hp => (hY [] pre x A (fun k hk => (List.not_mem_nil hk).elim) hA hp).mono fun e A' h => h.2.2) (B1.below hW) (hT.step hW) h0).mono ?_
  rintro e W' ⟨hv, (⟨ys, h1, h2⟩ | h)⟩
  · exact ⟨hv, .inl ⟨ys, [], h1, fun k hk => (List.not_mem_nil hk).elim, h2⟩⟩
  · exact ⟨hv, .inr h⟩
end


open Go.Proofs.YtfihkkjkifkemaaDoorQ Go.Proofs.YtfihkkjkifkemaaDoorM in
set_option maxHeartbeats 4000000 in
set_option maxRecDepth 100000 in
theorem words_Each.calls (x : Int) (w : World) :
    Calls Tryd.prog 38 #[.int .u64 x] w fun e w' => ∃ g1 : Nat, e = .returned (.func (.func 54) #[] #[.pointer (some ⟨g1, 0, none⟩)]) ∧
      w.heap.size ≤ g1 ∧ Blk w' g1 #[.int .u64 x] 79 ∧ BelowH w w' := by
  have HB := BelowH.refl w
  go_enter Tryd.func38, Tryd.ntmps38
  go_wp2_with (first | ((with_reducible refine gate_dst (N := 1) rfl ?_); refine ev_alloc HB rfl (#[.int .u64 x]) 79 ?hr ?_; (case hr => first | (go_simp; done) | (go_simp; rfl)); intro g1 w1 G_g1 GE_g1 B_g1 HBn K_g1; clear HB; have HB := HBn; clear HBn))
  go_ret
  exact ⟨g1, rfl, GE_g1.out, B_g1, HB⟩


section
open Go.Proofs.YtfihkkjkifkemaaDoorQ Go.Proofs.YtfihkkjkifkemaaDoorM Go.Shelf
attribute [local go_sem] Oper.semAt_some
/-- A row of words, as a variable holds it: in block g. -/
structure RowV (v : Value) (g : Nat) (l : List Int) (W : World) : Prop where mk ::
  out : (v = .slice none 0 0 ∧ l = []) ∨ ∃ cap cur, v = .slice (some ⟨g, 0, none⟩) l.length cap ∧ Blk W g cur 79 ∧ RowA cur (l.map (Value.int .u64))
theorem RowV.heap {v : Value} {g : Nat} {l : List Int} {W W' : World} (h : RowV v g l W) (e : W'.heap[g]? = W.heap[g]?) : RowV v g l W' := by
  rcases h.out with h0 | ⟨cap, cur, h1, h2, h3⟩
  · exact ⟨.inl h0⟩
  · exact ⟨.inr ⟨cap, cur, h1, ⟨e.trans h2.out⟩, h3⟩⟩
/-- The set places of a row of words. -/
def bitL (l : List Int) (p : Nat) : Bool := (l.getD (p / 64) 0).toNat.testBit (p % 64)
theorem iv_bitsE {x : Int} (h0 : 0 ≤ x) (h1 : x < 18446744073709551616) : x = iv (word fun j => x.toNat.testBit j) := by
  obtain ⟨v, rfl⟩ := iv_of h0 h1
  exact congrArg iv (eq_word fun i _ => rfl)
theorem bitL_word (l : List Int) (i : Nat) (h : ∀ x ∈ l, 0 ≤ x ∧ x < 18446744073709551616) (hi : i < l.length) : (l.map (Value.int .u64))[i]? = some (.int .u64 (iv (word fun j => bitL l (64 * i + j)))) := by
  have hg : l[i]? = some (l.getD i 0) := by rw [List.getD_eq_getElem?_getD, List.getElem?_eq_getElem hi]; rfl
  rw [List.getElem?_map, hg, Option.map_some]
  obtain ⟨h0, h1⟩ := h (l.getD i 0) (List.mem_of_getElem? hg)
  have e : word (fun j => bitL l (64 * i + j)) = word (fun j => (l.getD i 0).toNat.testBit j) := word_ext fun j hj => by
    unfold bitL
    rw [show (64 * i + j) / 64 = i by omega, show (64 * i + j) % 64 = j by omega]
  rw [e, ← iv_bitsE h0 h1]
/-- The places of one word among those of the row. -/
def inRow (l : List Int) (i : Nat) (hi : i < l.length) (x : SetP 64 fun j => bitL l (64 * i + j)) : SetP (64 * l.length) (bitL l) := ⟨64 * i + x.val, by have := x.2.1; omega, x.2.2⟩
theorem row_set (l : List Int) (i : Nat) (hi : i < l.length) : ∀ k, k ≤ 64 → setP (64 * l.length) (bitL l) (64 * i + k) = setP (64 * l.length) (bitL l) (64 * i) ++ (setP 64 (fun j => bitL l (64 * i + j)) k).map (inRow l i hi)
  | 0, _ => by simp [setP]
  | k + 1, hk => by
    have ih := row_set l i hi k (by omega)
    by_cases h : bitL l (64 * i + k) = true
    · rw [show 64 * i + (k + 1) = (64 * i + k) + 1 by omega, setP_at ⟨by omega, h⟩, setP_at (n := 64) (q := fun j => bitL l (64 * i + j)) ⟨by omega, h⟩, ih, List.map_append, ← List.append_assoc]
      rfl
    · rw [show 64 * i + (k + 1) = (64 * i + k) + 1 by omega, setP_skip (fun c => h c.2), setP_skip (n := 64) (q := fun j => bitL l (64 * i + j)) (fun c => h c.2), ih]
/-- Between two set bits of one word. -/
structure BEI (α : Type) (J : List Nat → List α → World → Prop) (X : List Nat) (pre0 : List α) {β : Type} (f : β → α) (g2 g5 : Nat) (l i : Nat) (v : Value) (gr : Nat) (L : List Int) (W0 : World) (Ds : List Nat) (m : Nat) (pre : List β) (W : World) : Prop where mk ::
  j : J X (pre0 ++ pre.map f) W
  b2 : Blk W g2 #[.func (.yield l) #[] #[]] 108
  b5 : Blk W g5 #[.int .i64 (i : Int)] 3
  rv : RowV v gr L W
  ht : TabOk W
  mk_ : Marks W0.heap.size Ds W
  sz : m ≤ W.heap.size
theorem RowV.kept {v : Value} {g : Nat} {l : List Int} {W W' : World} (h : RowV v g l W) {row : Option Nat} (hg : W.grownBy W' row) (hr : ∀ r, row = some r → ∃ o : Obj, W.heap[r]? = some o ∧ o.isCells = false) : RowV v g l W' := by
  rcases h.out with h0 | ⟨cap, cur, h1, h2, h3⟩
  · exact ⟨.inl h0⟩
  · exact ⟨.inr ⟨cap, cur, h1, h2.kept hg hr, h3⟩⟩
theorem RowV.below {v : Value} {g : Nat} {l : List Int} {W W' : World} (h : RowV v g l W) (hb : Below W.heap.size W W') : RowV v g l W' := by
  rcases h.out with h0 | ⟨cap, cur, h1, h2, h3⟩
  · exact ⟨.inl h0⟩
  · exact ⟨.inr ⟨cap, cur, h1, h2.below hb, h3⟩⟩
theorem BEI.kept {α : Type} {J : List Nat → List α → World → Prop} {X : List Nat} {pre0 : List α} {β : Type} {f : β → α} {g2 g5 l i : Nat} {v : Value} {gr : Nat} {L : List Int} {W0 : World} {Ds : List Nat} {m : Nat} {pre : List β} {W W' : World}
    (h : BEI α J X pre0 f g2 g5 l i v gr L W0 Ds m pre W) (hJ : OwnFrom W0.heap.size (J X)) (hm : W0.heap.size ≤ m) (hD : ∀ D ∈ Ds, D < m) {row : Option Nat} (hg : W.grownBy W' row) (hr : ∀ r, row = some r → m ≤ r ∧ ∃ o : Obj, W.heap[r]? = some o ∧ o.isCells = false) : BEI α J X pre0 f g2 g5 l i v gr L W0 Ds m pre W' := by
  have hr' : ∀ r, row = some r → ∃ o : Obj, W.heap[r]? = some o ∧ o.isCells = false := fun r e => (hr r e).2
  exact ⟨hJ _ _ _ _ h.j hg (fun r e => ⟨Nat.le_trans hm (hr r e).1, (hr r e).2⟩), h.b2.kept hg hr', h.b5.kept hg hr', h.rv.kept hg hr', h.ht.kept hg hr', h.mk_.grown hg hD (fun r e => (hr r e).1), Nat.le_trans h.sz hg.size⟩
set_option maxHeartbeats 4000000 in
set_option maxRecDepth 100000 in
theorem bitmap_Each_1.stops (F : Fence) (HF : Aside0 (F = Fence.wide)) (n : Nat) (hn : 5 ≤ n) (g3 gr : Nat) (v : Value) (L : List Int) (hL : ∀ x ∈ L, 0 ≤ x ∧ x < 18446744073709551616) (hl8 : L.length ≤ 17592186044416) (w : World)
    (B3 : Blk w g3 #[v] 93) (hRV : RowV v gr L w) (hgr : gr < w.heap.size) (hT : TabOk w) :
    SeqO F n Tryd.prog 63 #[.pointer (some ⟨g3, 0, none⟩)] (fun x : SetP (64 * L.length) (bitL L) => #[.int .i64 (x.val : Int)]) (Keep2 0 gr) (fun ys => ys = setP (64 * L.length) (bitL L) (64 * L.length)) (fun pre => pre <+: setP (64 * L.length) (bitL L) (64 * L.length)) w := by
  intro l J Jx W0 hW hJo hJxo hE hA hY h0
  have HAB := Aside0.mk hA
  clear hA
  have HY := Aside0.mk hY
  have HJ0 := Aside0.mk h0
  have HT := Aside0.mk (hT.step hW)
  have HRV := Aside0.mk (hRV.below hW)
  have HGR := Aside0.mk (Nat.lt_of_lt_of_le hgr hW.size)
  have HJO := Aside0.mk hJo
  have HJXO := Aside0.mk hJxo
  have HE := Aside0.mk hE
  have HL := Aside0.mk hL
  have HL8 := Aside0.mk hl8
  have C3 := B3.below hW
  clear hJo hJxo hE hY h0 hT hRV hgr hW hL hl8 B3
  have f0 := wide_fn HF 38
  have f2 := wide_fn HF 54
  have n1 : 1 ≤ n := by omega
  have n2 : 1 ≤ n - 1 := by omega
  have n3 : 1 ≤ n - 1 - 1 := by omega
  have hro := wide_round HF
  have HB := BelowH.refl W0
  have c3 := C3.cell (i := 0) rfl
  rcases HRV.out.out with ⟨rfl, rfl⟩ | ⟨cap, cur, rfl, _, _⟩
  · refine callsIn_of_wp_marks Tryd.func63 rfl (wide_fn HF _) ?_ hro
    simp only [Tryd.ntmps63, List.size_toArray, List.length_cons, List.length_nil, Nat.reduceAdd, Nat.reduceSub, Array.replicate_succ, Array.replicate_zero, List.push_toArray, List.append_toArray, List.nil_append, List.cons_append]
    gi_wp2_with (first
      | (((with_reducible refine gate_dstIn (N := 2) rfl ?_); refine ev_allocIn HB rfl rfl (#[.func (.yield l) #[] #[]]) 108 ?hr ?_; (case hr => first | (go_simp; done) | (go_simp; rfl)); intro g2 w2 G_g2 GE_g2 B_g2 HBn K_g2 KO_w2; clear HB; have HB := HBn; clear HBn); have c3' := (C3.below K_g2.out).cell (i := 0) rfl))
    refine wpIn_loopM (fun k a W => a = { tmps := #[.func (.yield l) #[] #[], .pointer (some ⟨g3, 0, none⟩), .pointer (some ⟨g2, 0, none⟩), undef, undef, undef, .slice none 0 0, .int .i64 0, .int .i64 0, undef, undef, undef, undef, undef, undef, undef, undef, undef, undef, undef, undef, undef, undef, undef], defers := [] } ∧ W = w2) 0 ⟨rfl, rfl⟩ ?_
    rintro k a W ⟨rfl, rfl⟩ K hK
    gi_wp2
    exact ⟨_, results_none rfl _ _ _, ⟨_, rfl⟩, .inl ⟨[], [], rfl, fun k hk => (List.not_mem_nil hk).elim, HJO.out [] [] _ _ none HJ0.out ⟨K_g2.out.os, K_g2.out.tape, K_g2.out.output, K_g2.out.size, fun k hk _ => K_g2.out.block k hk⟩ (fun r e => by cases e)⟩⟩
  refine callsIn_of_wp_marks Tryd.func63 rfl (wide_fn HF _) ?_ hro
  simp only [Tryd.ntmps63, List.size_toArray, List.length_cons, List.length_nil, Nat.reduceAdd, Nat.reduceSub, Array.replicate_succ, Array.replicate_zero, List.push_toArray, List.append_toArray, List.nil_append, List.cons_append]
  gi_wp2_with (first
    | (((with_reducible refine gate_dstIn (N := 2) rfl ?_); refine ev_allocIn HB rfl rfl (#[.func (.yield l) #[] #[]]) 108 ?hr ?_; (case hr => first | (go_simp; done) | (go_simp; rfl)); intro g2 w2 G_g2 GE_g2 B_g2 HBn K_g2 KO_w2; clear HB; have HB := HBn; clear HBn); have c3' := (C3.below K_g2.out).cell (i := 0) rfl))
  have HJ2 := Aside0.mk (HJO.out [g2] [] _ _ none (HE.out [] [] W0 g2 HJ0.out G_g2.out) ⟨K_g2.out.os, K_g2.out.tape, K_g2.out.output, K_g2.out.size, fun k hk _ => K_g2.out.block k hk⟩ (fun r e => by cases e))
  have HX2 : Aside0 (∀ k ∈ [g2], W0.heap.size ≤ k ∧ k < w2.heap.size) := ⟨fun k hk => by rw [List.mem_singleton.1 hk]; exact ⟨G_g2.out, B_g2.lt⟩⟩
  have HRV2 := Aside0.mk (HRV.out.below K_g2.out)
  have HT2 := Aside0.mk (HT.out.step K_g2.out)
  have HZ2 := Aside0.mk K_g2.out.size
  refine wpIn_loopM (fun m a W => ∃ (i : Nat) (X Ds : List Nat) (z8 : Int) (u3 u4 u5 u9 u10 u11 u12 u13 u14 u15 u16 u17 u18 u19 u20 u21 u22 u23 : Value), m = L.length - i ∧ z8 = (i : Int) ∧ i ≤ L.length ∧ a = { tmps := #[.func (.yield l) #[] #[], .pointer (some ⟨g3, 0, none⟩), .pointer (some ⟨g2, 0, none⟩), u3, u4, u5, .slice (some ⟨gr, 0, none⟩) L.length cap, .int .i64 (L.length : Int), .int .i64 z8, u9, u10, u11, u12, u13, u14, u15, u16, u17, u18, u19, u20, u21, u22, u23], defers := marksD Ds } ∧
    Aside0 (J X (setP (64 * L.length) (bitL L) (64 * i)) W) ∧ Aside0 (g2 ∈ X ∧ ∀ k ∈ X, W0.heap.size ≤ k ∧ k < W.heap.size) ∧ Aside0 (Blk W g2 #[.func (.yield l) #[] #[]] 108) ∧ Aside0 (RowV (.slice (some ⟨gr, 0, none⟩) L.length cap) gr L W) ∧ Aside0 (TabOk W) ∧ Aside0 (Marks W0.heap.size Ds W) ∧ Aside0 (W0.heap.size ≤ W.heap.size)) L.length
    ⟨0, [g2], [], 0, _, _, _, _, _, _, _, _, _, _, _, _, _, _, _, _, _, _, rfl, rfl, Nat.zero_le _, rfl, HJ2, ⟨List.mem_singleton.2 rfl, HX2.out⟩, ⟨B_g2⟩, HRV2, HT2, ⟨Marks.nil⟩, HZ2⟩ ?_
  rintro m a W ⟨i, X, Ds, z8, u3, u4, u5, u9, u10, u11, u12, u13, u14, u15, u16, u17, u18, u19, u20, u21, u22, u23, rfl, hz8, hi, rfl, HJ, HX, B2, HRV, HT, HM, HZ⟩ K hK
  have HKK := Aside0.mk hK
  clear hK HJ0 HJ2 HX2 HRV2 HT2 HZ2 B_g2 C3 c3 c3' HB K_g2 KO_w2 G_g2 GE_g2
  by_cases hlt : i < L.length
  · have HLT := Aside0.mk hlt
    rcases HRV.out.out with ⟨h0, _⟩ | ⟨cap', cur', he, BG, HA⟩
    · cases h0
    have cw := BG.cell (HA.get (bitL_word L i HL.out hlt))
    obtain ⟨x, hx⟩ : ∃ x, x = iv (word fun j => bitL L (64 * i + j)) := ⟨_, rfl⟩
    rw [← hx] at cw
    have HX0 := Aside0.mk hx
    have hq1 : (i : Int) < (L.length : Int) := by omega
    have hq2 : (0 : Int) ≤ (i : Int) := by omega
    subst hz8
    have HB := BelowH.refl W
    clear hx hlt BG HA he hi
    gi_wp2_with (first
      | ((with_reducible refine gate_dstIn (N := 3) rfl ?_); refine ev_allocIn HB rfl rfl (#[.int .i64 0]) 3 ?hr ?_; (case hr => first | (go_simp; done) | (go_simp; rfl)); intro g5 w5 G_g5 GE_g5 B_g5 HBn K_g5 KO_w5; clear HB; have HB := HBn; clear HBn)
      | ((with_reducible refine gate_In (Op.store 3 (.tmp 3) (.tmp 10)) rfl ?_); refine ev_store1In (i := 0) HB B_g5 GE_g5 rfl 3 _ _ rfl rfl (.int .i64 (i : Int)) rfl (by simp) (by kernel_rfl) rfl ?_; intro w6 B6 HBn K_w6 KO_w6; clear HB; have HB := HBn; clear HBn)
      | (gi_at_call 38; refine (callsIn_of HF (words_Each.calls x _)).mono ?_; rintro e w7 ⟨g1, rfl, GE1, B1, HB7⟩))
    have HBW := HB.step HB7.out
    have B5 := B6.below HB7.out
    have E2 := B2.out.below HBW.out
    have RV7 := HRV.out.below HBW.out
    have HT7 := Aside0.mk (HT.out.step HBW.out)
    have HM7 := HM.out.below HBW.out
    have hD7 : ∀ D ∈ Ds, D < w7.heap.size := fun D hD => HM7.lt hD
    have hm7 : W0.heap.size ≤ w7.heap.size := Nat.le_trans HZ.out HBW.le
    have G15 : W.heap.size ≤ g1 := by have := HB.le; omega
    have HJ7 := HJO.out (g1 :: g5 :: X) _ _ _ none (HE.out _ _ _ g1 (HE.out _ _ _ g5 HJ.out G_g5.out) G15) ⟨HBW.out.os, HBW.out.tape, HBW.out.output, HBW.out.size, fun k hk _ => HBW.out.block k hk⟩ (fun r e => by cases e)
    have HXX : Aside0 (∀ k ∈ g1 :: g5 :: X, W0.heap.size ≤ k ∧ k < w7.heap.size) := ⟨fun k hk => by
      have z1 := HZ.out
      have z2 := HBW.le
      have z3 := B1.lt
      have z4 := B5.lt
      have z5 := G_g5.out
      rcases List.mem_cons.1 hk with rfl | hk
      · omega
      · rcases List.mem_cons.1 hk with rfl | hk
        · omega
        · have := HX.out.2 k hk
          omega⟩
    rw [HX0.out] at B1
    have P0 := HT7.out.pos
    have L1 := B1.lt
    have HP := Aside0.mk (And.intro hD7 hm7)
    have HG2 := Aside0.mk HX.out.1
    clear HB HB7 B6 B_g5 K_g5 K_w6 KO_w5 KO_w6 G_g5 GE_g5 GE1 G15 hD7 hm7 HX B2 HRV HT HM HJ cw
    refine wpIn_rangeFunc_O hro n1 (gf := 54) (lb := #[.pointer (some ⟨g1, 0, none⟩)]) rfl f2 (enters_of Tryd.func54 (by kernel_rfl) rfl)
      (words_Each_1.stopsO F HF (n - 1) (by omega) g1 (fun j => bitL L (64 * i + j)) w7 B1 HT7.out) Keep2.trans (fun W l o o' hl ho hc hw => Keep2.putObj P0 P0 W l o o' hl ho hc hw) (Below.refl _ _) (fun _ => rfl)
      (fun X' => BEI _ J (X' ++ g1 :: g5 :: X) (setP (64 * L.length) (bitL L) (64 * i)) (inRow L i HLT.out) g2 g5 l i (.slice (some ⟨gr, 0, none⟩) L.length cap) gr L W0 Ds w7.heap.size)
      (fun c pre W => c = .ret ∧ Jx (setP (64 * L.length) (bitL L) (64 * i) ++ pre.map (inRow L i HLT.out)) W ∧ Marks W0.heap.size Ds W)
      (fun _ pre A B row hs hg hr => hs.kept (HJO.out _) HP.out.2 HP.out.1 hg hr)
      (fun c pre A B row hs hg hr => ⟨hs.1, HJXO.out _ _ _ _ hs.2.1 hg (fun r e => ⟨Nat.le_trans HP.out.2 (hr r e).1, (hr r e).2⟩), hs.2.2.grown hg HP.out.1 (fun r e => (hr r e).1)⟩)
      (fun X' pre A k h hk => ⟨HE.out _ _ _ k h.j hk, h.b2, h.b5, h.rv, h.ht, h.mk_, h.sz⟩)
      (fun X' pre A C hX' h ht => by
        have z1 := HP.out.2
        have z2 := h.sz
        have hXA : ∀ k ∈ X' ++ g1 :: g5 :: X, W0.heap.size ≤ k := fun k hk => by
          rcases List.mem_append.1 hk with hk | hk
          · have := hX' k hk
            omega
          · exact (HXX.out k hk).1
        have n2 : g2 ∉ X' := not_mem_above hX' (HXX.out g2 (List.mem_cons_of_mem _ (List.mem_cons_of_mem _ HG2.out))).2
        have n5 : g5 ∉ X' := not_mem_above hX' (HXX.out g5 (List.mem_cons_of_mem _ (List.mem_cons_self ..))).2
        have nr : gr ∉ X' := not_mem_above hX' (by have := HGR.out; omega)
        have n0 : 0 ∉ X' := not_mem_above hX' (by have := HT7.out.pos; omega)
        exact ⟨HAB.out _ _ _ _ hXA h.j (ht.mono fun k hk => List.mem_append_left _ hk), h.b2.turned ht n2, h.b5.turned ht n5, h.rv.heap (ht.block gr (by have := HGR.out; omega) nr), h.ht.heap (ht.block 0 h.ht.pos n0), h.mk_.same (fun D hD => ht.block D (h.mk_.lt hD) (not_mem_above hX' (HP.out.1 D hD))), Nat.le_trans h.sz ht.size⟩)
      ⟨by rw [List.map_nil, List.append_nil]; exact HJ7, E2, B5, RV7, HT7.out, HM7, Nat.le_refl _⟩
      (fun y a' W => a' = { tmps := #[.func (.yield l) #[] #[], .pointer (some ⟨g3, 0, none⟩), .pointer (some ⟨g2, 0, none⟩), .pointer (some ⟨g5, 0, none⟩), .int .u64 x, .int .i64 ((y.val : Nat) : Int), .slice (some ⟨gr, 0, none⟩) L.length cap, .int .i64 (L.length : Int), .int .i64 (i : Int), .bool true, .int .i64 (i : Int), .pointer (some ⟨gr, i, none⟩), .int .u64 x, .int .u64 x, .func (.func 54) #[] #[.pointer (some ⟨g1, 0, none⟩)], .int .i64 ((y.val : Nat) : Int), u16, u17, u18, u19, u20, u21, u22, u23], defers := [] })
      (fun x a' pre A B row hs hg hr => hs)
      ?assign ?body ?done ?stop
    case assign =>
      intro X' l' pre y W K' hX' hI hsp hK'
      dsimp only
      gi_wp2
      exact hK' _ _ ((KeepsOthers.refl _).from _) (fun _ _ => rfl) ⟨rfl, rfl, Nat.le_refl _⟩ hI rfl
    case body =>
      rintro X' l' pre y a' W' hX' hl ⟨r, hr⟩ hI rfl hsp
      clear hr
      have hpx : (setP (64 * L.length) (bitL L) (64 * i) ++ pre.map (inRow L i HLT.out)) ++ [inRow L i HLT.out y] <+: setP (64 * L.length) (bitL L) (64 * L.length) := by
        have h1 := row_set L i HLT.out 64 (Nat.le_refl _)
        refine List.IsPrefix.trans ?_ (setP_le (i := 64 * i + 64) (by have := HLT.out; omega))
        rw [h1, List.append_assoc]
        refine (List.prefix_append_right_inj _).2 ?_
        have h2 := hsp.map (inRow L i HLT.out)
        rwa [List.map_append] at h2
      have hXi : ∀ k ∈ X' ++ g1 :: g5 :: X, W0.heap.size ≤ k ∧ k < W'.heap.size := fun k hk => by
        rcases List.mem_append.1 hk with hk | hk
        · have := hX' k hk
          have := HP.out.2
          omega
        · have := HXX.out k hk
          have := hI.sz
          omega
      obtain ⟨fn, tmps, assign, body, hy, hR⟩ := HY.out (X' ++ g1 :: g5 :: X) _ (inRow L i HLT.out y) W' hXi hI.j hpx
      have e64 : (((inRow L i HLT.out y).val : Nat) : Int) = 64 * (i : Int) + ((y.val : Nat) : Int) := by
        show ((64 * i + y.val : Nat) : Int) = _
        omega
      rw [e64] at hy
      have HR := Aside0.mk hR
      have c2 := hI.b2.cell (i := 0) rfl
      have c5 := hI.b5.cell (i := 0) rfl
      have hb1 : (i : Int) ≤ 17592186044416 := by have := HL8.out; have := HLT.out; omega
      have hb2 : ((y.val : Nat) : Int) < 64 := by have := y.2.1; omega
      have hw1 : wrap64 (64 * (i : Int)) = 64 * (i : Int) := by unfold wrap64; omega
      have hw2 : wrap64 (64 * (i : Int) + ((y.val : Nat) : Int)) = 64 * (i : Int) + ((y.val : Nat) : Int) := by unfold wrap64; omega
      clear hR e64 hpx hXi hsp
      gi_wp2
      refine (roundIn_wide HF HR.out).mono ?_
      rintro e W2 ⟨hkf, hx, (⟨rfl, hJ2, hk2⟩ | ⟨rfl, hJx2⟩)⟩
      · have R5 := hx g5 (List.mem_append_right _ (List.mem_cons_of_mem _ (List.mem_cons_self ..)))
        have R2 := hx g2 (List.mem_append_right _ (List.mem_cons_of_mem _ (List.mem_cons_of_mem _ HG2.out)))
        have HJ2 := Aside0.mk hJ2
        clear hJ2
        gi_wp2
        refine ⟨KeepsFrom.up hkf HP.out.2, fun k hk => hx k (List.mem_append_left _ hk), ⟨hk2.1, hk2.1, hkf.size⟩, ?_, ⟨R2.trans hI.b2.out⟩, ⟨R5.trans hI.b5.out⟩, hI.rv.heap hk2.2.1, hI.ht.keep hk2, hI.mk_.keeps hkf (Nat.le_refl _), Nat.le_trans hI.sz hkf.size⟩
        rw [List.map_append, ← List.append_assoc]
        exact HJ2.out
      · have HJ2 := Aside0.mk hJx2
        clear hJx2
        gi_wp2
        refine ⟨KeepsFrom.up hkf HP.out.2, fun k hk => hx k (List.mem_append_left _ hk), rfl, ?_, hI.mk_.keeps hkf (Nat.le_refl _)⟩
        rw [List.map_append, ← List.append_assoc]
        exact HJ2.out
    case done =>
      rintro D X' ys W' hD hX' rfl hI hK'
      have HXD := Aside0.mk hX'
      clear hX'
      have HDn : D ∉ Ds := fun c => by have := HP.out.1 D c; omega
      have HM' := Aside0.mk (hI.mk_.cons (Nat.le_trans HP.out.2 hD) hK' HDn)
      have hI' := Aside0.mk hI
      have hb1 : (i : Int) ≤ 17592186044416 := by have := HL8.out; have := HLT.out; omega
      have hw1 : wrap64 ((i : Int) + 1) = (i : Int) + 1 := by unfold wrap64; omega
      have HD' := Aside0.mk (Nat.le_trans HP.out.2 hI.sz)
      clear hI hK' hD HDn
      gi_wp2
      refine HKK.out (L.length - (i + 1)) _ _ (by have := HLT.out; omega) ⟨i + 1, X' ++ g1 :: g5 :: X, D :: Ds, _, _, _, _, _, _, _, _, _, _, _, _, _, _, _, _, _, _, _, rfl, by omega, by have := HLT.out; omega, rfl, ?_, ⟨List.mem_append_right _ (List.mem_cons_of_mem _ (List.mem_cons_of_mem _ HG2.out)), fun k hk => by
        rcases List.mem_append.1 hk with hk | hk
        · have := HXD.out k hk
          have := HP.out.2
          omega
        · have := HXX.out k hk
          have := hI'.out.sz
          omega⟩, ⟨hI'.out.b2⟩, ⟨hI'.out.rv⟩, ⟨hI'.out.ht⟩, HM', HD'⟩
      refine ⟨?_⟩
      rw [show 64 * (i + 1) = 64 * i + 64 by omega, row_set L i HLT.out 64 (Nat.le_refl _)]
      exact hI'.out.j
    case stop =>
      rintro D c pre W' hD hp ⟨rfl, hJ2, hM2⟩ hK'
      have HDn : D ∉ Ds := fun c => by have := HP.out.1 D c; omega
      have HM' := Aside0.mk (hM2.cons (Nat.le_trans HP.out.2 hD) hK' HDn)
      have HJ2 := Aside0.mk hJ2
      have HPR := Aside0.mk hp
      clear hJ2 hM2 hK' hD HDn hp
      gi_wp2
      refine leaves_marksS (S := fun A => Jx (setP (64 * L.length) (bitL L) (64 * i) ++ pre.map (inRow L i HLT.out)) A) (fun A D' hs h1 h2 => HJXO.out.putObj _ hs h1 h2 rfl) (D :: Ds) W' HJ2.out HM'.out fun A hA => ⟨_, results_none rfl _ _ _, ⟨_, rfl⟩, .inr ⟨_, ?_, hA⟩⟩
      have h1 := row_set L i HLT.out 64 (Nat.le_refl _)
      refine List.IsPrefix.trans ?_ (setP_le (i := 64 * i + 64) (by have := HLT.out; omega))
      rw [h1]
      exact (List.prefix_append_right_inj _).2 (HPR.out.map _)
  · have EI : i = L.length := by omega
    subst hz8
    have hq1 : decide (i < L.length) = false := decide_eq_false (by omega)
    have HI := Aside0.mk EI
    clear EI hlt hi
    gi_wp2
    refine leaves_marksS (S := fun A => J X (setP (64 * L.length) (bitL L) (64 * i)) A ∧ W.heap.size ≤ A.heap.size) (fun A D' hs h1 h2 => ⟨(HJO.out X).putObj _ hs.1 h1 h2 rfl, by simpa using hs.2⟩) Ds W ⟨HJ.out, Nat.le_refl _⟩ HM.out fun A hA => ⟨_, results_none rfl _ _ _, ⟨_, rfl⟩, .inl ⟨_, X, ?_, ?_, hA.1⟩⟩
    · rw [HI.out]
    · intro k hk
      have := HX.out.2 k hk
      have := hA.2
      omega
end


section
open Go.Proofs.YtfihkkjkifkemaaDoorQ Go.Proofs.YtfihkkjkifkemaaDoorM
/-- What bitmap.Each leaves: a copy of the words, in a variable. -/
structure BEachO (w w' : World) (g3 : Nat) (l : List Int) : Prop where mk ::
  out : ∃ (gr : Nat) (v : Value), w.heap.size ≤ g3 ∧ w.heap.size ≤ gr ∧ gr < w'.heap.size ∧ Blk w' g3 #[v] 93 ∧ RowV v gr l w'
  hb : BelowH w w'
set_option maxHeartbeats 4000000 in
set_option maxRecDepth 100000 in
theorem bitmap_Each.calls (n : Int) (A : Option Addr) (cap : Nat) (l : List Int) (t : Bool) (w : World) (hr : Kd.C (Kd.int .u64) w A l.length l) (hc : l.length ≤ cap) (hb8 : l.length * 8 ≤ 140737488355328) (hF : bitmap_Formed.f n l = some t) :
    Calls Tryd.prog 49 #[.agg #[.int .i64 n, .slice A l.length cap]] w fun e w' => ∃ g3 : Nat, e = .returned (.func (.func 63) #[] #[.pointer (some ⟨g3, 0, none⟩)]) ∧ BEachO w w' g3 (if t then l else []) := by
  have HB := BelowH.refl w
  have HR := Aside0.mk hr
  have HC := Aside0.mk hc
  have HF := Aside0.mk hF
  have H8 := Aside0.mk hb8
  clear hr hc hF hb8
  cases t with
  | false =>
    go_enter Tryd.func49, Tryd.ntmps49
    go_wp2_with (first
      | ((with_reducible refine gate_dst (N := 1) rfl ?_); refine ev_alloc HB rfl (#[.int .i64 n, .slice A l.length cap]) 95 ?hr ?_; (case hr => first | (go_simp; done) | (go_simp; rfl)); intro g1 w1 G_g1 GE_g1 B_g1 HBn K_g1; clear HB; have HB := HBn; clear HBn)
      | ((with_reducible refine gate_dst (N := 3) rfl ?_); refine ev_alloc HB rfl (#[.slice none 0 0]) 93 ?hr ?_; (case hr => first | (go_simp; done) | (go_simp; rfl)); intro g3 w3 G_g3 GE_g3 B_g3 HBn K_g3; clear HB; have HB := HBn; clear HBn)
      | ((with_reducible refine gate_dst (N := 4) rfl ?_); refine ev_loadS (B_g1.below K_g3.out) rfl 95 _ rfl rfl Tryd.underlying95 rfl (by kernel_rfl) ?_)
      | (go_at_call 62; refine (bitmap_Formed.calls n A cap l false _ (Kd.C_below HR.out HB.out) HC.out HF.out).mono ?_; rintro e w4 ⟨rfl, hb4⟩; have HK4 := Aside0.mk hb4; have HB4 := HB.step hb4; clear hb4))
    go_ret
    exact ⟨g3, rfl, ⟨g3, _, GE_g3.out, GE_g3.out, (B_g3.below HK4.out).lt, B_g3.below HK4.out, ⟨.inl ⟨rfl, rfl⟩⟩⟩, HB4⟩
  | true =>
    go_enter Tryd.func49, Tryd.ntmps49
    go_upto_region 3 with (first
      | ((with_reducible refine gate_dst (N := 1) rfl ?_); refine ev_alloc HB rfl (#[.int .i64 n, .slice A l.length cap]) 95 ?hr ?_; (case hr => first | (go_simp; done) | (go_simp; rfl)); intro g1 w1 G_g1 GE_g1 B_g1 HBn K_g1; clear HB; have HB := HBn; clear HBn)
      | ((with_reducible refine gate_dst (N := 3) rfl ?_); refine ev_alloc HB rfl (#[.slice none 0 0]) 93 ?hr ?_; (case hr => first | (go_simp; done) | (go_simp; rfl)); intro g3 w3 G_g3 GE_g3 B_g3 HBn K_g3; clear HB; have HB := HBn; clear HBn)
      | ((with_reducible refine gate_dst (N := 4) rfl ?_); refine ev_loadS (B_g1.below K_g3.out) rfl 95 _ rfl rfl Tryd.underlying95 rfl (by kernel_rfl) ?_)
      | (go_at_call 62; refine (bitmap_Formed.calls n A cap l true _ (Kd.C_below HR.out HB.out) HC.out HF.out).mono ?_; rintro e w4 ⟨rfl, hb4⟩; have HK4 := Aside0.mk hb4; have HB4 := HB.step hb4; clear hb4))
    have D1 := (B_g1.below K_g3.out).below HK4.out
    have D3 := B_g3.below HK4.out
    have c11 := D1.cell (i := 1) rfl
    have c3 := D3.cell (i := 0) rfl
    go_wp2_with (first
      | ((with_reducible refine gate_dst (N := 9) rfl ?_); refine print_append_row_of (w0 := w) (Value.int .u64) (0 : Int) w.heap.size rfl _ _ 93 79 (.int .u64 0) 8 rfl Tryd.underlying93 (by kernel_rfl) rfl (by decide) (fun _ => rfl) (.slice none 0 0) [] l A l.length cap rfl rfl (World.ownsRow_nil _ _ _ _) (Kd.reads_of_C (d := (0 : Int)) (Kd.C_below HR.out HB4.out)) HB4.out HB4.le (by simpa using H8.out) ?_; intro v5 w5 hrow5 hb5 hg5 hat5; have HROW := Aside0.mk hrow5; have HB5 : BelowH w w5 := ⟨hb5⟩; have HG5 := Aside0.mk hg5; have d3 : Blk w5 g3 #[.slice none 0 0] 93 := ⟨(hg5.block _ D3.lt (fun e => by simp [Value.ownBlock] at e)).trans D3.out⟩; clear hrow5 hb5 hg5 hat5)
      | ((with_reducible refine gate_ (Op.store 93 (.tmp 3) (.tmp 9)) rfl ?_); refine ev_store1 (i := 0) HB5 d3 GE_g3 rfl 93 _ _ rfl rfl v5 rfl (by simp) (by kernel_rfl) (row_one HROW.out) ?_; intro w6 B6 HB6 K_w6))
    go_ret
    obtain ⟨hl, hv⟩ := row_open HROW.out
    rcases hv with ⟨rfl, h0⟩ | ⟨g, cap', cur, rfl, hbg, BG, h1, h2, h3, HA⟩
    · refine ⟨g3, rfl, ⟨g3, _, GE_g3.out, GE_g3.out, B6.lt, B6, ⟨.inl ⟨rfl, ?_⟩⟩⟩, HB6⟩
      simpa using h0
    · have hne : g ≠ g3 := BG.ne d3 (by decide)
      have BG6 := BG.other K_w6 hne
      refine ⟨g3, rfl, ⟨g, _, GE_g3.out, hbg, BG6.lt, B6, ⟨.inr ⟨cap', cur, ?_, BG6, ?_⟩⟩⟩, HB6⟩
      · simp
      · simpa [encs] using HA
end


end Go.Proofs.YtfihkkjkifkemaaDoor.PS
end
