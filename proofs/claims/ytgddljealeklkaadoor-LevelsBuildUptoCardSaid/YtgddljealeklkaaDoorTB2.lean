/- Parts of a claim (TB), packed by a program (pack.py) out of the texts that it names. -/
import Derived.Test.YtgddljealeklkaaDoorTB1
-- PLx3
section
namespace Go.Proofs.YtgddljealeklkaaDoor.PL
open Go.RowKit Go.Proofs.YtgddljealeklkaaDoorW.PrintWords Go.Proofs.YtgddljealeklkaaDoorW.PrintLast Go.Proofs.YtgddljealeklkaaDoorW.PrintMore
attribute [local go_sem] max2_int min2_int max_two min_two max_three min_three max_four min_four   -- for this text's walks alone
set_option linter.unusedVariables false
set_option linter.unusedSimpArgs false

section
open Go.Proofs.YtgddljealeklkaaDoorQ Go.Proofs.YtgddljealeklkaaDoorM Go.Shelf
attribute [local go_sem] Oper.semAt_some
structure LookI (s : ByteArray) (nw : Nat) (w : World) (L : List (Nat × Array Value × Nat)) (m g7 : Nat) (v1 v2 : Value) {n : Nat} (pre : List (Fin n)) (W : World) : Prop where mk ::
 bs : Blks L W
 r1 : W.ownsRow w.heap.size 75 1 v1 nw ((wordsOf s.size (mkq s)).map (Value.int .u64))
 r2 : W.ownsRow w.heap.size 75 1 v2 nw ((wordsOf s.size (insS s)).map (Value.int .u64))
 out : ∃ v, Blk W g7 #[v] 73 ∧ W.ownsRow w.heap.size 77 4 v pre.length (flatR s pre)
 hb : BelowH w W
 sz : m ≤ W.heap.size
section
variable {s : ByteArray} {nw : Nat} {w W W' : World} {L : List (Nat × Array Value × Nat)} {m g7 : Nat} {v1 v2 : Value} {n : Nat} {pre : List (Fin n)}
theorem LookI.kept (h : LookI s nw w L m g7 v1 v2 pre W) {B : Nat} (hB : w.heap.size ≤ B) {row : Option Nat} (hg : W.grownBy W' row) (hr : ∀ r, row = some r → B ≤ r ∧ ∃ o : Obj, W.heap[r]? = some o ∧ o.isCells = false) : LookI s nw w L m g7 v1 v2 pre W' := by
 have hr' : ∀ r, row = some r → ∃ o : Obj, W.heap[r]? = some o ∧ o.isCells = false := fun r e => (hr r e).2
 obtain ⟨v, b, ho⟩ := h.out
 exact ⟨h.bs.kept hg hr', row_kept h.r1 hg hr', row_kept h.r2 hg hr', ⟨v, b.kept hg hr', row_kept ho hg hr'⟩, h.hb.kept hg hB (fun r e => (hr r e).1), zz2 h.sz hg.size⟩
theorem LookI.below (h : LookI s nw w L m g7 v1 v2 pre W) (hb : Below W.heap.size W W') : LookI s nw w L m g7 v1 v2 pre W' := by
 obtain ⟨v, b, ho⟩ := h.out
 exact ⟨h.bs.below hb, row_below h.r1 hb, row_below h.r2 hb, ⟨v, b.below hb, row_below ho hb⟩, h.hb.step hb, zz2 h.sz hb.size⟩
theorem LookI.other (h : LookI s nw w L m g7 v1 v2 pre W) {g : Nat} {cs : Array Value} {t : Nat} (B : Blk W g cs t) (h1 : t ≠ 75) (h2 : t ≠ 77) (h3 : ∀ b ∈ L, b.1 ≠ g) (h4 : g7 ≠ g) (hb : BelowH w W') (K : Aside0 (W.heap.size ≤ W'.heap.size ∧ ∀ k, k ≠ g → W'.heap[k]? = W.heap[k]?)) : LookI s nw w L m g7 v1 v2 pre W' := by
 obtain ⟨v, b, ho⟩ := h.out
 exact ⟨h.bs.other K h3, row_other h.r1 B h1 K, row_other h.r2 B h1 K, ⟨v, b.other K h4, row_other ho B h2 K⟩, hb, zz2 h.sz K.out.1⟩
end
def rowS (s : ByteArray) (k : Nat) : S77 := ⟨iv (wordAt s.size (sgq s) k), iv (wordAt s.size (blq s) k), iv (wordAt s.size (opq s) k), iv (wordAt s.size (wdq s) k)⟩
def lookL (s : ByteArray) : List S77 := (List.range (nwords s.size)).map (rowS s)
def marks_look.f (a0 : ByteArray) : Option (List S77) := if a0.size ≤ 281474976702464 then some (lookL a0) else none
theorem lookL_reps {s : ByteArray} {R : S77 → List Value → Prop} (h : ∀ k, R (rowS s k) (rowN s k)) : ∀ n, Reps R 4 ((List.range n).map (rowS s)) ((List.range n).flatMap (rowN s))
 | 0 => Reps.none _ _
 | n + 1 => by
  rw [List.range_succ, List.map_append, List.flatMap_append]
  simpa using (lookL_reps h n).snoc (h n) rfl
set_option maxHeartbeats 4000000 in
set_option maxRecDepth 100000 in
theorem marks_look.walk (s : ByteArray) (w : World) (hs : s.size ≤ 281474976702464) :
  Calls Tryd.prog 50 #[.string s] w fun e w' => ∃ v : Value, e = .returned v ∧ w'.ownsRow w.heap.size 77 4 v (nwords s.size) ((List.range (nwords s.size)).flatMap (rowN s)) ∧ Below w.heap.size w w' := by
 obtain ⟨F, hF⟩ : ∃ F, F = Fence.wide := ⟨_, rfl⟩
 have HF := zA hF
 refine (callsIn_wide (n := 9)).1 ?_
 rw [← hF]
 clear hF
 have hro := wide_round HF
 have HB := BelowH.refl w
 have f1 := wide_fn HF 55
 have f2 := wide_fn HF 92
 have f3 := wide_fn HF 85
 have f4 := wide_fn HF 18
 have f5 := wide_fn HF 19
 have f6 := wide_fn HF 84
 have HS := zA hs
 obtain ⟨nw, hnw⟩ : ∃ nw, nw = nwords s.size := ⟨_, rfl⟩
 have HNW := zA hnw
 have hnw1 : (nw : Int) ≤ 4398046511104 := by rw [hnw];unfold nwords;omega
 clear hs hnw
 refine callsIn_of_wp_marks Tryd.func50 rfl (wide_fn HF _) ?_ hro
 simp only [Tryd.ntmps50, List.size_toArray, List.length_cons, List.length_nil, Nat.reduceAdd, Nat.reduceSub, Array.replicate_succ, Array.replicate_zero, List.push_toArray, List.append_toArray, List.nil_append, List.cons_append]
 gi_upto_region 1 with (first
  | ((with_reducible refine gate_dstIn (N := 1) rfl ?_);refine ev_allocIn HB rfl rfl (#[.string s]) 9 ?hr ?_;(case hr => first|(go_simp;done)|(go_simp;rfl));intro g1 w1 G_g1 GE_g1 B_g1 HBn K_g1 KO_w1;clear HB;have HB := HBn;clear HBn))
 gi_cut [3, 4] from 16 (fun v3 v4 wx => ∃ (g3 g4 c1 c2 : Nat) (A1 A2 : Option Addr), v3 = .pointer (some ⟨g3, 0, none⟩) ∧ v4 = .pointer (some ⟨g4, 0, none⟩) ∧ Aside0 (w.heap.size ≤ g3) ∧ Aside0 (w.heap.size ≤ g4) ∧ Aside0 (g1 < g3 ∧ g1 < g4 ∧ g3 ≠ g4) ∧
  Blk wx g1 #[.string s] 9 ∧ Blk wx g3 #[.int .i64 s.size, .slice A1 nw c1] 34 ∧ Blk wx g4 #[.int .i64 s.size, .slice A2 nw c2] 34 ∧
  Aside0 (wx.ownsRow w.heap.size 75 1 (.slice A1 nw c1) nw ((wordsOf s.size (mkq s)).map (Value.int .u64))) ∧ Aside0 (wx.ownsRow w.heap.size 75 1 (.slice A2 nw c2) nw ((wordsOf s.size (insS s)).map (Value.int .u64))) ∧ BelowH w wx)
 case first =>
  have E := B_g1.below (below_drew (Below.refl _ _))
  have HB5 := HB.step (below_drew (Below.refl _ _))
  clear HB
  have HB := HB5
  clear HB5
  have L1 := zA (And.intro B_g1.lt K_g1.out.size)
  clear B_g1 K_g1 G_g1 KO_w1
  have HZ := zA (show w1.heap.size ≤ w1.drew.heap.size from Nat.le_refl _)
  refine wpIn_region_last_wide HF (S := fun W' => Blk W' g1 #[.string s] 9) (ds := [6, 7]) (by kernel_rfl) E (fun hS => ?_)
  refine zM (i := 0) (oi := Oper.mk _ _ _ _ _ _) rfl (by kernel_rfl) (by kernel_rfl) (by kernel_rfl) (by kernel_rfl) (by kernel_rfl) (fun _ _ _ h => h) (rg_load1 (by rfl) (fun _ hS => hS.cell (i := 0) rfl) 9 _ rfl rfl (fun _ => by simp [isAgg, run_underlying Tryd.underlying9])) hS ?_
  try simp only [Act.put, zB, zC, zD]
  refine zM (i := 2) (oi := Oper.mk _ _ _ _ _ _) rfl (by kernel_rfl) (by kernel_rfl) (by kernel_rfl) (by kernel_rfl) (by kernel_rfl) (fun _ _ _ h => h) (rg_load1 (by rfl) (fun _ hS => hS.cell (i := 0) rfl) 9 _ rfl rfl (fun _ => by simp [isAgg, run_underlying Tryd.underlying9])) hS ?_
  try simp only [Act.put, zB, zC, zD]
  refine wpAnyLast_ready (rs := [1, 4, 5]) (by kernel_rfl) (by simp) ?_
  refine AllReadyL.cons (o := Oper.mk _ _ _ _ _ _) rfl (by decide) (fun K hK => ?_) ?_
  ·refine call_ 18 #[.string s] (by rfl) rfl (by first|(go_simp;done)|(go_simp;rfl)) ((quotes_Marks.walk s _ HS.out).mono ?_)
   rintro e W' ⟨v, rfl, hrow, hb'⟩
   obtain ⟨A1, c1, rfl⟩ := own_slice hrow
   rw [← HNW.out] at hrow ⊢
   have hb := zA hb'
   have RM := zA (row_mono hrow HB.le)
   have V1 := zA (row_one hrow)
   clear hrow hb'
   replace E := E.below hb.out
   replace HB := HB.step hb.out
   replace HZ := zA (zz2 HZ.out hb.out.size)
   refine ⟨_, rfl, ?_⟩
   refine hK.out _ _ E (fun hS => ?_)
   clear hK K hb
   try simp only [Act.put, zB, zC, zD]
   refine wpAnyLast_ready (rs := [3, 4, 5]) (by kernel_rfl) (by simp) ?_
   refine AllReadyL.cons (o := Oper.mk _ _ _ _ _ _) rfl (by decide) (fun K hK => ?_) ?_
   ·refine call_ 19 #[.string s] (by rfl) rfl (by first|(go_simp;done)|(go_simp;rfl)) ((quotes_Inside.walk s _ HS.out).mono ?_)
    rintro e W' ⟨v, rfl, hrow, hb'⟩
    obtain ⟨A2, c2, rfl⟩ := own_slice hrow
    rw [← HNW.out] at hrow ⊢
    have hb := zA hb'
    have RI := zA (row_mono hrow HB.le)
    have V2 := zA (row_one hrow)
    clear hrow hb'
    replace E := E.below hb.out
    replace HB := HB.step hb.out
    replace HZ := zA (zz2 HZ.out hb.out.size)
    replace RM := zA (row_below RM.out hb.out)
    refine ⟨_, rfl, ?_⟩
    refine hK.out _ _ E (fun hS => ?_)
    clear hK K hb
    try simp only [Act.put, zB, zC, zD]
    refine wpAnyLast_ready (rs := [4, 5]) (by kernel_rfl) (by simp) ?_
    refine AllReadyL.cons (o := Oper.mk _ _ _ _ _ _) rfl (by decide) (fun K hK => ?_) ?_
    ·refine rg_alloc HB (by rfl) (#[.int .i64 0, .slice none 0 0]) 34 (by first|(go_simp;done)|(go_simp;rfl)) ?_
     intro g3 W' G3 GE_g3 B3 HBn hb
     have N1g3 := zA (show g1 < g3 by have := L1.out.1;have := HZ.out;have := G3.out;omega)
     clear HBn
     replace E := E.below hb.out
     replace HB := HB.step hb.out
     replace HZ := zA (zz2 HZ.out hb.out.size)
     replace RM := zA (row_below RM.out hb.out)
     replace RI := zA (row_below RI.out hb.out)
     refine hK.out _ _ E (fun hS => ?_)
     clear hK K hb G3
     try simp only [Act.put, zB, zC, zD]
     refine wpAnyLast_ready (rs := [5]) (by kernel_rfl) (by simp) ?_
     refine AllReadyL.cons (o := Oper.mk _ _ _ _ _ _) rfl (by decide) (fun K hK => ?_) ?_
     ·refine rg_alloc HB (by rfl) (#[.int .i64 0, .slice none 0 0]) 34 (by first|(go_simp;done)|(go_simp;rfl)) ?_
      intro g4 W' G4 GE_g4 B4 HBn hb
      have N1g4 := zA (show g1 < g4 by have := L1.out.1;have := HZ.out;have := G4.out;omega)
      have N34 := zA (show g3 ≠ g4 by have := B3.lt;have := G4.out;omega)
      clear HBn
      replace E := E.below hb.out
      replace HB := HB.step hb.out
      replace HZ := zA (zz2 HZ.out hb.out.size)
      replace RM := zA (row_below RM.out hb.out)
      replace RI := zA (row_below RI.out hb.out)
      replace B3 := B3.below hb.out
      refine hK.out _ _ E (fun hS => ?_)
      clear hK K hb G4
      try simp only [Act.put, zB, zC, zD]
      refine wpAnyLast_ready (rs := [6]) (by kernel_rfl) (by simp) ?_
      refine AllReadyL.cons_last (o := Oper.mk _ _ _ _ _ _) rfl (by decide) (fun K hK => ?_) ?_
      ·refine rg_store HB (by rfl) B3 GE_g3 34 _ _ rfl rfl rfl (by kernel_rfl) rfl (by simp [Value.oneCell']) ?_
       intro w6 B3n HBn K6
       replace E := E.other K6 (Nat.ne_of_lt N1g3.out)
       replace B4 := B4.other K6 (Ne.symm N34.out)
       replace RM := zA (row_other RM.out B3 (by decide) K6)
       replace RI := zA (row_other RI.out B3 (by decide) K6)
       replace B3 := B3n
       replace HB := HBn
       clear B3n HBn K6 HZ
       have HZ := zA (Nat.le_refl 0)
       refine hK.out _ _ ?_
       clear hK K
       try simp only [Act.put, zB, zC, zD]
       refine wpAnyLast_ready (rs := [7]) (by kernel_rfl) (by simp) ?_
       refine AllReadyL.cons_last (o := Oper.mk _ _ _ _ _ _) rfl (by decide) (fun K hK => ?_) ?_
       ·refine rg_store HB (by rfl) B4 GE_g4 34 _ _ rfl rfl rfl (by kernel_rfl) rfl (by simp [Value.oneCell']) ?_
        intro w7 B4n HBn K7
        replace E := E.other K7 (Nat.ne_of_lt N1g4.out)
        replace B3 := B3.other K7 N34.out
        replace RM := zA (row_other RM.out B4 (by decide) K7)
        replace RI := zA (row_other RI.out B4 (by decide) K7)
        replace B4 := B4n
        replace HB := HBn
        clear B4n HBn K7 HZ
        have HZ := zA (Nat.le_refl 0)
        refine hK.out _ _ ?_
        clear hK K
        try simp only [Act.put, zB, zC, zD]
        refine wpAnyLast_done (by kernel_rfl) ?_ _
        refine NoPanic.normal ?_
        go_step
        go_step
        gi_meet
        case rel => exact ⟨g3, g4, c1, c2, A1, A2, rfl, rfl, GE_g3, GE_g4, ⟨N1g3.out, N1g4.out, N34.out⟩, E, B3, B4, RM, RI, HB⟩
       exact AllReadyL.nil
      exact AllReadyL.nil
     exact AllReadyL.nil
    refine AllReadyL.cons (o := Oper.mk _ _ _ _ _ _) rfl (by decide) (fun K hK => ?_) ?_
    ·refine rg_alloc HB (by rfl) (#[.int .i64 0, .slice none 0 0]) 34 (by first|(go_simp;done)|(go_simp;rfl)) ?_
     intro g4 W' G4 GE_g4 B4 HBn hb
     have N1g4 := zA (show g1 < g4 by have := L1.out.1;have := HZ.out;have := G4.out;omega)
     clear HBn
     replace E := E.below hb.out
     replace HB := HB.step hb.out
     replace HZ := zA (zz2 HZ.out hb.out.size)
     replace RM := zA (row_below RM.out hb.out)
     replace RI := zA (row_below RI.out hb.out)
     refine hK.out _ _ E (fun hS => ?_)
     clear hK K hb G4
     try simp only [Act.put, zB, zC, zD]
     refine wpAnyLast_ready (rs := [4]) (by kernel_rfl) (by simp) ?_
     refine AllReadyL.cons (o := Oper.mk _ _ _ _ _ _) rfl (by decide) (fun K hK => ?_) ?_
     ·refine rg_alloc HB (by rfl) (#[.int .i64 0, .slice none 0 0]) 34 (by first|(go_simp;done)|(go_simp;rfl)) ?_
      intro g3 W' G3 GE_g3 B3 HBn hb
      have N1g3 := zA (show g1 < g3 by have := L1.out.1;have := HZ.out;have := G3.out;omega)
      have N34 := zA (show g3 ≠ g4 by have := B4.lt;have := G3.out;omega)
      clear HBn
      replace E := E.below hb.out
      replace HB := HB.step hb.out
      replace HZ := zA (zz2 HZ.out hb.out.size)
      replace RM := zA (row_below RM.out hb.out)
      replace RI := zA (row_below RI.out hb.out)
      replace B4 := B4.below hb.out
      refine hK.out _ _ E (fun hS => ?_)
      clear hK K hb G3
      try simp only [Act.put, zB, zC, zD]
      refine wpAnyLast_ready (rs := [6]) (by kernel_rfl) (by simp) ?_
      refine AllReadyL.cons_last (o := Oper.mk _ _ _ _ _ _) rfl (by decide) (fun K hK => ?_) ?_
      ·refine rg_store HB (by rfl) B3 GE_g3 34 _ _ rfl rfl rfl (by kernel_rfl) rfl (by simp [Value.oneCell']) ?_
       intro w6 B3n HBn K6
       replace E := E.other K6 (Nat.ne_of_lt N1g3.out)
       replace B4 := B4.other K6 (Ne.symm N34.out)
       replace RM := zA (row_other RM.out B3 (by decide) K6)
       replace RI := zA (row_other RI.out B3 (by decide) K6)
       replace B3 := B3n
       replace HB := HBn
       clear B3n HBn K6 HZ
       have HZ := zA (Nat.le_refl 0)
       refine hK.out _ _ ?_
       clear hK K
       try simp only [Act.put, zB, zC, zD]
       refine wpAnyLast_ready (rs := [7]) (by kernel_rfl) (by simp) ?_
       refine AllReadyL.cons_last (o := Oper.mk _ _ _ _ _ _) rfl (by decide) (fun K hK => ?_) ?_
       ·refine rg_store HB (by rfl) B4 GE_g4 34 _ _ rfl rfl rfl (by kernel_rfl) rfl (by simp [Value.oneCell']) ?_
        intro w7 B4n HBn K7
        replace E := E.other K7 (Nat.ne_of_lt N1g4.out)
        replace B3 := B3.other K7 N34.out
        replace RM := zA (row_other RM.out B4 (by decide) K7)
        replace RI := zA (row_other RI.out B4 (by decide) K7)
        replace B4 := B4n
        replace HB := HBn
        clear B4n HBn K7 HZ
        have HZ := zA (Nat.le_refl 0)
        refine hK.out _ _ ?_
        clear hK K
        try simp only [Act.put, zB, zC, zD]
        refine wpAnyLast_done (by kernel_rfl) ?_ _
        refine NoPanic.normal ?_
        go_step
        go_step
        gi_meet
        case rel => exact ⟨g3, g4, c1, c2, A1, A2, rfl, rfl, GE_g3, GE_g4, ⟨N1g3.out, N1g4.out, N34.out⟩, E, B3, B4, RM, RI, HB⟩
       exact AllReadyL.nil
      exact AllReadyL.nil
     exact AllReadyL.nil
    exact AllReadyL.nil
   refine AllReadyL.cons (o := Oper.mk _ _ _ _ _ _) rfl (by decide) (fun K hK => ?_) ?_
   ·refine rg_alloc HB (by rfl) (#[.int .i64 0, .slice none 0 0]) 34 (by first|(go_simp;done)|(go_simp;rfl)) ?_
    intro g3 W' G3 GE_g3 B3 HBn hb
    have N1g3 := zA (show g1 < g3 by have := L1.out.1;have := HZ.out;have := G3.out;omega)
    clear HBn
    replace E := E.below hb.out
    replace HB := HB.step hb.out
    replace HZ := zA (zz2 HZ.out hb.out.size)
    replace RM := zA (row_below RM.out hb.out)
    refine hK.out _ _ E (fun hS => ?_)
    clear hK K hb G3
    try simp only [Act.put, zB, zC, zD]
    refine wpAnyLast_ready (rs := [3, 5]) (by kernel_rfl) (by simp) ?_
    refine AllReadyL.cons (o := Oper.mk _ _ _ _ _ _) rfl (by decide) (fun K hK => ?_) ?_
    ·refine call_ 19 #[.string s] (by rfl) rfl (by first|(go_simp;done)|(go_simp;rfl)) ((quotes_Inside.walk s _ HS.out).mono ?_)
     rintro e W' ⟨v, rfl, hrow, hb'⟩
     obtain ⟨A2, c2, rfl⟩ := own_slice hrow
     rw [← HNW.out] at hrow ⊢
     have hb := zA hb'
     have RI := zA (row_mono hrow HB.le)
     have V2 := zA (row_one hrow)
     clear hrow hb'
     replace E := E.below hb.out
     replace HB := HB.step hb.out
     replace HZ := zA (zz2 HZ.out hb.out.size)
     replace RM := zA (row_below RM.out hb.out)
     replace B3 := B3.below hb.out
     refine ⟨_, rfl, ?_⟩
     refine hK.out _ _ E (fun hS => ?_)
     clear hK K hb
     try simp only [Act.put, zB, zC, zD]
     refine wpAnyLast_ready (rs := [5]) (by kernel_rfl) (by simp) ?_
     refine AllReadyL.cons (o := Oper.mk _ _ _ _ _ _) rfl (by decide) (fun K hK => ?_) ?_
     ·refine rg_alloc HB (by rfl) (#[.int .i64 0, .slice none 0 0]) 34 (by first|(go_simp;done)|(go_simp;rfl)) ?_
      intro g4 W' G4 GE_g4 B4 HBn hb
      have N1g4 := zA (show g1 < g4 by have := L1.out.1;have := HZ.out;have := G4.out;omega)
      have N34 := zA (show g3 ≠ g4 by have := B3.lt;have := G4.out;omega)
      clear HBn
      replace E := E.below hb.out
      replace HB := HB.step hb.out
      replace HZ := zA (zz2 HZ.out hb.out.size)
      replace RM := zA (row_below RM.out hb.out)
      replace RI := zA (row_below RI.out hb.out)
      replace B3 := B3.below hb.out
      refine hK.out _ _ E (fun hS => ?_)
      clear hK K hb G4
      try simp only [Act.put, zB, zC, zD]
      refine wpAnyLast_ready (rs := [6]) (by kernel_rfl) (by simp) ?_
      refine AllReadyL.cons_last (o := Oper.mk _ _ _ _ _ _) rfl (by decide) (fun K hK => ?_) ?_
      ·refine rg_store HB (by rfl) B3 GE_g3 34 _ _ rfl rfl rfl (by kernel_rfl) rfl (by simp [Value.oneCell']) ?_
       intro w6 B3n HBn K6
       replace E := E.other K6 (Nat.ne_of_lt N1g3.out)
       replace B4 := B4.other K6 (Ne.symm N34.out)
       replace RM := zA (row_other RM.out B3 (by decide) K6)
       replace RI := zA (row_other RI.out B3 (by decide) K6)
       replace B3 := B3n
       replace HB := HBn
       clear B3n HBn K6 HZ
       have HZ := zA (Nat.le_refl 0)
       refine hK.out _ _ ?_
       clear hK K
       try simp only [Act.put, zB, zC, zD]
       refine wpAnyLast_ready (rs := [7]) (by kernel_rfl) (by simp) ?_
       refine AllReadyL.cons_last (o := Oper.mk _ _ _ _ _ _) rfl (by decide) (fun K hK => ?_) ?_
       ·refine rg_store HB (by rfl) B4 GE_g4 34 _ _ rfl rfl rfl (by kernel_rfl) rfl (by simp [Value.oneCell']) ?_
        intro w7 B4n HBn K7
        replace E := E.other K7 (Nat.ne_of_lt N1g4.out)
        replace B3 := B3.other K7 N34.out
        replace RM := zA (row_other RM.out B4 (by decide) K7)
        replace RI := zA (row_other RI.out B4 (by decide) K7)
        replace B4 := B4n
        replace HB := HBn
        clear B4n HBn K7 HZ
        have HZ := zA (Nat.le_refl 0)
        refine hK.out _ _ ?_
        clear hK K
        try simp only [Act.put, zB, zC, zD]
        refine wpAnyLast_done (by kernel_rfl) ?_ _
        refine NoPanic.normal ?_
        go_step
        go_step
        gi_meet
        case rel => exact ⟨g3, g4, c1, c2, A1, A2, rfl, rfl, GE_g3, GE_g4, ⟨N1g3.out, N1g4.out, N34.out⟩, E, B3, B4, RM, RI, HB⟩
       exact AllReadyL.nil
      exact AllReadyL.nil
     exact AllReadyL.nil
    refine AllReadyL.cons (o := Oper.mk _ _ _ _ _ _) rfl (by decide) (fun K hK => ?_) ?_
    ·refine rg_alloc HB (by rfl) (#[.int .i64 0, .slice none 0 0]) 34 (by first|(go_simp;done)|(go_simp;rfl)) ?_
     intro g4 W' G4 GE_g4 B4 HBn hb
     have N1g4 := zA (show g1 < g4 by have := L1.out.1;have := HZ.out;have := G4.out;omega)
     have N34 := zA (show g3 ≠ g4 by have := B3.lt;have := G4.out;omega)
     clear HBn
     replace E := E.below hb.out
     replace HB := HB.step hb.out
     replace HZ := zA (zz2 HZ.out hb.out.size)
     replace RM := zA (row_below RM.out hb.out)
     replace B3 := B3.below hb.out
     refine hK.out _ _ E (fun hS => ?_)
     clear hK K hb G4
     try simp only [Act.put, zB, zC, zD]
     refine wpAnyLast_ready (rs := [3]) (by kernel_rfl) (by simp) ?_
     refine AllReadyL.cons (o := Oper.mk _ _ _ _ _ _) rfl (by decide) (fun K hK => ?_) ?_
     ·refine call_ 19 #[.string s] (by rfl) rfl (by first|(go_simp;done)|(go_simp;rfl)) ((quotes_Inside.walk s _ HS.out).mono ?_)
      rintro e W' ⟨v, rfl, hrow, hb'⟩
      obtain ⟨A2, c2, rfl⟩ := own_slice hrow
      rw [← HNW.out] at hrow ⊢
      have hb := zA hb'
      have RI := zA (row_mono hrow HB.le)
      have V2 := zA (row_one hrow)
      clear hrow hb'
      replace E := E.below hb.out
      replace HB := HB.step hb.out
      replace HZ := zA (zz2 HZ.out hb.out.size)
      replace RM := zA (row_below RM.out hb.out)
      replace B3 := B3.below hb.out
      replace B4 := B4.below hb.out
      refine ⟨_, rfl, ?_⟩
      refine hK.out _ _ E (fun hS => ?_)
      clear hK K hb
      try simp only [Act.put, zB, zC, zD]
      refine wpAnyLast_ready (rs := [6]) (by kernel_rfl) (by simp) ?_
      refine AllReadyL.cons_last (o := Oper.mk _ _ _ _ _ _) rfl (by decide) (fun K hK => ?_) ?_
      ·refine rg_store HB (by rfl) B3 GE_g3 34 _ _ rfl rfl rfl (by kernel_rfl) rfl (by simp [Value.oneCell']) ?_
       intro w6 B3n HBn K6
       replace E := E.other K6 (Nat.ne_of_lt N1g3.out)
       replace B4 := B4.other K6 (Ne.symm N34.out)
       replace RM := zA (row_other RM.out B3 (by decide) K6)
       replace RI := zA (row_other RI.out B3 (by decide) K6)
       replace B3 := B3n
       replace HB := HBn
       clear B3n HBn K6 HZ
       have HZ := zA (Nat.le_refl 0)
       refine hK.out _ _ ?_
       clear hK K
       try simp only [Act.put, zB, zC, zD]
       refine wpAnyLast_ready (rs := [7]) (by kernel_rfl) (by simp) ?_
       refine AllReadyL.cons_last (o := Oper.mk _ _ _ _ _ _) rfl (by decide) (fun K hK => ?_) ?_
       ·refine rg_store HB (by rfl) B4 GE_g4 34 _ _ rfl rfl rfl (by kernel_rfl) rfl (by simp [Value.oneCell']) ?_
        intro w7 B4n HBn K7
        replace E := E.other K7 (Nat.ne_of_lt N1g4.out)
        replace B3 := B3.other K7 N34.out
        replace RM := zA (row_other RM.out B4 (by decide) K7)
        replace RI := zA (row_other RI.out B4 (by decide) K7)
        replace B4 := B4n
        replace HB := HBn
        clear B4n HBn K7 HZ
        have HZ := zA (Nat.le_refl 0)
        refine hK.out _ _ ?_
        clear hK K
        try simp only [Act.put, zB, zC, zD]
        refine wpAnyLast_done (by kernel_rfl) ?_ _
        refine NoPanic.normal ?_
        go_step
        go_step
        gi_meet
        case rel => exact ⟨g3, g4, c1, c2, A1, A2, rfl, rfl, GE_g3, GE_g4, ⟨N1g3.out, N1g4.out, N34.out⟩, E, B3, B4, RM, RI, HB⟩
       exact AllReadyL.nil
      exact AllReadyL.nil
     exact AllReadyL.nil
    exact AllReadyL.nil
   refine AllReadyL.cons (o := Oper.mk _ _ _ _ _ _) rfl (by decide) (fun K hK => ?_) ?_
   ·refine rg_alloc HB (by rfl) (#[.int .i64 0, .slice none 0 0]) 34 (by first|(go_simp;done)|(go_simp;rfl)) ?_
    intro g4 W' G4 GE_g4 B4 HBn hb
    have N1g4 := zA (show g1 < g4 by have := L1.out.1;have := HZ.out;have := G4.out;omega)
    clear HBn
    replace E := E.below hb.out
    replace HB := HB.step hb.out
    replace HZ := zA (zz2 HZ.out hb.out.size)
    replace RM := zA (row_below RM.out hb.out)
    refine hK.out _ _ E (fun hS => ?_)
    clear hK K hb G4
    try simp only [Act.put, zB, zC, zD]
    refine wpAnyLast_ready (rs := [3, 4]) (by kernel_rfl) (by simp) ?_
    refine AllReadyL.cons (o := Oper.mk _ _ _ _ _ _) rfl (by decide) (fun K hK => ?_) ?_
    ·refine call_ 19 #[.string s] (by rfl) rfl (by first|(go_simp;done)|(go_simp;rfl)) ((quotes_Inside.walk s _ HS.out).mono ?_)
     rintro e W' ⟨v, rfl, hrow, hb'⟩
     obtain ⟨A2, c2, rfl⟩ := own_slice hrow
     rw [← HNW.out] at hrow ⊢
     have hb := zA hb'
     have RI := zA (row_mono hrow HB.le)
     have V2 := zA (row_one hrow)
     clear hrow hb'
     replace E := E.below hb.out
     replace HB := HB.step hb.out
     replace HZ := zA (zz2 HZ.out hb.out.size)
     replace RM := zA (row_below RM.out hb.out)
     replace B4 := B4.below hb.out
     refine ⟨_, rfl, ?_⟩
     refine hK.out _ _ E (fun hS => ?_)
     clear hK K hb
     try simp only [Act.put, zB, zC, zD]
     refine wpAnyLast_ready (rs := [4]) (by kernel_rfl) (by simp) ?_
     refine AllReadyL.cons (o := Oper.mk _ _ _ _ _ _) rfl (by decide) (fun K hK => ?_) ?_
     ·refine rg_alloc HB (by rfl) (#[.int .i64 0, .slice none 0 0]) 34 (by first|(go_simp;done)|(go_simp;rfl)) ?_
      intro g3 W' G3 GE_g3 B3 HBn hb
      have N1g3 := zA (show g1 < g3 by have := L1.out.1;have := HZ.out;have := G3.out;omega)
      have N34 := zA (show g3 ≠ g4 by have := B4.lt;have := G3.out;omega)
      clear HBn
      replace E := E.below hb.out
      replace HB := HB.step hb.out
      replace HZ := zA (zz2 HZ.out hb.out.size)
      replace RM := zA (row_below RM.out hb.out)
      replace RI := zA (row_below RI.out hb.out)
      replace B4 := B4.below hb.out
      refine hK.out _ _ E (fun hS => ?_)
      clear hK K hb G3
      try simp only [Act.put, zB, zC, zD]
      refine wpAnyLast_ready (rs := [6]) (by kernel_rfl) (by simp) ?_
      refine AllReadyL.cons_last (o := Oper.mk _ _ _ _ _ _) rfl (by decide) (fun K hK => ?_) ?_
      ·refine rg_store HB (by rfl) B3 GE_g3 34 _ _ rfl rfl rfl (by kernel_rfl) rfl (by simp [Value.oneCell']) ?_
       intro w6 B3n HBn K6
       replace E := E.other K6 (Nat.ne_of_lt N1g3.out)
       replace B4 := B4.other K6 (Ne.symm N34.out)
       replace RM := zA (row_other RM.out B3 (by decide) K6)
       replace RI := zA (row_other RI.out B3 (by decide) K6)
       replace B3 := B3n
       replace HB := HBn
       clear B3n HBn K6 HZ
       have HZ := zA (Nat.le_refl 0)
       refine hK.out _ _ ?_
       clear hK K
       try simp only [Act.put, zB, zC, zD]
       refine wpAnyLast_ready (rs := [7]) (by kernel_rfl) (by simp) ?_
       refine AllReadyL.cons_last (o := Oper.mk _ _ _ _ _ _) rfl (by decide) (fun K hK => ?_) ?_
       ·refine rg_store HB (by rfl) B4 GE_g4 34 _ _ rfl rfl rfl (by kernel_rfl) rfl (by simp [Value.oneCell']) ?_
        intro w7 B4n HBn K7
        replace E := E.other K7 (Nat.ne_of_lt N1g4.out)
        replace B3 := B3.other K7 N34.out
        replace RM := zA (row_other RM.out B4 (by decide) K7)
        replace RI := zA (row_other RI.out B4 (by decide) K7)
        replace B4 := B4n
        replace HB := HBn
        clear B4n HBn K7 HZ
        have HZ := zA (Nat.le_refl 0)
        refine hK.out _ _ ?_
        clear hK K
        try simp only [Act.put, zB, zC, zD]
        refine wpAnyLast_done (by kernel_rfl) ?_ _
        refine NoPanic.normal ?_
        go_step
        go_step
        gi_meet
        case rel => exact ⟨g3, g4, c1, c2, A1, A2, rfl, rfl, GE_g3, GE_g4, ⟨N1g3.out, N1g4.out, N34.out⟩, E, B3, B4, RM, RI, HB⟩
       exact AllReadyL.nil
      exact AllReadyL.nil
     exact AllReadyL.nil
    refine AllReadyL.cons (o := Oper.mk _ _ _ _ _ _) rfl (by decide) (fun K hK => ?_) ?_
    ·refine rg_alloc HB (by rfl) (#[.int .i64 0, .slice none 0 0]) 34 (by first|(go_simp;done)|(go_simp;rfl)) ?_
     intro g3 W' G3 GE_g3 B3 HBn hb
     have N1g3 := zA (show g1 < g3 by have := L1.out.1;have := HZ.out;have := G3.out;omega)
     have N34 := zA (show g3 ≠ g4 by have := B4.lt;have := G3.out;omega)
     clear HBn
     replace E := E.below hb.out
     replace HB := HB.step hb.out
     replace HZ := zA (zz2 HZ.out hb.out.size)
     replace RM := zA (row_below RM.out hb.out)
     replace B4 := B4.below hb.out
     refine hK.out _ _ E (fun hS => ?_)
     clear hK K hb G3
     try simp only [Act.put, zB, zC, zD]
     refine wpAnyLast_ready (rs := [3]) (by kernel_rfl) (by simp) ?_
     refine AllReadyL.cons (o := Oper.mk _ _ _ _ _ _) rfl (by decide) (fun K hK => ?_) ?_
     ·refine call_ 19 #[.string s] (by rfl) rfl (by first|(go_simp;done)|(go_simp;rfl)) ((quotes_Inside.walk s _ HS.out).mono ?_)
      rintro e W' ⟨v, rfl, hrow, hb'⟩
      obtain ⟨A2, c2, rfl⟩ := own_slice hrow
      rw [← HNW.out] at hrow ⊢
      have hb := zA hb'
      have RI := zA (row_mono hrow HB.le)
      have V2 := zA (row_one hrow)
      clear hrow hb'
      replace E := E.below hb.out
      replace HB := HB.step hb.out
      replace HZ := zA (zz2 HZ.out hb.out.size)
      replace RM := zA (row_below RM.out hb.out)
      replace B3 := B3.below hb.out
      replace B4 := B4.below hb.out
      refine ⟨_, rfl, ?_⟩
      refine hK.out _ _ E (fun hS => ?_)
      clear hK K hb
      try simp only [Act.put, zB, zC, zD]
      refine wpAnyLast_ready (rs := [6]) (by kernel_rfl) (by simp) ?_
      refine AllReadyL.cons_last (o := Oper.mk _ _ _ _ _ _) rfl (by decide) (fun K hK => ?_) ?_
      ·refine rg_store HB (by rfl) B3 GE_g3 34 _ _ rfl rfl rfl (by kernel_rfl) rfl (by simp [Value.oneCell']) ?_
       intro w6 B3n HBn K6
       replace E := E.other K6 (Nat.ne_of_lt N1g3.out)
       replace B4 := B4.other K6 (Ne.symm N34.out)
       replace RM := zA (row_other RM.out B3 (by decide) K6)
       replace RI := zA (row_other RI.out B3 (by decide) K6)
       replace B3 := B3n
       replace HB := HBn
       clear B3n HBn K6 HZ
       have HZ := zA (Nat.le_refl 0)
       refine hK.out _ _ ?_
       clear hK K
       try simp only [Act.put, zB, zC, zD]
       refine wpAnyLast_ready (rs := [7]) (by kernel_rfl) (by simp) ?_
       refine AllReadyL.cons_last (o := Oper.mk _ _ _ _ _ _) rfl (by decide) (fun K hK => ?_) ?_
       ·refine rg_store HB (by rfl) B4 GE_g4 34 _ _ rfl rfl rfl (by kernel_rfl) rfl (by simp [Value.oneCell']) ?_
        intro w7 B4n HBn K7
        replace E := E.other K7 (Nat.ne_of_lt N1g4.out)
        replace B3 := B3.other K7 N34.out
        replace RM := zA (row_other RM.out B4 (by decide) K7)
        replace RI := zA (row_other RI.out B4 (by decide) K7)
        replace B4 := B4n
        replace HB := HBn
        clear B4n HBn K7 HZ
        have HZ := zA (Nat.le_refl 0)
        refine hK.out _ _ ?_
        clear hK K
        try simp only [Act.put, zB, zC, zD]
        refine wpAnyLast_done (by kernel_rfl) ?_ _
        refine NoPanic.normal ?_
        go_step
        go_step
        gi_meet
        case rel => exact ⟨g3, g4, c1, c2, A1, A2, rfl, rfl, GE_g3, GE_g4, ⟨N1g3.out, N1g4.out, N34.out⟩, E, B3, B4, RM, RI, HB⟩
       exact AllReadyL.nil
      exact AllReadyL.nil
     exact AllReadyL.nil
    exact AllReadyL.nil
   exact AllReadyL.nil
  refine AllReadyL.cons (o := Oper.mk _ _ _ _ _ _) rfl (by decide) (fun K hK => ?_) ?_
  ·refine rg_alloc HB (by rfl) (#[.int .i64 0, .slice none 0 0]) 34 (by first|(go_simp;done)|(go_simp;rfl)) ?_
   intro g3 W' G3 GE_g3 B3 HBn hb
   have N1g3 := zA (show g1 < g3 by have := L1.out.1;have := HZ.out;have := G3.out;omega)
   clear HBn
   replace E := E.below hb.out
   replace HB := HB.step hb.out
   replace HZ := zA (zz2 HZ.out hb.out.size)
   refine hK.out _ _ E (fun hS => ?_)
   clear hK K hb G3
   try simp only [Act.put, zB, zC, zD]
   refine wpAnyLast_ready (rs := [1, 5]) (by kernel_rfl) (by simp) ?_
   refine AllReadyL.cons (o := Oper.mk _ _ _ _ _ _) rfl (by decide) (fun K hK => ?_) ?_
   ·refine call_ 18 #[.string s] (by rfl) rfl (by first|(go_simp;done)|(go_simp;rfl)) ((quotes_Marks.walk s _ HS.out).mono ?_)
    rintro e W' ⟨v, rfl, hrow, hb'⟩
    obtain ⟨A1, c1, rfl⟩ := own_slice hrow
    rw [← HNW.out] at hrow ⊢
    have hb := zA hb'
    have RM := zA (row_mono hrow HB.le)
    have V1 := zA (row_one hrow)
    clear hrow hb'
    replace E := E.below hb.out
    replace HB := HB.step hb.out
    replace HZ := zA (zz2 HZ.out hb.out.size)
    replace B3 := B3.below hb.out
    refine ⟨_, rfl, ?_⟩
    refine hK.out _ _ E (fun hS => ?_)
    clear hK K hb
    try simp only [Act.put, zB, zC, zD]
    refine wpAnyLast_ready (rs := [3, 5]) (by kernel_rfl) (by simp) ?_
    refine AllReadyL.cons (o := Oper.mk _ _ _ _ _ _) rfl (by decide) (fun K hK => ?_) ?_
    ·refine call_ 19 #[.string s] (by rfl) rfl (by first|(go_simp;done)|(go_simp;rfl)) ((quotes_Inside.walk s _ HS.out).mono ?_)
     rintro e W' ⟨v, rfl, hrow, hb'⟩
     obtain ⟨A2, c2, rfl⟩ := own_slice hrow
     rw [← HNW.out] at hrow ⊢
     have hb := zA hb'
     have RI := zA (row_mono hrow HB.le)
     have V2 := zA (row_one hrow)
     clear hrow hb'
     replace E := E.below hb.out
     replace HB := HB.step hb.out
     replace HZ := zA (zz2 HZ.out hb.out.size)
     replace RM := zA (row_below RM.out hb.out)
     replace B3 := B3.below hb.out
     refine ⟨_, rfl, ?_⟩
     refine hK.out _ _ E (fun hS => ?_)
     clear hK K hb
     try simp only [Act.put, zB, zC, zD]
     refine wpAnyLast_ready (rs := [5]) (by kernel_rfl) (by simp) ?_
     refine AllReadyL.cons (o := Oper.mk _ _ _ _ _ _) rfl (by decide) (fun K hK => ?_) ?_
     ·refine rg_alloc HB (by rfl) (#[.int .i64 0, .slice none 0 0]) 34 (by first|(go_simp;done)|(go_simp;rfl)) ?_
      intro g4 W' G4 GE_g4 B4 HBn hb
      have N1g4 := zA (show g1 < g4 by have := L1.out.1;have := HZ.out;have := G4.out;omega)
      have N34 := zA (show g3 ≠ g4 by have := B3.lt;have := G4.out;omega)
      clear HBn
      replace E := E.below hb.out
      replace HB := HB.step hb.out
      replace HZ := zA (zz2 HZ.out hb.out.size)
      replace RM := zA (row_below RM.out hb.out)
      replace RI := zA (row_below RI.out hb.out)
      replace B3 := B3.below hb.out
      refine hK.out _ _ E (fun hS => ?_)
      clear hK K hb G4
      try simp only [Act.put, zB, zC, zD]
      refine wpAnyLast_ready (rs := [6]) (by kernel_rfl) (by simp) ?_
      refine AllReadyL.cons_last (o := Oper.mk _ _ _ _ _ _) rfl (by decide) (fun K hK => ?_) ?_
      ·refine rg_store HB (by rfl) B3 GE_g3 34 _ _ rfl rfl rfl (by kernel_rfl) rfl (by simp [Value.oneCell']) ?_
       intro w6 B3n HBn K6
       replace E := E.other K6 (Nat.ne_of_lt N1g3.out)
       replace B4 := B4.other K6 (Ne.symm N34.out)
       replace RM := zA (row_other RM.out B3 (by decide) K6)
       replace RI := zA (row_other RI.out B3 (by decide) K6)
       replace B3 := B3n
       replace HB := HBn
       clear B3n HBn K6 HZ
       have HZ := zA (Nat.le_refl 0)
       refine hK.out _ _ ?_
       clear hK K
       try simp only [Act.put, zB, zC, zD]
       refine wpAnyLast_ready (rs := [7]) (by kernel_rfl) (by simp) ?_
       refine AllReadyL.cons_last (o := Oper.mk _ _ _ _ _ _) rfl (by decide) (fun K hK => ?_) ?_
       ·refine rg_store HB (by rfl) B4 GE_g4 34 _ _ rfl rfl rfl (by kernel_rfl) rfl (by simp [Value.oneCell']) ?_
        intro w7 B4n HBn K7
        replace E := E.other K7 (Nat.ne_of_lt N1g4.out)
        replace B3 := B3.other K7 N34.out
        replace RM := zA (row_other RM.out B4 (by decide) K7)
        replace RI := zA (row_other RI.out B4 (by decide) K7)
        replace B4 := B4n
        replace HB := HBn
        clear B4n HBn K7 HZ
        have HZ := zA (Nat.le_refl 0)
        refine hK.out _ _ ?_
        clear hK K
        try simp only [Act.put, zB, zC, zD]
        refine wpAnyLast_done (by kernel_rfl) ?_ _
        refine NoPanic.normal ?_
        go_step
        go_step
        gi_meet
        case rel => exact ⟨g3, g4, c1, c2, A1, A2, rfl, rfl, GE_g3, GE_g4, ⟨N1g3.out, N1g4.out, N34.out⟩, E, B3, B4, RM, RI, HB⟩
       exact AllReadyL.nil
      exact AllReadyL.nil
     exact AllReadyL.nil
    refine AllReadyL.cons (o := Oper.mk _ _ _ _ _ _) rfl (by decide) (fun K hK => ?_) ?_
    ·refine rg_alloc HB (by rfl) (#[.int .i64 0, .slice none 0 0]) 34 (by first|(go_simp;done)|(go_simp;rfl)) ?_
     intro g4 W' G4 GE_g4 B4 HBn hb
     have N1g4 := zA (show g1 < g4 by have := L1.out.1;have := HZ.out;have := G4.out;omega)
     have N34 := zA (show g3 ≠ g4 by have := B3.lt;have := G4.out;omega)
     clear HBn
     replace E := E.below hb.out
     replace HB := HB.step hb.out
     replace HZ := zA (zz2 HZ.out hb.out.size)
     replace RM := zA (row_below RM.out hb.out)
     replace B3 := B3.below hb.out
     refine hK.out _ _ E (fun hS => ?_)
     clear hK K hb G4
     try simp only [Act.put, zB, zC, zD]
     refine wpAnyLast_ready (rs := [3]) (by kernel_rfl) (by simp) ?_
     refine AllReadyL.cons (o := Oper.mk _ _ _ _ _ _) rfl (by decide) (fun K hK => ?_) ?_
     ·refine call_ 19 #[.string s] (by rfl) rfl (by first|(go_simp;done)|(go_simp;rfl)) ((quotes_Inside.walk s _ HS.out).mono ?_)
      rintro e W' ⟨v, rfl, hrow, hb'⟩
      obtain ⟨A2, c2, rfl⟩ := own_slice hrow
      rw [← HNW.out] at hrow ⊢
      have hb := zA hb'
      have RI := zA (row_mono hrow HB.le)
      have V2 := zA (row_one hrow)
      clear hrow hb'
      replace E := E.below hb.out
      replace HB := HB.step hb.out
      replace HZ := zA (zz2 HZ.out hb.out.size)
      replace RM := zA (row_below RM.out hb.out)
      replace B3 := B3.below hb.out
      replace B4 := B4.below hb.out
      refine ⟨_, rfl, ?_⟩
      refine hK.out _ _ E (fun hS => ?_)
      clear hK K hb
      try simp only [Act.put, zB, zC, zD]
      refine wpAnyLast_ready (rs := [6]) (by kernel_rfl) (by simp) ?_
      refine AllReadyL.cons_last (o := Oper.mk _ _ _ _ _ _) rfl (by decide) (fun K hK => ?_) ?_
      ·refine rg_store HB (by rfl) B3 GE_g3 34 _ _ rfl rfl rfl (by kernel_rfl) rfl (by simp [Value.oneCell']) ?_
       intro w6 B3n HBn K6
       replace E := E.other K6 (Nat.ne_of_lt N1g3.out)
       replace B4 := B4.other K6 (Ne.symm N34.out)
       replace RM := zA (row_other RM.out B3 (by decide) K6)
       replace RI := zA (row_other RI.out B3 (by decide) K6)
       replace B3 := B3n
       replace HB := HBn
       clear B3n HBn K6 HZ
       have HZ := zA (Nat.le_refl 0)
       refine hK.out _ _ ?_
       clear hK K
       try simp only [Act.put, zB, zC, zD]
       refine wpAnyLast_ready (rs := [7]) (by kernel_rfl) (by simp) ?_
       refine AllReadyL.cons_last (o := Oper.mk _ _ _ _ _ _) rfl (by decide) (fun K hK => ?_) ?_
       ·refine rg_store HB (by rfl) B4 GE_g4 34 _ _ rfl rfl rfl (by kernel_rfl) rfl (by simp [Value.oneCell']) ?_
        intro w7 B4n HBn K7
        replace E := E.other K7 (Nat.ne_of_lt N1g4.out)
        replace B3 := B3.other K7 N34.out
        replace RM := zA (row_other RM.out B4 (by decide) K7)
        replace RI := zA (row_other RI.out B4 (by decide) K7)
        replace B4 := B4n
        replace HB := HBn
        clear B4n HBn K7 HZ
        have HZ := zA (Nat.le_refl 0)
        refine hK.out _ _ ?_
        clear hK K
        try simp only [Act.put, zB, zC, zD]
        refine wpAnyLast_done (by kernel_rfl) ?_ _
        refine NoPanic.normal ?_
        go_step
        go_step
        gi_meet
        case rel => exact ⟨g3, g4, c1, c2, A1, A2, rfl, rfl, GE_g3, GE_g4, ⟨N1g3.out, N1g4.out, N34.out⟩, E, B3, B4, RM, RI, HB⟩
       exact AllReadyL.nil
      exact AllReadyL.nil
     exact AllReadyL.nil
    exact AllReadyL.nil
   refine AllReadyL.cons (o := Oper.mk _ _ _ _ _ _) rfl (by decide) (fun K hK => ?_) ?_
   ·refine rg_alloc HB (by rfl) (#[.int .i64 0, .slice none 0 0]) 34 (by first|(go_simp;done)|(go_simp;rfl)) ?_
    intro g4 W' G4 GE_g4 B4 HBn hb
    have N1g4 := zA (show g1 < g4 by have := L1.out.1;have := HZ.out;have := G4.out;omega)
    have N34 := zA (show g3 ≠ g4 by have := B3.lt;have := G4.out;omega)
    clear HBn
    replace E := E.below hb.out
    replace HB := HB.step hb.out
    replace HZ := zA (zz2 HZ.out hb.out.size)
    replace B3 := B3.below hb.out
    refine hK.out _ _ E (fun hS => ?_)
    clear hK K hb G4
    try simp only [Act.put, zB, zC, zD]
    refine wpAnyLast_ready (rs := [1]) (by kernel_rfl) (by simp) ?_
    refine AllReadyL.cons (o := Oper.mk _ _ _ _ _ _) rfl (by decide) (fun K hK => ?_) ?_
    ·refine call_ 18 #[.string s] (by rfl) rfl (by first|(go_simp;done)|(go_simp;rfl)) ((quotes_Marks.walk s _ HS.out).mono ?_)
     rintro e W' ⟨v, rfl, hrow, hb'⟩
     obtain ⟨A1, c1, rfl⟩ := own_slice hrow
     rw [← HNW.out] at hrow ⊢
     have hb := zA hb'
     have RM := zA (row_mono hrow HB.le)
     have V1 := zA (row_one hrow)
     clear hrow hb'
     replace E := E.below hb.out
     replace HB := HB.step hb.out
     replace HZ := zA (zz2 HZ.out hb.out.size)
     replace B3 := B3.below hb.out
     replace B4 := B4.below hb.out
     refine ⟨_, rfl, ?_⟩
     refine hK.out _ _ E (fun hS => ?_)
     clear hK K hb
     try simp only [Act.put, zB, zC, zD]
     refine wpAnyLast_ready (rs := [3]) (by kernel_rfl) (by simp) ?_
     refine AllReadyL.cons (o := Oper.mk _ _ _ _ _ _) rfl (by decide) (fun K hK => ?_) ?_
     ·refine call_ 19 #[.string s] (by rfl) rfl (by first|(go_simp;done)|(go_simp;rfl)) ((quotes_Inside.walk s _ HS.out).mono ?_)
      rintro e W' ⟨v, rfl, hrow, hb'⟩
      obtain ⟨A2, c2, rfl⟩ := own_slice hrow
      rw [← HNW.out] at hrow ⊢
      have hb := zA hb'
      have RI := zA (row_mono hrow HB.le)
      have V2 := zA (row_one hrow)
      clear hrow hb'
      replace E := E.below hb.out
      replace HB := HB.step hb.out
      replace HZ := zA (zz2 HZ.out hb.out.size)
      replace RM := zA (row_below RM.out hb.out)
      replace B3 := B3.below hb.out
      replace B4 := B4.below hb.out
      refine ⟨_, rfl, ?_⟩
      refine hK.out _ _ E (fun hS => ?_)
      clear hK K hb
      try simp only [Act.put, zB, zC, zD]
      refine wpAnyLast_ready (rs := [6]) (by kernel_rfl) (by simp) ?_
      refine AllReadyL.cons_last (o := Oper.mk _ _ _ _ _ _) rfl (by decide) (fun K hK => ?_) ?_
      ·refine rg_store HB (by rfl) B3 GE_g3 34 _ _ rfl rfl rfl (by kernel_rfl) rfl (by simp [Value.oneCell']) ?_
       intro w6 B3n HBn K6
       replace E := E.other K6 (Nat.ne_of_lt N1g3.out)
       replace B4 := B4.other K6 (Ne.symm N34.out)
       replace RM := zA (row_other RM.out B3 (by decide) K6)
       replace RI := zA (row_other RI.out B3 (by decide) K6)
       replace B3 := B3n
       replace HB := HBn
       clear B3n HBn K6 HZ
       have HZ := zA (Nat.le_refl 0)
       refine hK.out _ _ ?_
       clear hK K
       try simp only [Act.put, zB, zC, zD]
       refine wpAnyLast_ready (rs := [7]) (by kernel_rfl) (by simp) ?_
       refine AllReadyL.cons_last (o := Oper.mk _ _ _ _ _ _) rfl (by decide) (fun K hK => ?_) ?_
       ·refine rg_store HB (by rfl) B4 GE_g4 34 _ _ rfl rfl rfl (by kernel_rfl) rfl (by simp [Value.oneCell']) ?_
        intro w7 B4n HBn K7
        replace E := E.other K7 (Nat.ne_of_lt N1g4.out)
        replace B3 := B3.other K7 N34.out
        replace RM := zA (row_other RM.out B4 (by decide) K7)
        replace RI := zA (row_other RI.out B4 (by decide) K7)
        replace B4 := B4n
        replace HB := HBn
        clear B4n HBn K7 HZ
        have HZ := zA (Nat.le_refl 0)
        refine hK.out _ _ ?_
        clear hK K
        try simp only [Act.put, zB, zC, zD]
        refine wpAnyLast_done (by kernel_rfl) ?_ _
        refine NoPanic.normal ?_
        go_step
        go_step
        gi_meet
        case rel => exact ⟨g3, g4, c1, c2, A1, A2, rfl, rfl, GE_g3, GE_g4, ⟨N1g3.out, N1g4.out, N34.out⟩, E, B3, B4, RM, RI, HB⟩
       exact AllReadyL.nil
      exact AllReadyL.nil
     exact AllReadyL.nil
    exact AllReadyL.nil
   exact AllReadyL.nil
  refine AllReadyL.cons (o := Oper.mk _ _ _ _ _ _) rfl (by decide) (fun K hK => ?_) ?_
  ·refine rg_alloc HB (by rfl) (#[.int .i64 0, .slice none 0 0]) 34 (by first|(go_simp;done)|(go_simp;rfl)) ?_
   intro g4 W' G4 GE_g4 B4 HBn hb
   have N1g4 := zA (show g1 < g4 by have := L1.out.1;have := HZ.out;have := G4.out;omega)
   clear HBn
   replace E := E.below hb.out
   replace HB := HB.step hb.out
   replace HZ := zA (zz2 HZ.out hb.out.size)
   refine hK.out _ _ E (fun hS => ?_)
   clear hK K hb G4
   try simp only [Act.put, zB, zC, zD]
   refine wpAnyLast_ready (rs := [1, 4]) (by kernel_rfl) (by simp) ?_
   refine AllReadyL.cons (o := Oper.mk _ _ _ _ _ _) rfl (by decide) (fun K hK => ?_) ?_
   ·refine call_ 18 #[.string s] (by rfl) rfl (by first|(go_simp;done)|(go_simp;rfl)) ((quotes_Marks.walk s _ HS.out).mono ?_)
    rintro e W' ⟨v, rfl, hrow, hb'⟩
    obtain ⟨A1, c1, rfl⟩ := own_slice hrow
    rw [← HNW.out] at hrow ⊢
    have hb := zA hb'
    have RM := zA (row_mono hrow HB.le)
    have V1 := zA (row_one hrow)
    clear hrow hb'
    replace E := E.below hb.out
    replace HB := HB.step hb.out
    replace HZ := zA (zz2 HZ.out hb.out.size)
    replace B4 := B4.below hb.out
    refine ⟨_, rfl, ?_⟩
    refine hK.out _ _ E (fun hS => ?_)
    clear hK K hb
    try simp only [Act.put, zB, zC, zD]
    refine wpAnyLast_ready (rs := [3, 4]) (by kernel_rfl) (by simp) ?_
    refine AllReadyL.cons (o := Oper.mk _ _ _ _ _ _) rfl (by decide) (fun K hK => ?_) ?_
    ·refine call_ 19 #[.string s] (by rfl) rfl (by first|(go_simp;done)|(go_simp;rfl)) ((quotes_Inside.walk s _ HS.out).mono ?_)
     rintro e W' ⟨v, rfl, hrow, hb'⟩
     obtain ⟨A2, c2, rfl⟩ := own_slice hrow
     rw [← HNW.out] at hrow ⊢
     have hb := zA hb'
     have RI := zA (row_mono hrow HB.le)
     have V2 := zA (row_one hrow)
     clear hrow hb'
     replace E := E.below hb.out
     replace HB := HB.step hb.out
     replace HZ := zA (zz2 HZ.out hb.out.size)
     replace RM := zA (row_below RM.out hb.out)
     replace B4 := B4.below hb.out
     refine ⟨_, rfl, ?_⟩
     refine hK.out _ _ E (fun hS => ?_)
     clear hK K hb
     try simp only [Act.put, zB, zC, zD]
     refine wpAnyLast_ready (rs := [4]) (by kernel_rfl) (by simp) ?_
     refine AllReadyL.cons (o := Oper.mk _ _ _ _ _ _) rfl (by decide) (fun K hK => ?_) ?_
     ·refine rg_alloc HB (by rfl) (#[.int .i64 0, .slice none 0 0]) 34 (by first|(go_simp;done)|(go_simp;rfl)) ?_
      intro g3 W' G3 GE_g3 B3 HBn hb
      have N1g3 := zA (show g1 < g3 by have := L1.out.1;have := HZ.out;have := G3.out;omega)
      have N34 := zA (show g3 ≠ g4 by have := B4.lt;have := G3.out;omega)
      clear HBn
      replace E := E.below hb.out
      replace HB := HB.step hb.out
      replace HZ := zA (zz2 HZ.out hb.out.size)
      replace RM := zA (row_below RM.out hb.out)
      replace RI := zA (row_below RI.out hb.out)
      replace B4 := B4.below hb.out
      refine hK.out _ _ E (fun hS => ?_)
      clear hK K hb G3
      try simp only [Act.put, zB, zC, zD]
      refine wpAnyLast_ready (rs := [6]) (by kernel_rfl) (by simp) ?_
      refine AllReadyL.cons_last (o := Oper.mk _ _ _ _ _ _) rfl (by decide) (fun K hK => ?_) ?_
      ·refine rg_store HB (by rfl) B3 GE_g3 34 _ _ rfl rfl rfl (by kernel_rfl) rfl (by simp [Value.oneCell']) ?_
       intro w6 B3n HBn K6
       replace E := E.other K6 (Nat.ne_of_lt N1g3.out)
       replace B4 := B4.other K6 (Ne.symm N34.out)
       replace RM := zA (row_other RM.out B3 (by decide) K6)
       replace RI := zA (row_other RI.out B3 (by decide) K6)
       replace B3 := B3n
       replace HB := HBn
       clear B3n HBn K6 HZ
       have HZ := zA (Nat.le_refl 0)
       refine hK.out _ _ ?_
       clear hK K
       try simp only [Act.put, zB, zC, zD]
       refine wpAnyLast_ready (rs := [7]) (by kernel_rfl) (by simp) ?_
       refine AllReadyL.cons_last (o := Oper.mk _ _ _ _ _ _) rfl (by decide) (fun K hK => ?_) ?_
       ·refine rg_store HB (by rfl) B4 GE_g4 34 _ _ rfl rfl rfl (by kernel_rfl) rfl (by simp [Value.oneCell']) ?_
        intro w7 B4n HBn K7
        replace E := E.other K7 (Nat.ne_of_lt N1g4.out)
        replace B3 := B3.other K7 N34.out
        replace RM := zA (row_other RM.out B4 (by decide) K7)
        replace RI := zA (row_other RI.out B4 (by decide) K7)
        replace B4 := B4n
        replace HB := HBn
        clear B4n HBn K7 HZ
        have HZ := zA (Nat.le_refl 0)
        refine hK.out _ _ ?_
        clear hK K
        try simp only [Act.put, zB, zC, zD]
        refine wpAnyLast_done (by kernel_rfl) ?_ _
        refine NoPanic.normal ?_
        go_step
        go_step
        gi_meet
        case rel => exact ⟨g3, g4, c1, c2, A1, A2, rfl, rfl, GE_g3, GE_g4, ⟨N1g3.out, N1g4.out, N34.out⟩, E, B3, B4, RM, RI, HB⟩
       exact AllReadyL.nil
      exact AllReadyL.nil
     exact AllReadyL.nil
    refine AllReadyL.cons (o := Oper.mk _ _ _ _ _ _) rfl (by decide) (fun K hK => ?_) ?_
    ·refine rg_alloc HB (by rfl) (#[.int .i64 0, .slice none 0 0]) 34 (by first|(go_simp;done)|(go_simp;rfl)) ?_
     intro g3 W' G3 GE_g3 B3 HBn hb
     have N1g3 := zA (show g1 < g3 by have := L1.out.1;have := HZ.out;have := G3.out;omega)
     have N34 := zA (show g3 ≠ g4 by have := B4.lt;have := G3.out;omega)
     clear HBn
     replace E := E.below hb.out
     replace HB := HB.step hb.out
     replace HZ := zA (zz2 HZ.out hb.out.size)
     replace RM := zA (row_below RM.out hb.out)
     replace B4 := B4.below hb.out
     refine hK.out _ _ E (fun hS => ?_)
     clear hK K hb G3
     try simp only [Act.put, zB, zC, zD]
     refine wpAnyLast_ready (rs := [3]) (by kernel_rfl) (by simp) ?_
     refine AllReadyL.cons (o := Oper.mk _ _ _ _ _ _) rfl (by decide) (fun K hK => ?_) ?_
     ·refine call_ 19 #[.string s] (by rfl) rfl (by first|(go_simp;done)|(go_simp;rfl)) ((quotes_Inside.walk s _ HS.out).mono ?_)
      rintro e W' ⟨v, rfl, hrow, hb'⟩
      obtain ⟨A2, c2, rfl⟩ := own_slice hrow
      rw [← HNW.out] at hrow ⊢
      have hb := zA hb'
      have RI := zA (row_mono hrow HB.le)
      have V2 := zA (row_one hrow)
      clear hrow hb'
      replace E := E.below hb.out
      replace HB := HB.step hb.out
      replace HZ := zA (zz2 HZ.out hb.out.size)
      replace RM := zA (row_below RM.out hb.out)
      replace B3 := B3.below hb.out
      replace B4 := B4.below hb.out
      refine ⟨_, rfl, ?_⟩
      refine hK.out _ _ E (fun hS => ?_)
      clear hK K hb
      try simp only [Act.put, zB, zC, zD]
      refine wpAnyLast_ready (rs := [6]) (by kernel_rfl) (by simp) ?_
      refine AllReadyL.cons_last (o := Oper.mk _ _ _ _ _ _) rfl (by decide) (fun K hK => ?_) ?_
      ·refine rg_store HB (by rfl) B3 GE_g3 34 _ _ rfl rfl rfl (by kernel_rfl) rfl (by simp [Value.oneCell']) ?_
       intro w6 B3n HBn K6
       replace E := E.other K6 (Nat.ne_of_lt N1g3.out)
       replace B4 := B4.other K6 (Ne.symm N34.out)
       replace RM := zA (row_other RM.out B3 (by decide) K6)
       replace RI := zA (row_other RI.out B3 (by decide) K6)
       replace B3 := B3n
       replace HB := HBn
       clear B3n HBn K6 HZ
       have HZ := zA (Nat.le_refl 0)
       refine hK.out _ _ ?_
       clear hK K
       try simp only [Act.put, zB, zC, zD]
       refine wpAnyLast_ready (rs := [7]) (by kernel_rfl) (by simp) ?_
       refine AllReadyL.cons_last (o := Oper.mk _ _ _ _ _ _) rfl (by decide) (fun K hK => ?_) ?_
       ·refine rg_store HB (by rfl) B4 GE_g4 34 _ _ rfl rfl rfl (by kernel_rfl) rfl (by simp [Value.oneCell']) ?_
        intro w7 B4n HBn K7
        replace E := E.other K7 (Nat.ne_of_lt N1g4.out)
        replace B3 := B3.other K7 N34.out
        replace RM := zA (row_other RM.out B4 (by decide) K7)
        replace RI := zA (row_other RI.out B4 (by decide) K7)
        replace B4 := B4n
        replace HB := HBn
        clear B4n HBn K7 HZ
        have HZ := zA (Nat.le_refl 0)
        refine hK.out _ _ ?_
        clear hK K
        try simp only [Act.put, zB, zC, zD]
        refine wpAnyLast_done (by kernel_rfl) ?_ _
        refine NoPanic.normal ?_
        go_step
        go_step
        gi_meet
        case rel => exact ⟨g3, g4, c1, c2, A1, A2, rfl, rfl, GE_g3, GE_g4, ⟨N1g3.out, N1g4.out, N34.out⟩, E, B3, B4, RM, RI, HB⟩
       exact AllReadyL.nil
      exact AllReadyL.nil
     exact AllReadyL.nil
    exact AllReadyL.nil
   refine AllReadyL.cons (o := Oper.mk _ _ _ _ _ _) rfl (by decide) (fun K hK => ?_) ?_
   ·refine rg_alloc HB (by rfl) (#[.int .i64 0, .slice none 0 0]) 34 (by first|(go_simp;done)|(go_simp;rfl)) ?_
    intro g3 W' G3 GE_g3 B3 HBn hb
    have N1g3 := zA (show g1 < g3 by have := L1.out.1;have := HZ.out;have := G3.out;omega)
    have N34 := zA (show g3 ≠ g4 by have := B4.lt;have := G3.out;omega)
    clear HBn
    replace E := E.below hb.out
    replace HB := HB.step hb.out
    replace HZ := zA (zz2 HZ.out hb.out.size)
    replace B4 := B4.below hb.out
    refine hK.out _ _ E (fun hS => ?_)
    clear hK K hb G3
    try simp only [Act.put, zB, zC, zD]
    refine wpAnyLast_ready (rs := [1]) (by kernel_rfl) (by simp) ?_
    refine AllReadyL.cons (o := Oper.mk _ _ _ _ _ _) rfl (by decide) (fun K hK => ?_) ?_
    ·refine call_ 18 #[.string s] (by rfl) rfl (by first|(go_simp;done)|(go_simp;rfl)) ((quotes_Marks.walk s _ HS.out).mono ?_)
     rintro e W' ⟨v, rfl, hrow, hb'⟩
     obtain ⟨A1, c1, rfl⟩ := own_slice hrow
     rw [← HNW.out] at hrow ⊢
     have hb := zA hb'
     have RM := zA (row_mono hrow HB.le)
     have V1 := zA (row_one hrow)
     clear hrow hb'
     replace E := E.below hb.out
     replace HB := HB.step hb.out
     replace HZ := zA (zz2 HZ.out hb.out.size)
     replace B3 := B3.below hb.out
     replace B4 := B4.below hb.out
     refine ⟨_, rfl, ?_⟩
     refine hK.out _ _ E (fun hS => ?_)
     clear hK K hb
     try simp only [Act.put, zB, zC, zD]
     refine wpAnyLast_ready (rs := [3]) (by kernel_rfl) (by simp) ?_
     refine AllReadyL.cons (o := Oper.mk _ _ _ _ _ _) rfl (by decide) (fun K hK => ?_) ?_
     ·refine call_ 19 #[.string s] (by rfl) rfl (by first|(go_simp;done)|(go_simp;rfl)) ((quotes_Inside.walk s _ HS.out).mono ?_)
      rintro e W' ⟨v, rfl, hrow, hb'⟩
      obtain ⟨A2, c2, rfl⟩ := own_slice hrow
      rw [← HNW.out] at hrow ⊢
      have hb := zA hb'
      have RI := zA (row_mono hrow HB.le)
      have V2 := zA (row_one hrow)
      clear hrow hb'
      replace E := E.below hb.out
      replace HB := HB.step hb.out
      replace HZ := zA (zz2 HZ.out hb.out.size)
      replace RM := zA (row_below RM.out hb.out)
      replace B3 := B3.below hb.out
      replace B4 := B4.below hb.out
      refine ⟨_, rfl, ?_⟩
      refine hK.out _ _ E (fun hS => ?_)
      clear hK K hb
      try simp only [Act.put, zB, zC, zD]
      refine wpAnyLast_ready (rs := [6]) (by kernel_rfl) (by simp) ?_
      refine AllReadyL.cons_last (o := Oper.mk _ _ _ _ _ _) rfl (by decide) (fun K hK => ?_) ?_
      ·refine rg_store HB (by rfl) B3 GE_g3 34 _ _ rfl rfl rfl (by kernel_rfl) rfl (by simp [Value.oneCell']) ?_
       intro w6 B3n HBn K6
       replace E := E.other K6 (Nat.ne_of_lt N1g3.out)
       replace B4 := B4.other K6 (Ne.symm N34.out)
       replace RM := zA (row_other RM.out B3 (by decide) K6)
       replace RI := zA (row_other RI.out B3 (by decide) K6)
       replace B3 := B3n
       replace HB := HBn
       clear B3n HBn K6 HZ
       have HZ := zA (Nat.le_refl 0)
       refine hK.out _ _ ?_
       clear hK K
       try simp only [Act.put, zB, zC, zD]
       refine wpAnyLast_ready (rs := [7]) (by kernel_rfl) (by simp) ?_
       refine AllReadyL.cons_last (o := Oper.mk _ _ _ _ _ _) rfl (by decide) (fun K hK => ?_) ?_
       ·refine rg_store HB (by rfl) B4 GE_g4 34 _ _ rfl rfl rfl (by kernel_rfl) rfl (by simp [Value.oneCell']) ?_
        intro w7 B4n HBn K7
        replace E := E.other K7 (Nat.ne_of_lt N1g4.out)
        replace B3 := B3.other K7 N34.out
        replace RM := zA (row_other RM.out B4 (by decide) K7)
        replace RI := zA (row_other RI.out B4 (by decide) K7)
        replace B4 := B4n
        replace HB := HBn
        clear B4n HBn K7 HZ
        have HZ := zA (Nat.le_refl 0)
        refine hK.out _ _ ?_
        clear hK K
        try simp only [Act.put, zB, zC, zD]
        refine wpAnyLast_done (by kernel_rfl) ?_ _
        refine NoPanic.normal ?_
        go_step
        go_step
        gi_meet
        case rel => exact ⟨g3, g4, c1, c2, A1, A2, rfl, rfl, GE_g3, GE_g4, ⟨N1g3.out, N1g4.out, N34.out⟩, E, B3, B4, RM, RI, HB⟩
       exact AllReadyL.nil
      exact AllReadyL.nil
     exact AllReadyL.nil
    exact AllReadyL.nil
   exact AllReadyL.nil
  exact AllReadyL.nil
 case rest =>
  obtain ⟨g3, g4, c1, c2, A1, A2, rfl, rfl, GE_g3, GE_g4, N134, E1, B3, B4, RM, RI, HB⟩ := hcut
  gi_upto_region 3 with (first
   | (gi_at_call 84;refine (callsIn_of HF (marks_classes.tells _)).mono ?_;rintro e w2 ⟨rfl, hb2⟩;have HK2 := zA hb2;have HBn := HB.step hb2;clear HB hb2;have HB := HBn;clear HBn)
   | ((with_reducible refine gate_dstIn (N := 5) rfl ?_);refine ev_allocIn HB rfl rfl (clsA fun _ => false) 111 ?hr ?_;(case hr => (rw [← clsA_zero];go_simp;rfl));intro g5 w3 G_g5 GE_g5 B_g5 HBn K_g5 KO_w3;clear HB;have HB := HBn;clear HBn)
   | ((with_reducible refine gate_dstIn (N := 6) rfl ?_);refine ev_allocIn HB rfl rfl (clsA fun _ => false) 111 ?hr ?_;(case hr => (rw [← clsA_zero];go_simp;rfl));intro g6 w4 G_g6 GE_g6 B_g6 HBn K_g6 KO_w4;clear HB;have HB := HBn;clear HBn)
   | ((with_reducible refine gate_In (Op.store 111 (.tmp 5) (.tmp 22)) rfl ?_);refine ev_storeIn HB (B_g5.below K_g6.out) GE_g5 rfl 111 _ _ rfl rfl rfl (sizeC' _) (by simp only [clsA_size]) (clsA_one _) ?_;intro w5 B5 HBn K5 KO5;clear HB;have HB := HBn;clear HBn)
   | ((with_reducible refine gate_In (Op.store 111 (.tmp 6) (.tmp 23)) rfl ?_);refine ev_storeIn HB (B_g6.other K5 (Nat.ne_of_gt (Nat.lt_of_lt_of_le B_g5.lt G_g6.out))) GE_g6 rfl 111 _ _ rfl rfl rfl (sizeC' _) (by simp only [clsA_size]) (clsA_one _) ?_;intro w6 B6 HBn K6 KO6;clear HB;have HB := HBn;clear HBn))
  have N0 := zA (show g1 < g5 ∧ g3 < g5 ∧ g4 < g5 ∧ g5 < g6 by have := E1.lt;have := B3.lt;have := B4.lt;have := HK2.out.size;have := G_g5.out;have := B_g5.lt;have := G_g6.out;omega)
  have k56 := zN K_g5.out K_g6.out
  have k26 := zN HK2.out k56
  have n1 := N0.out
  have E1' := ((E1.below k26).other K5 (by omega)).other K6 (by omega)
  have B3' := ((B3.below k26).other K5 (by omega)).other K6 (by omega)
  have B4' := ((B4.below k26).other K5 (by omega)).other K6 (by omega)
  have B5' := B5.other K6 (by omega)
  have RM' := zA (row_other (row_other (row_below RM.out k26) (B_g5.below K_g6.out) (by decide) K5) (B_g6.other K5 (by omega)) (by decide) K6)
  have RI' := zA (row_other (row_other (row_below RI.out k26) (B_g5.below K_g6.out) (by decide) K5) (B_g6.other K5 (by omega)) (by decide) K6)
  have c31 := B3'.cell (i := 1) rfl
  clear E1 B3 B4 B5 RM RI k56 k26 n1 K_g5 K_g6 HK2 K5 K6 B_g5 B_g6 G_g5 G_g6 KO_w3 KO_w4 KO5 KO6
  gi_upto_region 4 with (first
   | ((with_reducible refine gate_dstIn (N := 27) rfl ?_);refine ev_makeIn HB rfl 73 77 _ _ (.agg #[.int .u64 0, .int .u64 0, .int .u64 0, .int .u64 0]) 4 32 nw rfl rfl rfl Tryd.underlying73 (by kernel_rfl) (by omega) (by unfold maxLen;omega) ?_;intro gr w7 GR RO HBn K_gr KO7;clear HB;have HB := HBn;clear HBn)
   | ((with_reducible refine gate_dstIn (N := 7) rfl ?_);refine ev_allocIn HB rfl rfl (#[.slice none 0 0]) 73 ?hr ?_;(case hr => first|(go_simp;done)|(go_simp;rfl));intro g7 w8 G_g7 GE_g7 B_g7 HBn K_g7 KO_w8;clear HB;have HB := HBn;clear HBn)
   | ((with_reducible refine gate_In (Op.store 73 (.tmp 7) (.tmp 27)) rfl ?_);refine ev_store1In (i := 0) HB B_g7 GE_g7 rfl 73 _ _ rfl rfl (.slice (some ⟨gr, 0, none⟩) 0 nw) rfl (by simp) (by kernel_rfl) rfl ?_;intro w9 B7 HBn K_w9 KO_w9;clear HB;have HB := HBn;clear HBn))
  have N7 := zA (show g6 < g7 by have := B6.lt;have := K_gr.out.size;have := G_g7.out;omega)
  have k78 := zN K_gr.out K_g7.out
  have n1 := N0.out
  have n2 := N7.out
  have RO' := row_other (row_below RO K_g7.out) B_g7 (by decide) K_w9
  have E1 := (E1'.below k78).other K_w9 (by omega)
  have B3 := (B3'.below k78).other K_w9 (by omega)
  have B4 := (B4'.below k78).other K_w9 (by omega)
  have B5 := (B5'.below k78).other K_w9 (by omega)
  have B6n := (B6.below k78).other K_w9 (by omega)
  have RM := zA (row_other (row_below RM'.out k78) B_g7 (by decide) K_w9)
  have RI := zA (row_other (row_below RI'.out k78) B_g7 (by decide) K_w9)
  have c10 := E1.cell (i := 0) rfl
  clear E1' B3' B4' B5' B6 RM' RI' c31 k78 n1 n2 K_gr K_g7 K_w9 B_g7 RO G_g7 GR KO7 KO_w8 KO_w9
  gi_wp2_with (first
   | (gi_at_call 55;refine (callsIn_of HF (block_Blocks.calls s 32 _)).mono ?_;rintro e w10 ⟨h1, h2, rfl, GE1, GE2, A_1, A_2, HB7⟩))
  obtain ⟨v1, hv1⟩ : ∃ v1, v1 = Value.slice A1 nw c1 := ⟨_, rfl⟩
  obtain ⟨v2, hv2⟩ : ∃ v2, v2 = Value.slice A2 nw c2 := ⟨_, rfl⟩
  obtain ⟨L, hL⟩ : ∃ L : List (Nat × Array Value × Nat), L = [(g1, #[.string s], 9), (g3, #[.int .i64 s.size, .slice A1 nw c1], 34), (g4, #[.int .i64 s.size, .slice A2 nw c2], 34), (g5, clsA sgx, 111), (g6, clsA blx, 111), (h1, #[.string s], 9), (h2, #[.int .u8 32], 5)] := ⟨_, rfl⟩
  have CL : Blks L w10 := ⟨by
   rw [hL]
   intro b m
   simp at m
   rcases m with rfl|rfl|rfl|rfl|rfl|rfl|rfl
   ·exact E1.below HB7.out
   ·exact B3.below HB7.out
   ·exact B4.below HB7.out
   ·exact B5.below HB7.out
   ·exact B6n.below HB7.out
   ·exact A_1
   ·exact A_2⟩
  have C7 := B7.below HB7.out
  have L7 := C7.lt
  have CO := row_below RO' HB7.out
  have CM := row_below RM.out HB7.out
  have CI := row_below RI.out HB7.out
  have LL : ∀ b ∈ L, b.1 < w10.heap.size := fun b m => (CL.out b m).lt
  have LT : ∀ b ∈ L, b.2.2 ≠ 77 := by
   rw [hL]
   intro b m
   simp at m
   rcases m with rfl|rfl|rfl|rfl|rfl|rfl|rfl <;> (dsimp only;decide)
  have LN : ∀ b ∈ L, b.1 ≠ g7 := by
   have := N0.out
   have := N7.out
   have := B7.lt
   rw [hL]
   intro b m
   simp at m
   rcases m with rfl|rfl|rfl|rfl|rfl|rfl|rfl <;> (dsimp only;omega)
  have M1 : (g1, #[.string s], 9) ∈ L := by rw [hL];simp
  have M3 : (g3, #[.int .i64 s.size, .slice A1 nw c1], 34) ∈ L := by rw [hL];simp
  have M4 : (g4, #[.int .i64 s.size, .slice A2 nw c2], 34) ∈ L := by rw [hL];simp
  have M5 : (g5, clsA sgx, 111) ∈ L := by rw [hL];simp
  have M6 : (g6, clsA blx, 111) ∈ L := by rw [hL];simp
  have M7 : (h1, #[.string s], 9) ∈ L := by rw [hL];simp
  have M8 : (h2, #[.int .u8 32], 5) ∈ L := by rw [hL];simp
  have HBW := HB.step HB7.out
  have LH1 := A_1.lt
  have LH2 := A_2.lt
  have PL := zA (And.intro LL (And.intro LT LN))
  have PM := zA (And.intro M1 (And.intro M3 (And.intro M4 (And.intro M5 (And.intro M6 (And.intro M7 M8))))))
  clear E1 B3 B4 B5 B6n B7 RO' RM RI HB7 HB c10 hL LL LT LN M1 M3 M4 M5 M6 M7 M8 N0 N7 hv1 hv2 v1 v2
  refine wpIn_rangeFunc_ownH hro (by decide) (gf := 92) (lb := #[.pointer (some ⟨h1, 0, none⟩), .pointer (some ⟨h2, 0, none⟩)]) rfl f2 (enters_of Tryd.func92 (by kernel_rfl) rfl)
   (block_Blocks_1.stops F HF (9 - 1) (by decide) h1 h2 s 32 HS.out w10 A_1 A_2) Keep2.trans (fun W l o o' hl ho hc hw => Keep2.putObj LH1 LH2 W l o o' hl ho hc hw) (Below.refl _ _) (fun _ => rfl)
   (LookI s nw w L w10.heap.size g7 (.slice A1 nw c1) (.slice A2 nw c2)) (fun _ _ _ => False)
   (fun pre A B row hs hg hr => hs.kept HBW.le hg hr)
   (fun _ _ _ _ _ hs _ _ => hs)
   ⟨CL, CM, CI, ⟨_, C7, CO⟩, HBW, Nat.le_refl _⟩
   (fun x a' W => ∃ gb, w10.heap.size ≤ gb ∧ Blk W gb (blkA (cutF s (64 * ((x.val : Nat) : Int)) 32)) 85 ∧ a' = { tmps := #[.string s, .pointer (some ⟨g1, 0, none⟩), .slice none 0 0, .pointer (some ⟨g3, 0, none⟩), .pointer (some ⟨g4, 0, none⟩), .pointer (some ⟨g5, 0, none⟩), .pointer (some ⟨g6, 0, none⟩), .pointer (some ⟨g7, 0, none⟩), .int .i64 (64 * ((x.val : Nat) : Int)), .pointer (some ⟨gb, 0, none⟩), undef, undef, undef, undef, undef, undef, u16, u17, u18, u19, .tuple #[.agg (clsA sgx), .agg (clsA blx)], .tuple #[.agg (clsA sgx), .agg (clsA blx)], .agg (clsA sgx), .agg (clsA blx), .pointer (some ⟨g3, 1, none⟩), .slice A1 nw c1, .int .i64 (nw : Int), .slice (some ⟨gr, 0, none⟩) 0 nw, .string s, .func (.func 92) #[] #[.pointer (some ⟨h1, 0, none⟩), .pointer (some ⟨h2, 0, none⟩)], .int .i64 (64 * ((x.val : Nat) : Int)), .agg (blkA (cutF s (64 * ((x.val : Nat) : Int)) 32)), u32, u33, u34, u35, u36, u37, u38, u39, u40, u41, u42, u43, u44, u45, u46, u47, u48, u49, u50, u51, u52, u53, u54, u55, u56, u57, u58, u59, u60, u61, u62, u63, u64, u65, u66, u67, u68, u69, u70, u71, u72, u73, u74, u75, u76, u77, u78, u79, u80, u81, u82, u83, u84, u85], defers := [] })
   (fun x a' pre A B row hs hg hr => by
    obtain ⟨gb, h1, h2, h3⟩ := hs
    exact ⟨gb, h1, h2.kept hg (fun r e => (hr r e).2), h3⟩)
   ?assign ?body ?done ?stop
  case assign =>
   intro l pre x W K hI hK
   have HB := hI.hb
   have SZ := zA hI.sz
   dsimp only [blkEnc]
   gi_wp2_with (first
    | ((with_reducible refine gate_dstIn (N := 9) rfl ?_);refine ev_allocIn HB rfl rfl (blkA fun _ => 0) 85 ?hr ?_;(case hr => (rw [← blkA_zero];go_simp;rfl));intro gb w15 G_gb GE_gb B_gb HBn K_gb KO_w15;clear HB;have HB := HBn;clear HBn)
    | ((with_reducible refine gate_In (Op.store 85 (.tmp 9) (.tmp 31)) rfl ?_);refine ev_storeIn HB B_gb GE_gb rfl 85 _ _ rfl rfl rfl (size64' _) (by rw [blkA_size, blkA_size]) (blkA_one _) ?_;intro w16 B16 HBn K_w16 KO_w16;clear HB;have HB := HBn;clear HBn))
   have hKO := KO_w15.out.trans KO_w16.out
   refine hK _ _ (hKO.from _) ?_ ?_ ⟨gb, zz2 SZ.out G_gb.out, B16, rfl⟩
   ·exact (Keep2.below K_gb.out (by have := SZ.out;omega) (by have := SZ.out;omega)).trans (Keep2.other K_w16 (by have := SZ.out;have := G_gb.out;omega) (by have := SZ.out;have := G_gb.out;omega))
   ·have N : ∀ g, g < w10.heap.size → g ≠ gb := fun g h => by have := SZ.out;have := G_gb.out;omega
    exact (hI.below K_gb.out).other B_gb (by decide) (by decide) (fun b m => N _ (PL.out.1 b m)) (N _ L7) HB K_w16
  case body =>
   rintro l pre x a' W hl ⟨r, hr⟩ hI ⟨gb, hgb, BX, rfl⟩ hlt
   clear hr
   have hxn : x.val < nw := by rw [HNW.out];exact x.isLt
   have hx : 64 * x.val < s.size := by have := x.isLt;unfold nwords at this;omega
   obtain ⟨hrl1, (⟨_, hn0⟩ | ⟨gm, cap1, cur1, he, hbg1, BM, hnc1, hcm1, hcs1, HA1⟩)⟩ := row_open hI.r1
   ·omega
   injection he with he1 he2 he3
   subst he1
   subst he3
   clear he2
   obtain ⟨hrl2, (⟨_, hn0⟩ | ⟨gi, cap2, cur2, he, hbg2, BI, hnc2, hcm2, hcs2, HA2⟩)⟩ := row_open hI.r2
   ·omega
   injection he with he1 he2 he3
   subst he1
   subst he3
   clear he2
   have word_get : ∀ q : Nat → Bool, ((wordsOf s.size q).map (Value.int .u64))[x.val]? = some (.int .u64 (iv (wordAt s.size q x.val))) := fun q => by
    rw [List.getElem?_map, wordsOf, List.getElem?_map, List.getElem?_range x.isLt]
    rfl
   obtain ⟨MK, hMK⟩ : ∃ MK, MK = iv (wordAt s.size (mkq s) x.val) := ⟨_, rfl⟩
   obtain ⟨IN, hIN⟩ : ∃ IN, IN = iv (wordAt s.size (insS s) x.val) := ⟨_, rfl⟩
   obtain ⟨O, hO⟩ : ∃ O, O = iv (wordAt s.size (outq s) x.val) := ⟨_, rfl⟩
   obtain ⟨SG, hSG⟩ : ∃ SG, SG = iv (word fun j => sgx (cutF s (64 * ((x.val : Nat) : Int)) 32 j).toNat) := ⟨_, rfl⟩
   obtain ⟨BL, hBL⟩ : ∃ BL, BL = iv (word fun j => blx (cutF s (64 * ((x.val : Nat) : Int)) 32 j).toNat) := ⟨_, rfl⟩
   obtain ⟨SW, hSW⟩ : ∃ SW, SW = iv (wordAt s.size (sgq s) x.val) := ⟨_, rfl⟩
   obtain ⟨BW, hBW⟩ : ∃ BW, BW = iv (wordAt s.size (blq s) x.val) := ⟨_, rfl⟩
   obtain ⟨PW, hPW⟩ : ∃ PW, PW = iv (wordAt s.size (opq s) x.val) := ⟨_, rfl⟩
   obtain ⟨O2, hO2⟩ : ∃ O2, O2 = iv (wordAt s.size (fun i => outq s i && !sgq s i) x.val) := ⟨_, rfl⟩
   obtain ⟨WW, hWW⟩ : ∃ WW, WW = iv (wordAt s.size (wdq s) x.val) := ⟨_, rfl⟩
   have HGM := zA (HA1.get (hMK ▸ word_get (mkq s)))
   have HGI := zA (HA2.get (hIN ▸ word_get (insS s)))
   have OFF : Aside0 (64 * x.val + 64 ≤ s.size → bits .xor .u64 (if IntKind.u64.signed = true then -1 else IntKind.u64.max) (bits .or .u64 MK IN) = O) := ⟨fun h => by rw [show (if IntKind.u64.signed = true then -1 else IntKind.u64.max) = 18446744073709551615 from rfl, hMK, hIN, hO];exact out_full s x.val h⟩
   have OFP : Aside0 (s.size < 64 * x.val + 64 → bits .and .u64 (bits .xor .u64 (if IntKind.u64.signed = true then -1 else IntKind.u64.max) (bits .or .u64 MK IN)) (IntKind.u64.wrap (IntKind.u64.wrap (2 ^ (s.size - 64 * x.val)) - 1)) = O) := ⟨fun h => by rw [show (if IntKind.u64.signed = true then -1 else IntKind.u64.max) = 18446744073709551615 from rfl, hMK, hIN, hO];exact out_part s x.val hx h⟩
   have Q1 : Aside0 (bits .and .u64 SG O = SW) := ⟨by rw [hSG, hO, hSW];exact class_out s x.val sgx⟩
   have Q2 : Aside0 (bits .and .u64 BL O = BW) := ⟨by rw [hBL, hO, hBW];exact class_out s x.val blx⟩
   have Q3 : Aside0 (bits .and .u64 MK IN = PW) := ⟨by rw [hMK, hIN, hPW];exact opens_out s x.val⟩
   have Q4 : Aside0 (bits .andNot .u64 O SW = O2) := ⟨by rw [hO, hSW, hO2];exact word_minus s.size (outq s) (sgq s) x.val⟩
   have Q5 : Aside0 (bits .andNot .u64 O2 BW = WW) := ⟨by rw [hO2, hBW, hWW];exact word_minus s.size _ (blq s) x.val⟩
   have MSK : Aside0 (∀ (p : Nat → Bool) (w : World), Calls Tryd.prog 85 #[.agg (blkA (cutF s (64 * ((x.val : Nat) : Int)) 32)), .agg (clsA p)] w fun e w' => e = .returned (.int .u64 (iv (word fun j => p (cutF s (64 * ((x.val : Nat) : Int)) 32 j).toNat))) ∧ Below w.heap.size w w') := ⟨fun p w => block_Mask.calls _ (fun i => cutF_range s _ 32 (by decide) i) p w⟩
   have MS1 : Aside0 (∀ w, Calls Tryd.prog 85 #[.agg (blkA (cutF s (64 * ((x.val : Nat) : Int)) 32)), .agg (clsA sgx)] w fun e w' => e = .returned (.int .u64 SG) ∧ Below w.heap.size w w') := ⟨fun w => by rw [hSG];exact MSK.out sgx w⟩
   have MS2 : Aside0 (∀ w, Calls Tryd.prog 85 #[.agg (blkA (cutF s (64 * ((x.val : Nat) : Int)) 32)), .agg (clsA blx)] w fun e w' => e = .returned (.int .u64 BL) ∧ Below w.heap.size w w') := ⟨fun w => by rw [hBL];exact MSK.out blx w⟩
   have ROW : Aside0 (rowN s x.val = [.int .u64 SW, .int .u64 BW, .int .u64 PW, .int .u64 WW]) := ⟨by rw [hSW, hBW, hPW, hWW];rfl⟩
   have HX := zA hx
   have HL : Aside0 ((pre.length + 1) * 32 ≤ 140737488355328) := ⟨by have h0 : pre.length < nwords s.size := hlt;have h1 : nwords s.size = (s.size + 63) / 64 := rfl;have := HS.out;omega⟩
   have hq1 : 64 * ((x.val : Nat) : Int) / 64 = ((x.val : Nat) : Int) := by omega
   have hq2 : Int.tdiv (64 * ((x.val : Nat) : Int)) 64 = ((x.val : Nat) : Int) := by rw [Int.tdiv_eq_ediv_of_nonneg (by omega)];omega
   have hq3 : (0 : Int) ≤ ((x.val : Nat) : Int) := by omega
   have hq4 : ((x.val : Nat) : Int) < (nw : Int) := by omega
   have hq5 : ((x.val : Nat) : Int) ≤ 4398046511104 := by omega
   have hq6 : IntKind.i64.wrap ((x.val : Nat) : Int) = ((x.val : Nat) : Int) := by rw [i64_w];unfold wrap64;omega
   have hbd : Aside0 (Below W.heap.size W W.drew) := ⟨below_drew (Below.refl _ _)⟩
   have HI := zA hI
   obtain ⟨v, b7, ho⟩ := hI.out
   have VB : Aside0 (∀ k, v.ownBlock = some k → k < W.heap.size) := ⟨fun k ek => (ho.lt k ek).2⟩
   have E := hI.bs.below hbd.out
   have R1 := zA (row_below hI.r1 hbd.out)
   have R2 := zA (row_below hI.r2 hbd.out)
   have B7 := b7.below hbd.out
   have RO := zA (row_below ho hbd.out)
   have HB := hI.hb.step hbd.out
   clear b7 ho
   have BX' := BX.below hbd.out
   have BM' := BM.below hbd.out
   have BI' := BI.below hbd.out
   have KO' := zA (keepsOthers_below hbd.out)
   have HZ' := zA hbd.out.size
   clear hMK hIN hO hSG hBL hSW hBW hPW hO2 hWW MSK word_get hrl1 hbg1 BM hnc1 hcm1 hcs1 HA1 hrl2 hbg2 BI hnc2 hcm2 hcs2 HA2 BX hI hlt hxn hx
   gi_upto_region 8 with (fail)
   refine wpIn_region_last_drew HF (S := fun W' => Blk W' g3 #[.int .i64 s.size, .slice (some ⟨gm, 0, none⟩) nw c1] 34 ∧ Blk W' g4 #[.int .i64 s.size, .slice (some ⟨gi, 0, none⟩) nw c2] 34 ∧ Blk W' gm cur1 75 ∧ Blk W' gi cur2 75) (ds := []) (by kernel_rfl) (by kernel_rfl) ⟨E.out _ PM.out.2.1, E.out _ PM.out.2.2.1, BM', BI'⟩ (fun hS => ?_)
   refine' zM (i := 0) (oi := Oper.mk _ _ _ _ _ _) rfl (by kernel_rfl) (by kernel_rfl) (by kernel_rfl) (by kernel_rfl) (by kernel_rfl) (fun _ _ _ h => h) (Or.inl ⟨by rfl, ?hy27⟩) hS ?rest27
   case hy27 => (intro w hSw;(try dsimp only at hSw);first|(go_simp;done)|(go_simp;with_reducible rfl))
   try simp only [Act.put, zB, zC, zD]
   refine zM (i := 1) (oi := Oper.mk _ _ _ _ _ _) rfl (by kernel_rfl) (by kernel_rfl) (by kernel_rfl) (by kernel_rfl) (by kernel_rfl) (fun _ _ _ h => h) (rg_load1 (by rfl) (fun _ hS => hS.1.cell (i := 1) rfl) 32 _ rfl rfl (fun _ => by simp [isAgg, run_underlying Tryd.underlying32])) hS ?_
   try simp only [Act.put, zB, zC, zD]
   refine' zM (i := 2) (oi := Oper.mk _ _ _ _ _ _) rfl (by kernel_rfl) (by kernel_rfl) (by kernel_rfl) (by kernel_rfl) (by kernel_rfl) (fun _ _ _ h => h) (Or.inl ⟨by rfl, ?hy28⟩) hS ?rest28
   case hy28 => (intro w hSw;(try dsimp only at hSw);first|(go_simp;done)|(go_simp;with_reducible rfl))
   try simp only [Act.put, zB, zC, zD]
   refine' zM (i := 3) (oi := Oper.mk _ _ _ _ _ _) rfl (by kernel_rfl) (by kernel_rfl) (by kernel_rfl) (by kernel_rfl) (by kernel_rfl) (fun _ _ _ h => h) (Or.inl ⟨by rfl, ?hy29⟩) hS ?rest29
   case hy29 => (intro w hSw;(try dsimp only at hSw);first|(go_simp;done)|(go_simp;with_reducible rfl))
   try simp only [Act.put, zB, zC, zD]
   refine zM (i := 4) (oi := Oper.mk _ _ _ _ _ _) rfl (by kernel_rfl) (by kernel_rfl) (by kernel_rfl) (by kernel_rfl) (by kernel_rfl) (fun _ _ _ h => h) (rg_load1 (by rfl) (fun _ hS => hS.2.2.1.cell HGM.out) 75 _ rfl rfl (fun _ => by simp [isAgg, run_underlying Tryd.underlying75])) hS ?_
   try simp only [Act.put, zB, zC, zD]
   refine' zM (i := 5) (oi := Oper.mk _ _ _ _ _ _) rfl (by kernel_rfl) (by kernel_rfl) (by kernel_rfl) (by kernel_rfl) (by kernel_rfl) (fun _ _ _ h => h) (Or.inl ⟨by rfl, ?hy30⟩) hS ?rest30
   case hy30 => (intro w hSw;(try dsimp only at hSw);first|(go_simp;done)|(go_simp;with_reducible rfl))
   try simp only [Act.put, zB, zC, zD]
   refine zM (i := 6) (oi := Oper.mk _ _ _ _ _ _) rfl (by kernel_rfl) (by kernel_rfl) (by kernel_rfl) (by kernel_rfl) (by kernel_rfl) (fun _ _ _ h => h) (rg_load1 (by rfl) (fun _ hS => hS.2.1.cell (i := 1) rfl) 32 _ rfl rfl (fun _ => by simp [isAgg, run_underlying Tryd.underlying32])) hS ?_
   try simp only [Act.put, zB, zC, zD]
   refine' zM (i := 7) (oi := Oper.mk _ _ _ _ _ _) rfl (by kernel_rfl) (by kernel_rfl) (by kernel_rfl) (by kernel_rfl) (by kernel_rfl) (fun _ _ _ h => h) (Or.inl ⟨by rfl, ?hy31⟩) hS ?rest31
   case hy31 => (intro w hSw;(try dsimp only at hSw);first|(go_simp;done)|(go_simp;with_reducible rfl))
   try simp only [Act.put, zB, zC, zD]
   refine' zM (i := 8) (oi := Oper.mk _ _ _ _ _ _) rfl (by kernel_rfl) (by kernel_rfl) (by kernel_rfl) (by kernel_rfl) (by kernel_rfl) (fun _ _ _ h => h) (Or.inl ⟨by rfl, ?hy32⟩) hS ?rest32
   case hy32 => (intro w hSw;(try dsimp only at hSw);first|(go_simp;done)|(go_simp;with_reducible rfl))
   try simp only [Act.put, zB, zC, zD]
   refine zM (i := 9) (oi := Oper.mk _ _ _ _ _ _) rfl (by kernel_rfl) (by kernel_rfl) (by kernel_rfl) (by kernel_rfl) (by kernel_rfl) (fun _ _ _ h => h) (rg_load1 (by rfl) (fun _ hS => hS.2.2.2.cell HGI.out) 75 _ rfl rfl (fun _ => by simp [isAgg, run_underlying Tryd.underlying75])) hS ?_
   try simp only [Act.put, zB, zC, zD]
   refine' zM (i := 10) (oi := Oper.mk _ _ _ _ _ _) rfl (by kernel_rfl) (by kernel_rfl) (by kernel_rfl) (by kernel_rfl) (by kernel_rfl) (fun _ _ _ h => h) (Or.inl ⟨by rfl, ?hy33⟩) hS ?rest33
   case hy33 => (intro w hSw;(try dsimp only at hSw);first|(go_simp;done)|(go_simp;with_reducible rfl))
   try simp only [Act.put, zB, zC, zD]
   refine' zM (i := 11) (oi := Oper.mk _ _ _ _ _ _) rfl (by kernel_rfl) (by kernel_rfl) (by kernel_rfl) (by kernel_rfl) (by kernel_rfl) (fun _ _ _ h => h) (Or.inl ⟨by rfl, ?hy34⟩) hS ?rest34
   case hy34 => (intro w hSw;(try dsimp only at hSw);first|(go_simp;done)|(go_simp;with_reducible rfl))
   try simp only [Act.put, zB, zC, zD]
   refine wpAnyLast_done (by kernel_rfl) ?_ _
   refine Straight.normal ?_
   have c1s := (E.out _ PM.out.1).cell (i := 0) rfl
   have hs1 : (s.size : Int) ≤ 281474976702464 := by have := HS.out;omega
   have hx1 : 64 * ((x.val : Nat) : Int) < s.size := by have := HX.out;omega
   clear BM' BI' hS hq1 hq2 hq4 hq6
   by_cases hfull : (s.size : Int) - 64 * ((x.val : Nat) : Int) < 64
   ·gi_upto_region 13 with (fail)
    rw [OFP.out (by omega)]
    have q1 := Q1.out
    have q2 := Q2.out
    have q3 := Q3.out
    have hbd2 : Aside0 (Below W.drew.heap.size W.drew W.drew.drew) := ⟨below_drew (Below.refl _ _)⟩
    have hb := hbd2
    replace E := E.below hb.out
    replace R1 := zA (row_below R1.out hb.out)
    replace R2 := zA (row_below R2.out hb.out)
    replace B7 := B7.below hb.out
    replace RO := zA (row_below RO.out hb.out)
    replace HB := HB.step hb.out
    replace BX' := BX'.below hb.out
    replace KO' := zA (KO'.out.trans (keepsOthers_below hb.out))
    replace HZ' := zA (zz2 HZ'.out hb.out.size)
    clear hb c1s hbd2 hfull
    refine wpIn_region_last_drew HF (S := fun W' => Blk W' gb (blkA (cutF s (64 * ((x.val : Nat) : Int)) 32)) 85 ∧ Blk W' g5 (clsA sgx) 111 ∧ Blk W' g6 (clsA blx) 111) (ds := [15]) (by kernel_rfl) (by kernel_rfl) ⟨BX', E.out _ PM.out.2.2.2.1, E.out _ PM.out.2.2.2.2.1⟩ (fun hS => ?_)
    refine zM (i := 0) (oi := Oper.mk _ _ _ _ _ _) rfl (by kernel_rfl) (by kernel_rfl) (by kernel_rfl) (by kernel_rfl) (by kernel_rfl) (fun _ _ _ h => h) (rg_load (by rfl) (fun _ hS => hS.1) 85 _ rfl rfl Tryd.underlying85 rfl (size64' _)) hS ?_
    try simp only [Act.put, zB, zC, zD]
    refine zM (i := 1) (oi := Oper.mk _ _ _ _ _ _) rfl (by kernel_rfl) (by kernel_rfl) (by kernel_rfl) (by kernel_rfl) (by kernel_rfl) (fun _ _ _ h => h) (rg_load (by rfl) (fun _ hS => hS.2.1) 111 _ rfl rfl Tryd.underlying111 rfl (sizeC' _)) hS ?_
    try simp only [Act.put, zB, zC, zD]
    refine' zM (i := 3) (oi := Oper.mk _ _ _ _ _ _) rfl (by kernel_rfl) (by kernel_rfl) (by kernel_rfl) (by kernel_rfl) (by kernel_rfl) (fun _ _ _ h => h) (Or.inl ⟨by rfl, ?hy1⟩) hS ?rest1
    case hy1 => (intro w hSw;(try dsimp only at hSw);first|(go_simp;done)|(go_simp;with_reducible rfl))
    try simp only [Act.put, zB, zC, zD]
    refine zM (i := 5) (oi := Oper.mk _ _ _ _ _ _) rfl (by kernel_rfl) (by kernel_rfl) (by kernel_rfl) (by kernel_rfl) (by kernel_rfl) (fun _ _ _ h => h) (rg_load (by rfl) (fun _ hS => hS.1) 85 _ rfl rfl Tryd.underlying85 rfl (size64' _)) hS ?_
    try simp only [Act.put, zB, zC, zD]
    refine zM (i := 6) (oi := Oper.mk _ _ _ _ _ _) rfl (by kernel_rfl) (by kernel_rfl) (by kernel_rfl) (by kernel_rfl) (by kernel_rfl) (fun _ _ _ h => h) (rg_load (by rfl) (fun _ hS => hS.2.2) 111 _ rfl rfl Tryd.underlying111 rfl (sizeC' _)) hS ?_
    try simp only [Act.put, zB, zC, zD]
    refine' zM (i := 8) (oi := Oper.mk _ _ _ _ _ _) rfl (by kernel_rfl) (by kernel_rfl) (by kernel_rfl) (by kernel_rfl) (by kernel_rfl) (fun _ _ _ h => h) (Or.inl ⟨by rfl, ?hy2⟩) hS ?rest2
    case hy2 => (intro w hSw;(try dsimp only at hSw);first|(go_simp;done)|(go_simp;with_reducible rfl))
    try simp only [Act.put, zB, zC, zD]
    refine' zM (i := 10) (oi := Oper.mk _ _ _ _ _ _) rfl (by kernel_rfl) (by kernel_rfl) (by kernel_rfl) (by kernel_rfl) (by kernel_rfl) (fun _ _ _ h => h) (Or.inl ⟨by rfl, ?hy3⟩) hS ?rest3
    case hy3 => (intro w hSw;(try dsimp only at hSw);first|(go_simp;done)|(go_simp;with_reducible rfl))
    try simp only [Act.put, zB, zC, zD]
    refine' zM (i := 11) (oi := Oper.mk _ _ _ _ _ _) rfl (by kernel_rfl) (by kernel_rfl) (by kernel_rfl) (by kernel_rfl) (by kernel_rfl) (fun _ _ _ h => h) (Or.inl ⟨by rfl, ?hy4⟩) hS ?rest4
    case hy4 => (intro w hSw;(try dsimp only at hSw);first|(go_simp;done)|(go_simp;with_reducible rfl))
    try simp only [Act.put, zB, zC, zD]
    refine' zM (i := 12) (oi := Oper.mk _ _ _ _ _ _) rfl (by kernel_rfl) (by kernel_rfl) (by kernel_rfl) (by kernel_rfl) (by kernel_rfl) (fun _ _ _ h => h) (Or.inl ⟨by rfl, ?hy5⟩) hS ?rest5
    case hy5 => (intro w hSw;(try dsimp only at hSw);first|(go_simp;done)|(go_simp;with_reducible rfl))
    try simp only [Act.put, zB, zC, zD]
    refine wpAnyLast_ready (rs := [2, 14]) (by kernel_rfl) (by simp) ?_
    refine AllReadyL.cons (o := Oper.mk _ _ _ _ _ _) rfl (by decide) (fun K hK => ?_) ?_
    ·refine rg_call (by rfl) _ _ (.int .u64 SG) (by first|(go_simp;done)|(go_simp;rfl)) (MS1.out _) ?_
     intro W' hb
     replace E := E.below hb.out
     replace R1 := zA (row_below R1.out hb.out)
     replace R2 := zA (row_below R2.out hb.out)
     replace B7 := B7.below hb.out
     replace RO := zA (row_below RO.out hb.out)
     replace HB := HB.step hb.out
     replace BX' := BX'.below hb.out
     replace KO' := zA (KO'.out.trans (keepsOthers_below hb.out))
     replace HZ' := zA (zz2 HZ'.out hb.out.size)
     refine hK.out _ _ ⟨BX', E.out _ PM.out.2.2.2.1, E.out _ PM.out.2.2.2.2.1⟩ (fun hS => ?_)
     clear hK K hb
     try simp only [Act.put, zB, zC, zD]
     refine' zM (i := 4) (oi := Oper.mk _ _ _ _ _ _) rfl (by kernel_rfl) (by kernel_rfl) (by kernel_rfl) (by kernel_rfl) (by kernel_rfl) (fun _ _ _ h => h) (Or.inl ⟨by rfl, ?hy6⟩) hS ?rest6
     case hy6 => (intro w hSw;(try dsimp only at hSw);first|(go_simp;done)|(go_simp;with_reducible rfl))
     try simp only [Act.put, zB, zC, zD]
     refine wpAnyLast_ready (rs := [7, 14]) (by kernel_rfl) (by simp) ?_
     refine AllReadyL.cons (o := Oper.mk _ _ _ _ _ _) rfl (by decide) (fun K hK => ?_) ?_
     ·refine rg_call (by rfl) _ _ (.int .u64 BL) (by first|(go_simp;done)|(go_simp;rfl)) (MS2.out _) ?_
      intro W' hb
      replace E := E.below hb.out
      replace R1 := zA (row_below R1.out hb.out)
      replace R2 := zA (row_below R2.out hb.out)
      replace B7 := B7.below hb.out
      replace RO := zA (row_below RO.out hb.out)
      replace HB := HB.step hb.out
      replace BX' := BX'.below hb.out
      replace KO' := zA (KO'.out.trans (keepsOthers_below hb.out))
      replace HZ' := zA (zz2 HZ'.out hb.out.size)
      refine hK.out _ _ ⟨BX', E.out _ PM.out.2.2.2.1, E.out _ PM.out.2.2.2.2.1⟩ (fun hS => ?_)
      clear hK K hb
      try simp only [Act.put, zB, zC, zD]
      refine' zM (i := 9) (oi := Oper.mk _ _ _ _ _ _) rfl (by kernel_rfl) (by kernel_rfl) (by kernel_rfl) (by kernel_rfl) (by kernel_rfl) (fun _ _ _ h => h) (Or.inl ⟨by rfl, ?hy7⟩) hS ?rest7
      case hy7 => (intro w hSw;(try dsimp only at hSw);first|(go_simp;done)|(go_simp;with_reducible rfl))
      try simp only [Act.put, zB, zC, zD]
      refine' zM (i := 13) (oi := Oper.mk _ _ _ _ _ _) rfl (by kernel_rfl) (by kernel_rfl) (by kernel_rfl) (by kernel_rfl) (by kernel_rfl) (fun _ _ _ h => h) (Or.inl ⟨by rfl, ?hy8⟩) hS ?rest8
      case hy8 => (intro w hSw;(try dsimp only at hSw);first|(go_simp;done)|(go_simp;with_reducible rfl))
      try simp only [Act.put, zB, zC, zD]
      refine wpAnyLast_ready (rs := [14]) (by kernel_rfl) (by simp) ?_
      refine AllReadyL.cons (o := Oper.mk _ _ _ _ _ _) rfl (by decide) (fun K hK => ?_) ?_
      ·refine rg_alloc HB (by rfl) (#[.int .u64 0, .int .u64 0, .int .u64 0, .int .u64 0]) 77 (by first|(go_simp;done)|(go_simp;rfl)) ?_
       intro g15 W' G15 GE15 B15 HBn hb
       have N15 := zA (show w10.heap.size ≤ g15 ∧ gb < g15 ∧ W.heap.size ≤ g15 by have := HI.out.sz;have := HZ'.out;have := BX'.lt;have := G15.out;omega)
       clear HBn G15
       replace E := E.below hb.out
       replace R1 := zA (row_below R1.out hb.out)
       replace R2 := zA (row_below R2.out hb.out)
       replace B7 := B7.below hb.out
       replace RO := zA (row_below RO.out hb.out)
       replace HB := HB.step hb.out
       replace BX' := BX'.below hb.out
       replace KO' := zA (KO'.out.trans (keepsOthers_below hb.out))
       replace HZ' := zA (zz2 HZ'.out hb.out.size)
       refine hK.out _ _ ⟨BX', E.out _ PM.out.2.2.2.1, E.out _ PM.out.2.2.2.2.1⟩ (fun hS => ?_)
       clear hK K hb
       try simp only [Act.put, zB, zC, zD]
       refine wpAnyLast_ready (rs := [15]) (by kernel_rfl) (by simp) ?_
       refine AllReadyL.cons_last (o := Oper.mk _ _ _ _ _ _) rfl (by decide) (fun K hK => ?_) ?_
       ·refine rg_store HB (by rfl) B15 GE15 77 _ _ rfl rfl rfl (by kernel_rfl) rfl (by simp [Value.oneCell']) ?_
        intro w16 B16 HB16 K16
        replace E := E.other K16 (fun b m => by have := PL.out.1 b m;have := N15.out;omega)
        replace R1 := zA (row_other R1.out B15 (by decide) K16)
        replace R2 := zA (row_other R2.out B15 (by decide) K16)
        replace B7 := B7.other K16 (by have := L7;have := N15.out;omega)
        replace RO := zA (own_move RO.out (fun k ek => K16.out.2 k (by have := VB.out k ek;have := N15.out;omega)))
        replace HB := HB16
        replace BX' := BX'.other K16 (by have := N15.out;omega)
        replace KO' := zA (KO'.out.trans (keepsOthers_other B15 K16))
        replace HZ' := zA (zz2 HZ'.out K16.out.1)
        refine hK.out _ _ ?_
        clear hK K HB16 K16 B15
        try simp only [Act.put, zB, zC, zD]
        refine wpAnyLast_done (by kernel_rfl) ?_ _
        refine Straight.normal ?_
        have hq4' := Q4.out
        have hq5' := Q5.out
        have d0 := B16.cell (i := 0) rfl
        have d1 := B16.cell (i := 1) rfl
        gi_upto_region 15 with (first
         | ((with_reducible refine gate_In (Op.store 75 (.tmp 80) (.tmp 79)) rfl ?_);refine ev_store1In (i := 3) HB B16 GE15 rfl 75 _ _ rfl rfl (.int .u64 WW) rfl (by simp) (by kernel_rfl) rfl ?_;intro w17 B17 HB17 K17 KO17))
        clear d0 d1 hq4' hq5'
        replace E := E.other K17 (fun b m => by have := PL.out.1 b m;have := N15.out;omega)
        replace R1 := zA (row_other R1.out B16 (by decide) K17)
        replace R2 := zA (row_other R2.out B16 (by decide) K17)
        replace B7 := B7.other K17 (by have := L7;have := N15.out;omega)
        replace RO := zA (own_move RO.out (fun k ek => K17.out.2 k (by have := VB.out k ek;have := N15.out;omega)))
        replace HB := HB17
        have c7 := B7.cell (i := 0) rfl
        gi_wp2_with (first
         | ((with_reducible refine gate_dstIn (N := 82) rfl ?_);refine ev_loadSIn B17 rfl 77 _ rfl rfl Tryd.underlying77 rfl (by kernel_rfl) ?_)
         | ((with_reducible refine gate_dstIn (N := 83) rfl ?_);refine ev_litNIn HB rfl rfl #[.int .u64 SW, .int .u64 BW, .int .u64 PW, .int .u64 WW] 77 ?hr ?_;(case hr => first|(go_simp;done)|(go_simp;rfl));intro gl w18 G_gl B_gl HB18 K_gl KO18;have ho18 := row_below RO.out K_gl.out;have b718 := B7.below K_gl.out)
         | ((with_reducible refine gate_dstIn (N := 84) rfl ?_);refine ev_appendNIn HB18 rfl _ _ 73 77 (.agg #[.int .u64 0, .int .u64 0, .int .u64 0, .int .u64 0]) 4 32 rfl Tryd.underlying73 (by kernel_rfl) rfl (by decide) (by decide) v pre.length _ rfl ho18 gl [.int .u64 SW, .int .u64 BW, .int .u64 PW, .int .u64 WW] rfl B_gl rfl (by intro u hu;simp at hu;rcases hu with rfl|rfl|rfl|rfl <;> rfl) HL.out ?_;intro v8 w19 ho19 HB19 K19 KO19 FV;obtain ⟨g', cap', rfl⟩ := FV.out;have b719 := b718.appendedN (by decide) ho18 K19)
         | ((with_reducible refine gate_In (Op.store 73 (.tmp 7) (.tmp 84)) rfl ?_);refine ev_store1In (i := 0) HB19 b719 GE_g7 rfl 73 _ _ rfl rfl _ rfl (by simp) (by kernel_rfl) rfl ?_;intro w20 B20 HB20 K20 KO20))
        have E20 := ((E.below K_gl.out).appendedN PL.out.2.1 ho18 K19).other K20 PL.out.2.2
        have R120 := row_other (row_appended (row_below R1.out K_gl.out) (by decide) ho18 K19) b719 (by decide) K20
        have R220 := row_other (row_appended (row_below R2.out K_gl.out) (by decide) ho18 K19) b719 (by decide) K20
        have O20 := row_other ho19 b719 (by decide) K20
        have hszF : W.heap.size ≤ w20.heap.size := zz2 HZ'.out (zz2 K17.out.1 (zz2 K_gl.out.size (zz2 K19.out.1 K20.out.1)))
        refine ⟨(((((KO'.out.trans KO17.out).trans KO18.out).trans KO19.out).trans KO20.out)).from _, Keep2.of_blk (HI.out.bs.out _ PM.out.2.2.2.2.2.1) (HI.out.bs.out _ PM.out.2.2.2.2.2.2) (E20.out _ PM.out.2.2.2.2.2.1) (E20.out _ PM.out.2.2.2.2.2.2) hszF, E20, R120, R220, ⟨_, B20, ?_⟩, HB20, zz2 HI.out.sz hszF⟩
        rw [flatR_snoc, ROW.out, List.length_append]
        exact O20
       exact AllReadyL.nil
      exact AllReadyL.nil
     refine AllReadyL.cons (o := Oper.mk _ _ _ _ _ _) rfl (by decide) (fun K hK => ?_) ?_
     ·refine rg_alloc HB (by rfl) (#[.int .u64 0, .int .u64 0, .int .u64 0, .int .u64 0]) 77 (by first|(go_simp;done)|(go_simp;rfl)) ?_
      intro g15 W' G15 GE15 B15 HBn hb
      have N15 := zA (show w10.heap.size ≤ g15 ∧ gb < g15 ∧ W.heap.size ≤ g15 by have := HI.out.sz;have := HZ'.out;have := BX'.lt;have := G15.out;omega)
      clear HBn G15
      replace E := E.below hb.out
      replace R1 := zA (row_below R1.out hb.out)
      replace R2 := zA (row_below R2.out hb.out)
      replace B7 := B7.below hb.out
      replace RO := zA (row_below RO.out hb.out)
      replace HB := HB.step hb.out
      replace BX' := BX'.below hb.out
      replace KO' := zA (KO'.out.trans (keepsOthers_below hb.out))
      replace HZ' := zA (zz2 HZ'.out hb.out.size)
      refine hK.out _ _ ⟨BX', E.out _ PM.out.2.2.2.1, E.out _ PM.out.2.2.2.2.1⟩ (fun hS => ?_)
      clear hK K hb
      try simp only [Act.put, zB, zC, zD]
      refine wpAnyLast_ready (rs := [7]) (by kernel_rfl) (by simp) ?_
      refine AllReadyL.cons (o := Oper.mk _ _ _ _ _ _) rfl (by decide) (fun K hK => ?_) ?_
      ·refine rg_call (by rfl) _ _ (.int .u64 BL) (by first|(go_simp;done)|(go_simp;rfl)) (MS2.out _) ?_
       intro W' hb
       replace E := E.below hb.out
       replace R1 := zA (row_below R1.out hb.out)
       replace R2 := zA (row_below R2.out hb.out)
       replace B7 := B7.below hb.out
       replace RO := zA (row_below RO.out hb.out)
       replace HB := HB.step hb.out
       replace BX' := BX'.below hb.out
       replace KO' := zA (KO'.out.trans (keepsOthers_below hb.out))
       replace HZ' := zA (zz2 HZ'.out hb.out.size)
       replace B15 := B15.below hb.out
       refine hK.out _ _ ⟨BX', E.out _ PM.out.2.2.2.1, E.out _ PM.out.2.2.2.2.1⟩ (fun hS => ?_)
       clear hK K hb
       try simp only [Act.put, zB, zC, zD]
       refine' zM (i := 9) (oi := Oper.mk _ _ _ _ _ _) rfl (by kernel_rfl) (by kernel_rfl) (by kernel_rfl) (by kernel_rfl) (by kernel_rfl) (fun _ _ _ h => h) (Or.inl ⟨by rfl, ?hy9⟩) hS ?rest9
       case hy9 => (intro w hSw;(try dsimp only at hSw);first|(go_simp;done)|(go_simp;with_reducible rfl))
       try simp only [Act.put, zB, zC, zD]
       refine' zM (i := 13) (oi := Oper.mk _ _ _ _ _ _) rfl (by kernel_rfl) (by kernel_rfl) (by kernel_rfl) (by kernel_rfl) (by kernel_rfl) (fun _ _ _ h => h) (Or.inl ⟨by rfl, ?hy10⟩) hS ?rest10
       case hy10 => (intro w hSw;(try dsimp only at hSw);first|(go_simp;done)|(go_simp;with_reducible rfl))
       try simp only [Act.put, zB, zC, zD]
       refine wpAnyLast_ready (rs := [15]) (by kernel_rfl) (by simp) ?_
       refine AllReadyL.cons_last (o := Oper.mk _ _ _ _ _ _) rfl (by decide) (fun K hK => ?_) ?_
       ·refine rg_store HB (by rfl) B15 GE15 77 _ _ rfl rfl rfl (by kernel_rfl) rfl (by simp [Value.oneCell']) ?_
        intro w16 B16 HB16 K16
        replace E := E.other K16 (fun b m => by have := PL.out.1 b m;have := N15.out;omega)
        replace R1 := zA (row_other R1.out B15 (by decide) K16)
        replace R2 := zA (row_other R2.out B15 (by decide) K16)
        replace B7 := B7.other K16 (by have := L7;have := N15.out;omega)
        replace RO := zA (own_move RO.out (fun k ek => K16.out.2 k (by have := VB.out k ek;have := N15.out;omega)))
        replace HB := HB16
        replace BX' := BX'.other K16 (by have := N15.out;omega)
        replace KO' := zA (KO'.out.trans (keepsOthers_other B15 K16))
        replace HZ' := zA (zz2 HZ'.out K16.out.1)
        refine hK.out _ _ ?_
        clear hK K HB16 K16 B15
        try simp only [Act.put, zB, zC, zD]
        refine wpAnyLast_done (by kernel_rfl) ?_ _
        refine Straight.normal ?_
        have hq4' := Q4.out
        have hq5' := Q5.out
        have d0 := B16.cell (i := 0) rfl
        have d1 := B16.cell (i := 1) rfl
        gi_upto_region 15 with (first
         | ((with_reducible refine gate_In (Op.store 75 (.tmp 80) (.tmp 79)) rfl ?_);refine ev_store1In (i := 3) HB B16 GE15 rfl 75 _ _ rfl rfl (.int .u64 WW) rfl (by simp) (by kernel_rfl) rfl ?_;intro w17 B17 HB17 K17 KO17))
        clear d0 d1 hq4' hq5'
        replace E := E.other K17 (fun b m => by have := PL.out.1 b m;have := N15.out;omega)
        replace R1 := zA (row_other R1.out B16 (by decide) K17)
        replace R2 := zA (row_other R2.out B16 (by decide) K17)
        replace B7 := B7.other K17 (by have := L7;have := N15.out;omega)
        replace RO := zA (own_move RO.out (fun k ek => K17.out.2 k (by have := VB.out k ek;have := N15.out;omega)))
        replace HB := HB17
        have c7 := B7.cell (i := 0) rfl
        gi_wp2_with (first
         | ((with_reducible refine gate_dstIn (N := 82) rfl ?_);refine ev_loadSIn B17 rfl 77 _ rfl rfl Tryd.underlying77 rfl (by kernel_rfl) ?_)
         | ((with_reducible refine gate_dstIn (N := 83) rfl ?_);refine ev_litNIn HB rfl rfl #[.int .u64 SW, .int .u64 BW, .int .u64 PW, .int .u64 WW] 77 ?hr ?_;(case hr => first|(go_simp;done)|(go_simp;rfl));intro gl w18 G_gl B_gl HB18 K_gl KO18;have ho18 := row_below RO.out K_gl.out;have b718 := B7.below K_gl.out)
         | ((with_reducible refine gate_dstIn (N := 84) rfl ?_);refine ev_appendNIn HB18 rfl _ _ 73 77 (.agg #[.int .u64 0, .int .u64 0, .int .u64 0, .int .u64 0]) 4 32 rfl Tryd.underlying73 (by kernel_rfl) rfl (by decide) (by decide) v pre.length _ rfl ho18 gl [.int .u64 SW, .int .u64 BW, .int .u64 PW, .int .u64 WW] rfl B_gl rfl (by intro u hu;simp at hu;rcases hu with rfl|rfl|rfl|rfl <;> rfl) HL.out ?_;intro v8 w19 ho19 HB19 K19 KO19 FV;obtain ⟨g', cap', rfl⟩ := FV.out;have b719 := b718.appendedN (by decide) ho18 K19)
         | ((with_reducible refine gate_In (Op.store 73 (.tmp 7) (.tmp 84)) rfl ?_);refine ev_store1In (i := 0) HB19 b719 GE_g7 rfl 73 _ _ rfl rfl _ rfl (by simp) (by kernel_rfl) rfl ?_;intro w20 B20 HB20 K20 KO20))
        have E20 := ((E.below K_gl.out).appendedN PL.out.2.1 ho18 K19).other K20 PL.out.2.2
        have R120 := row_other (row_appended (row_below R1.out K_gl.out) (by decide) ho18 K19) b719 (by decide) K20
        have R220 := row_other (row_appended (row_below R2.out K_gl.out) (by decide) ho18 K19) b719 (by decide) K20
        have O20 := row_other ho19 b719 (by decide) K20
        have hszF : W.heap.size ≤ w20.heap.size := zz2 HZ'.out (zz2 K17.out.1 (zz2 K_gl.out.size (zz2 K19.out.1 K20.out.1)))
        refine ⟨(((((KO'.out.trans KO17.out).trans KO18.out).trans KO19.out).trans KO20.out)).from _, Keep2.of_blk (HI.out.bs.out _ PM.out.2.2.2.2.2.1) (HI.out.bs.out _ PM.out.2.2.2.2.2.2) (E20.out _ PM.out.2.2.2.2.2.1) (E20.out _ PM.out.2.2.2.2.2.2) hszF, E20, R120, R220, ⟨_, B20, ?_⟩, HB20, zz2 HI.out.sz hszF⟩
        rw [flatR_snoc, ROW.out, List.length_append]
        exact O20
       exact AllReadyL.nil
      exact AllReadyL.nil
     exact AllReadyL.nil
    refine AllReadyL.cons (o := Oper.mk _ _ _ _ _ _) rfl (by decide) (fun K hK => ?_) ?_
    ·refine rg_alloc HB (by rfl) (#[.int .u64 0, .int .u64 0, .int .u64 0, .int .u64 0]) 77 (by first|(go_simp;done)|(go_simp;rfl)) ?_
     intro g15 W' G15 GE15 B15 HBn hb
     have N15 := zA (show w10.heap.size ≤ g15 ∧ gb < g15 ∧ W.heap.size ≤ g15 by have := HI.out.sz;have := HZ'.out;have := BX'.lt;have := G15.out;omega)
     clear HBn G15
     replace E := E.below hb.out
     replace R1 := zA (row_below R1.out hb.out)
     replace R2 := zA (row_below R2.out hb.out)
     replace B7 := B7.below hb.out
     replace RO := zA (row_below RO.out hb.out)
     replace HB := HB.step hb.out
     replace BX' := BX'.below hb.out
     replace KO' := zA (KO'.out.trans (keepsOthers_below hb.out))
     replace HZ' := zA (zz2 HZ'.out hb.out.size)
     refine hK.out _ _ ⟨BX', E.out _ PM.out.2.2.2.1, E.out _ PM.out.2.2.2.2.1⟩ (fun hS => ?_)
     clear hK K hb
     try simp only [Act.put, zB, zC, zD]
     refine wpAnyLast_ready (rs := [2]) (by kernel_rfl) (by simp) ?_
     refine AllReadyL.cons (o := Oper.mk _ _ _ _ _ _) rfl (by decide) (fun K hK => ?_) ?_
     ·refine rg_call (by rfl) _ _ (.int .u64 SG) (by first|(go_simp;done)|(go_simp;rfl)) (MS1.out _) ?_
      intro W' hb
      replace E := E.below hb.out
      replace R1 := zA (row_below R1.out hb.out)
      replace R2 := zA (row_below R2.out hb.out)
      replace B7 := B7.below hb.out
      replace RO := zA (row_below RO.out hb.out)
      replace HB := HB.step hb.out
      replace BX' := BX'.below hb.out
      replace KO' := zA (KO'.out.trans (keepsOthers_below hb.out))
      replace HZ' := zA (zz2 HZ'.out hb.out.size)
      replace B15 := B15.below hb.out
      refine hK.out _ _ ⟨BX', E.out _ PM.out.2.2.2.1, E.out _ PM.out.2.2.2.2.1⟩ (fun hS => ?_)
      clear hK K hb
      try simp only [Act.put, zB, zC, zD]
      refine' zM (i := 4) (oi := Oper.mk _ _ _ _ _ _) rfl (by kernel_rfl) (by kernel_rfl) (by kernel_rfl) (by kernel_rfl) (by kernel_rfl) (fun _ _ _ h => h) (Or.inl ⟨by rfl, ?hy11⟩) hS ?rest11
      case hy11 => (intro w hSw;(try dsimp only at hSw);first|(go_simp;done)|(go_simp;with_reducible rfl))
      try simp only [Act.put, zB, zC, zD]
      refine wpAnyLast_ready (rs := [7]) (by kernel_rfl) (by simp) ?_
      refine AllReadyL.cons (o := Oper.mk _ _ _ _ _ _) rfl (by decide) (fun K hK => ?_) ?_
      ·refine rg_call (by rfl) _ _ (.int .u64 BL) (by first|(go_simp;done)|(go_simp;rfl)) (MS2.out _) ?_
       intro W' hb
       replace E := E.below hb.out
       replace R1 := zA (row_below R1.out hb.out)
       replace R2 := zA (row_below R2.out hb.out)
       replace B7 := B7.below hb.out
       replace RO := zA (row_below RO.out hb.out)
       replace HB := HB.step hb.out
       replace BX' := BX'.below hb.out
       replace KO' := zA (KO'.out.trans (keepsOthers_below hb.out))
       replace HZ' := zA (zz2 HZ'.out hb.out.size)
       replace B15 := B15.below hb.out
       refine hK.out _ _ ⟨BX', E.out _ PM.out.2.2.2.1, E.out _ PM.out.2.2.2.2.1⟩ (fun hS => ?_)
       clear hK K hb
       try simp only [Act.put, zB, zC, zD]
       refine' zM (i := 9) (oi := Oper.mk _ _ _ _ _ _) rfl (by kernel_rfl) (by kernel_rfl) (by kernel_rfl) (by kernel_rfl) (by kernel_rfl) (fun _ _ _ h => h) (Or.inl ⟨by rfl, ?hy12⟩) hS ?rest12
       case hy12 => (intro w hSw;(try dsimp only at hSw);first|(go_simp;done)|(go_simp;with_reducible rfl))
       try simp only [Act.put, zB, zC, zD]
       refine' zM (i := 13) (oi := Oper.mk _ _ _ _ _ _) rfl (by kernel_rfl) (by kernel_rfl) (by kernel_rfl) (by kernel_rfl) (by kernel_rfl) (fun _ _ _ h => h) (Or.inl ⟨by rfl, ?hy13⟩) hS ?rest13
       case hy13 => (intro w hSw;(try dsimp only at hSw);first|(go_simp;done)|(go_simp;with_reducible rfl))
       try simp only [Act.put, zB, zC, zD]
       refine wpAnyLast_ready (rs := [15]) (by kernel_rfl) (by simp) ?_
       refine AllReadyL.cons_last (o := Oper.mk _ _ _ _ _ _) rfl (by decide) (fun K hK => ?_) ?_
       ·refine rg_store HB (by rfl) B15 GE15 77 _ _ rfl rfl rfl (by kernel_rfl) rfl (by simp [Value.oneCell']) ?_
        intro w16 B16 HB16 K16
        replace E := E.other K16 (fun b m => by have := PL.out.1 b m;have := N15.out;omega)
        replace R1 := zA (row_other R1.out B15 (by decide) K16)
        replace R2 := zA (row_other R2.out B15 (by decide) K16)
        replace B7 := B7.other K16 (by have := L7;have := N15.out;omega)
        replace RO := zA (own_move RO.out (fun k ek => K16.out.2 k (by have := VB.out k ek;have := N15.out;omega)))
        replace HB := HB16
        replace BX' := BX'.other K16 (by have := N15.out;omega)
        replace KO' := zA (KO'.out.trans (keepsOthers_other B15 K16))
        replace HZ' := zA (zz2 HZ'.out K16.out.1)
        refine hK.out _ _ ?_
        clear hK K HB16 K16 B15
        try simp only [Act.put, zB, zC, zD]
        refine wpAnyLast_done (by kernel_rfl) ?_ _
        refine Straight.normal ?_
        have hq4' := Q4.out
        have hq5' := Q5.out
        have d0 := B16.cell (i := 0) rfl
        have d1 := B16.cell (i := 1) rfl
        gi_upto_region 15 with (first
         | ((with_reducible refine gate_In (Op.store 75 (.tmp 80) (.tmp 79)) rfl ?_);refine ev_store1In (i := 3) HB B16 GE15 rfl 75 _ _ rfl rfl (.int .u64 WW) rfl (by simp) (by kernel_rfl) rfl ?_;intro w17 B17 HB17 K17 KO17))
        clear d0 d1 hq4' hq5'
        replace E := E.other K17 (fun b m => by have := PL.out.1 b m;have := N15.out;omega)
        replace R1 := zA (row_other R1.out B16 (by decide) K17)
        replace R2 := zA (row_other R2.out B16 (by decide) K17)
        replace B7 := B7.other K17 (by have := L7;have := N15.out;omega)
        replace RO := zA (own_move RO.out (fun k ek => K17.out.2 k (by have := VB.out k ek;have := N15.out;omega)))
        replace HB := HB17
        have c7 := B7.cell (i := 0) rfl
        gi_wp2_with (first
         | ((with_reducible refine gate_dstIn (N := 82) rfl ?_);refine ev_loadSIn B17 rfl 77 _ rfl rfl Tryd.underlying77 rfl (by kernel_rfl) ?_)
         | ((with_reducible refine gate_dstIn (N := 83) rfl ?_);refine ev_litNIn HB rfl rfl #[.int .u64 SW, .int .u64 BW, .int .u64 PW, .int .u64 WW] 77 ?hr ?_;(case hr => first|(go_simp;done)|(go_simp;rfl));intro gl w18 G_gl B_gl HB18 K_gl KO18;have ho18 := row_below RO.out K_gl.out;have b718 := B7.below K_gl.out)
         | ((with_reducible refine gate_dstIn (N := 84) rfl ?_);refine ev_appendNIn HB18 rfl _ _ 73 77 (.agg #[.int .u64 0, .int .u64 0, .int .u64 0, .int .u64 0]) 4 32 rfl Tryd.underlying73 (by kernel_rfl) rfl (by decide) (by decide) v pre.length _ rfl ho18 gl [.int .u64 SW, .int .u64 BW, .int .u64 PW, .int .u64 WW] rfl B_gl rfl (by intro u hu;simp at hu;rcases hu with rfl|rfl|rfl|rfl <;> rfl) HL.out ?_;intro v8 w19 ho19 HB19 K19 KO19 FV;obtain ⟨g', cap', rfl⟩ := FV.out;have b719 := b718.appendedN (by decide) ho18 K19)
         | ((with_reducible refine gate_In (Op.store 73 (.tmp 7) (.tmp 84)) rfl ?_);refine ev_store1In (i := 0) HB19 b719 GE_g7 rfl 73 _ _ rfl rfl _ rfl (by simp) (by kernel_rfl) rfl ?_;intro w20 B20 HB20 K20 KO20))
        have E20 := ((E.below K_gl.out).appendedN PL.out.2.1 ho18 K19).other K20 PL.out.2.2
        have R120 := row_other (row_appended (row_below R1.out K_gl.out) (by decide) ho18 K19) b719 (by decide) K20
        have R220 := row_other (row_appended (row_below R2.out K_gl.out) (by decide) ho18 K19) b719 (by decide) K20
        have O20 := row_other ho19 b719 (by decide) K20
        have hszF : W.heap.size ≤ w20.heap.size := zz2 HZ'.out (zz2 K17.out.1 (zz2 K_gl.out.size (zz2 K19.out.1 K20.out.1)))
        refine ⟨(((((KO'.out.trans KO17.out).trans KO18.out).trans KO19.out).trans KO20.out)).from _, Keep2.of_blk (HI.out.bs.out _ PM.out.2.2.2.2.2.1) (HI.out.bs.out _ PM.out.2.2.2.2.2.2) (E20.out _ PM.out.2.2.2.2.2.1) (E20.out _ PM.out.2.2.2.2.2.2) hszF, E20, R120, R220, ⟨_, B20, ?_⟩, HB20, zz2 HI.out.sz hszF⟩
        rw [flatR_snoc, ROW.out, List.length_append]
        exact O20
       exact AllReadyL.nil
      exact AllReadyL.nil
     exact AllReadyL.nil
    exact AllReadyL.nil
   ·gi_upto_region 13 with (fail)
    rw [OFF.out (by omega)]
    have q1 := Q1.out
    have q2 := Q2.out
    have q3 := Q3.out
    have hbd2 : Aside0 (Below W.drew.heap.size W.drew W.drew.drew) := ⟨below_drew (Below.refl _ _)⟩
    have hb := hbd2
    replace E := E.below hb.out
    replace R1 := zA (row_below R1.out hb.out)
    replace R2 := zA (row_below R2.out hb.out)
    replace B7 := B7.below hb.out
    replace RO := zA (row_below RO.out hb.out)
    replace HB := HB.step hb.out
    replace BX' := BX'.below hb.out
    replace KO' := zA (KO'.out.trans (keepsOthers_below hb.out))
    replace HZ' := zA (zz2 HZ'.out hb.out.size)
    clear hb c1s hbd2 hfull
    refine wpIn_region_last_drew HF (S := fun W' => Blk W' gb (blkA (cutF s (64 * ((x.val : Nat) : Int)) 32)) 85 ∧ Blk W' g5 (clsA sgx) 111 ∧ Blk W' g6 (clsA blx) 111) (ds := [15]) (by kernel_rfl) (by kernel_rfl) ⟨BX', E.out _ PM.out.2.2.2.1, E.out _ PM.out.2.2.2.2.1⟩ (fun hS => ?_)
    refine zM (i := 0) (oi := Oper.mk _ _ _ _ _ _) rfl (by kernel_rfl) (by kernel_rfl) (by kernel_rfl) (by kernel_rfl) (by kernel_rfl) (fun _ _ _ h => h) (rg_load (by rfl) (fun _ hS => hS.1) 85 _ rfl rfl Tryd.underlying85 rfl (size64' _)) hS ?_
    try simp only [Act.put, zB, zC, zD]
    refine zM (i := 1) (oi := Oper.mk _ _ _ _ _ _) rfl (by kernel_rfl) (by kernel_rfl) (by kernel_rfl) (by kernel_rfl) (by kernel_rfl) (fun _ _ _ h => h) (rg_load (by rfl) (fun _ hS => hS.2.1) 111 _ rfl rfl Tryd.underlying111 rfl (sizeC' _)) hS ?_
    try simp only [Act.put, zB, zC, zD]
    refine' zM (i := 3) (oi := Oper.mk _ _ _ _ _ _) rfl (by kernel_rfl) (by kernel_rfl) (by kernel_rfl) (by kernel_rfl) (by kernel_rfl) (fun _ _ _ h => h) (Or.inl ⟨by rfl, ?hy14⟩) hS ?rest14
    case hy14 => (intro w hSw;(try dsimp only at hSw);first|(go_simp;done)|(go_simp;with_reducible rfl))
    try simp only [Act.put, zB, zC, zD]
    refine zM (i := 5) (oi := Oper.mk _ _ _ _ _ _) rfl (by kernel_rfl) (by kernel_rfl) (by kernel_rfl) (by kernel_rfl) (by kernel_rfl) (fun _ _ _ h => h) (rg_load (by rfl) (fun _ hS => hS.1) 85 _ rfl rfl Tryd.underlying85 rfl (size64' _)) hS ?_
    try simp only [Act.put, zB, zC, zD]
    refine zM (i := 6) (oi := Oper.mk _ _ _ _ _ _) rfl (by kernel_rfl) (by kernel_rfl) (by kernel_rfl) (by kernel_rfl) (by kernel_rfl) (fun _ _ _ h => h) (rg_load (by rfl) (fun _ hS => hS.2.2) 111 _ rfl rfl Tryd.underlying111 rfl (sizeC' _)) hS ?_
    try simp only [Act.put, zB, zC, zD]
    refine' zM (i := 8) (oi := Oper.mk _ _ _ _ _ _) rfl (by kernel_rfl) (by kernel_rfl) (by kernel_rfl) (by kernel_rfl) (by kernel_rfl) (fun _ _ _ h => h) (Or.inl ⟨by rfl, ?hy15⟩) hS ?rest15
    case hy15 => (intro w hSw;(try dsimp only at hSw);first|(go_simp;done)|(go_simp;with_reducible rfl))
    try simp only [Act.put, zB, zC, zD]
    refine' zM (i := 10) (oi := Oper.mk _ _ _ _ _ _) rfl (by kernel_rfl) (by kernel_rfl) (by kernel_rfl) (by kernel_rfl) (by kernel_rfl) (fun _ _ _ h => h) (Or.inl ⟨by rfl, ?hy16⟩) hS ?rest16
    case hy16 => (intro w hSw;(try dsimp only at hSw);first|(go_simp;done)|(go_simp;with_reducible rfl))
    try simp only [Act.put, zB, zC, zD]
    refine' zM (i := 11) (oi := Oper.mk _ _ _ _ _ _) rfl (by kernel_rfl) (by kernel_rfl) (by kernel_rfl) (by kernel_rfl) (by kernel_rfl) (fun _ _ _ h => h) (Or.inl ⟨by rfl, ?hy17⟩) hS ?rest17
    case hy17 => (intro w hSw;(try dsimp only at hSw);first|(go_simp;done)|(go_simp;with_reducible rfl))
    try simp only [Act.put, zB, zC, zD]
    refine' zM (i := 12) (oi := Oper.mk _ _ _ _ _ _) rfl (by kernel_rfl) (by kernel_rfl) (by kernel_rfl) (by kernel_rfl) (by kernel_rfl) (fun _ _ _ h => h) (Or.inl ⟨by rfl, ?hy18⟩) hS ?rest18
    case hy18 => (intro w hSw;(try dsimp only at hSw);first|(go_simp;done)|(go_simp;with_reducible rfl))
    try simp only [Act.put, zB, zC, zD]
    refine wpAnyLast_ready (rs := [2, 14]) (by kernel_rfl) (by simp) ?_
    refine AllReadyL.cons (o := Oper.mk _ _ _ _ _ _) rfl (by decide) (fun K hK => ?_) ?_
    ·refine rg_call (by rfl) _ _ (.int .u64 SG) (by first|(go_simp;done)|(go_simp;rfl)) (MS1.out _) ?_
     intro W' hb
     replace E := E.below hb.out
     replace R1 := zA (row_below R1.out hb.out)
     replace R2 := zA (row_below R2.out hb.out)
     replace B7 := B7.below hb.out
     replace RO := zA (row_below RO.out hb.out)
     replace HB := HB.step hb.out
     replace BX' := BX'.below hb.out
     replace KO' := zA (KO'.out.trans (keepsOthers_below hb.out))
     replace HZ' := zA (zz2 HZ'.out hb.out.size)
     refine hK.out _ _ ⟨BX', E.out _ PM.out.2.2.2.1, E.out _ PM.out.2.2.2.2.1⟩ (fun hS => ?_)
     clear hK K hb
     try simp only [Act.put, zB, zC, zD]
     refine' zM (i := 4) (oi := Oper.mk _ _ _ _ _ _) rfl (by kernel_rfl) (by kernel_rfl) (by kernel_rfl) (by kernel_rfl) (by kernel_rfl) (fun _ _ _ h => h) (Or.inl ⟨by rfl, ?hy19⟩) hS ?rest19
     case hy19 => (intro w hSw;(try dsimp only at hSw);first|(go_simp;done)|(go_simp;with_reducible rfl))
     try simp only [Act.put, zB, zC, zD]
     refine wpAnyLast_ready (rs := [7, 14]) (by kernel_rfl) (by simp) ?_
     refine AllReadyL.cons (o := Oper.mk _ _ _ _ _ _) rfl (by decide) (fun K hK => ?_) ?_
     ·refine rg_call (by rfl) _ _ (.int .u64 BL) (by first|(go_simp;done)|(go_simp;rfl)) (MS2.out _) ?_
      intro W' hb
      replace E := E.below hb.out
      replace R1 := zA (row_below R1.out hb.out)
      replace R2 := zA (row_below R2.out hb.out)
      replace B7 := B7.below hb.out
      replace RO := zA (row_below RO.out hb.out)
      replace HB := HB.step hb.out
      replace BX' := BX'.below hb.out
      replace KO' := zA (KO'.out.trans (keepsOthers_below hb.out))
      replace HZ' := zA (zz2 HZ'.out hb.out.size)
      refine hK.out _ _ ⟨BX', E.out _ PM.out.2.2.2.1, E.out _ PM.out.2.2.2.2.1⟩ (fun hS => ?_)
      clear hK K hb
      try simp only [Act.put, zB, zC, zD]
      refine' zM (i := 9) (oi := Oper.mk _ _ _ _ _ _) rfl (by kernel_rfl) (by kernel_rfl) (by kernel_rfl) (by kernel_rfl) (by kernel_rfl) (fun _ _ _ h => h) (Or.inl ⟨by rfl, ?hy20⟩) hS ?rest20
      case hy20 => (intro w hSw;(try dsimp only at hSw);first|(go_simp;done)|(go_simp;with_reducible rfl))
      try simp only [Act.put, zB, zC, zD]
      refine' zM (i := 13) (oi := Oper.mk _ _ _ _ _ _) rfl (by kernel_rfl) (by kernel_rfl) (by kernel_rfl) (by kernel_rfl) (by kernel_rfl) (fun _ _ _ h => h) (Or.inl ⟨by rfl, ?hy21⟩) hS ?rest21
      case hy21 => (intro w hSw;(try dsimp only at hSw);first|(go_simp;done)|(go_simp;with_reducible rfl))
      try simp only [Act.put, zB, zC, zD]
      refine wpAnyLast_ready (rs := [14]) (by kernel_rfl) (by simp) ?_
      refine AllReadyL.cons (o := Oper.mk _ _ _ _ _ _) rfl (by decide) (fun K hK => ?_) ?_
      ·refine rg_alloc HB (by rfl) (#[.int .u64 0, .int .u64 0, .int .u64 0, .int .u64 0]) 77 (by first|(go_simp;done)|(go_simp;rfl)) ?_
       intro g15 W' G15 GE15 B15 HBn hb
       have N15 := zA (show w10.heap.size ≤ g15 ∧ gb < g15 ∧ W.heap.size ≤ g15 by have := HI.out.sz;have := HZ'.out;have := BX'.lt;have := G15.out;omega)
       clear HBn G15
       replace E := E.below hb.out
       replace R1 := zA (row_below R1.out hb.out)
       replace R2 := zA (row_below R2.out hb.out)
       replace B7 := B7.below hb.out
       replace RO := zA (row_below RO.out hb.out)
       replace HB := HB.step hb.out
       replace BX' := BX'.below hb.out
       replace KO' := zA (KO'.out.trans (keepsOthers_below hb.out))
       replace HZ' := zA (zz2 HZ'.out hb.out.size)
       refine hK.out _ _ ⟨BX', E.out _ PM.out.2.2.2.1, E.out _ PM.out.2.2.2.2.1⟩ (fun hS => ?_)
       clear hK K hb
       try simp only [Act.put, zB, zC, zD]
       refine wpAnyLast_ready (rs := [15]) (by kernel_rfl) (by simp) ?_
       refine AllReadyL.cons_last (o := Oper.mk _ _ _ _ _ _) rfl (by decide) (fun K hK => ?_) ?_
       ·refine rg_store HB (by rfl) B15 GE15 77 _ _ rfl rfl rfl (by kernel_rfl) rfl (by simp [Value.oneCell']) ?_
        intro w16 B16 HB16 K16
        replace E := E.other K16 (fun b m => by have := PL.out.1 b m;have := N15.out;omega)
        replace R1 := zA (row_other R1.out B15 (by decide) K16)
        replace R2 := zA (row_other R2.out B15 (by decide) K16)
        replace B7 := B7.other K16 (by have := L7;have := N15.out;omega)
        replace RO := zA (own_move RO.out (fun k ek => K16.out.2 k (by have := VB.out k ek;have := N15.out;omega)))
        replace HB := HB16
        replace BX' := BX'.other K16 (by have := N15.out;omega)
        replace KO' := zA (KO'.out.trans (keepsOthers_other B15 K16))
        replace HZ' := zA (zz2 HZ'.out K16.out.1)
        refine hK.out _ _ ?_
        clear hK K HB16 K16 B15
        try simp only [Act.put, zB, zC, zD]
        refine wpAnyLast_done (by kernel_rfl) ?_ _
        refine Straight.normal ?_
        have hq4' := Q4.out
        have hq5' := Q5.out
        have d0 := B16.cell (i := 0) rfl
        have d1 := B16.cell (i := 1) rfl
        gi_upto_region 15 with (first
         | ((with_reducible refine gate_In (Op.store 75 (.tmp 80) (.tmp 79)) rfl ?_);refine ev_store1In (i := 3) HB B16 GE15 rfl 75 _ _ rfl rfl (.int .u64 WW) rfl (by simp) (by kernel_rfl) rfl ?_;intro w17 B17 HB17 K17 KO17))
        clear d0 d1 hq4' hq5'
        replace E := E.other K17 (fun b m => by have := PL.out.1 b m;have := N15.out;omega)
        replace R1 := zA (row_other R1.out B16 (by decide) K17)
        replace R2 := zA (row_other R2.out B16 (by decide) K17)
        replace B7 := B7.other K17 (by have := L7;have := N15.out;omega)
        replace RO := zA (own_move RO.out (fun k ek => K17.out.2 k (by have := VB.out k ek;have := N15.out;omega)))
        replace HB := HB17
        have c7 := B7.cell (i := 0) rfl
        gi_wp2_with (first
         | ((with_reducible refine gate_dstIn (N := 82) rfl ?_);refine ev_loadSIn B17 rfl 77 _ rfl rfl Tryd.underlying77 rfl (by kernel_rfl) ?_)
         | ((with_reducible refine gate_dstIn (N := 83) rfl ?_);refine ev_litNIn HB rfl rfl #[.int .u64 SW, .int .u64 BW, .int .u64 PW, .int .u64 WW] 77 ?hr ?_;(case hr => first|(go_simp;done)|(go_simp;rfl));intro gl w18 G_gl B_gl HB18 K_gl KO18;have ho18 := row_below RO.out K_gl.out;have b718 := B7.below K_gl.out)
         | ((with_reducible refine gate_dstIn (N := 84) rfl ?_);refine ev_appendNIn HB18 rfl _ _ 73 77 (.agg #[.int .u64 0, .int .u64 0, .int .u64 0, .int .u64 0]) 4 32 rfl Tryd.underlying73 (by kernel_rfl) rfl (by decide) (by decide) v pre.length _ rfl ho18 gl [.int .u64 SW, .int .u64 BW, .int .u64 PW, .int .u64 WW] rfl B_gl rfl (by intro u hu;simp at hu;rcases hu with rfl|rfl|rfl|rfl <;> rfl) HL.out ?_;intro v8 w19 ho19 HB19 K19 KO19 FV;obtain ⟨g', cap', rfl⟩ := FV.out;have b719 := b718.appendedN (by decide) ho18 K19)
         | ((with_reducible refine gate_In (Op.store 73 (.tmp 7) (.tmp 84)) rfl ?_);refine ev_store1In (i := 0) HB19 b719 GE_g7 rfl 73 _ _ rfl rfl _ rfl (by simp) (by kernel_rfl) rfl ?_;intro w20 B20 HB20 K20 KO20))
        have E20 := ((E.below K_gl.out).appendedN PL.out.2.1 ho18 K19).other K20 PL.out.2.2
        have R120 := row_other (row_appended (row_below R1.out K_gl.out) (by decide) ho18 K19) b719 (by decide) K20
        have R220 := row_other (row_appended (row_below R2.out K_gl.out) (by decide) ho18 K19) b719 (by decide) K20
        have O20 := row_other ho19 b719 (by decide) K20
        have hszF : W.heap.size ≤ w20.heap.size := zz2 HZ'.out (zz2 K17.out.1 (zz2 K_gl.out.size (zz2 K19.out.1 K20.out.1)))
        refine ⟨(((((KO'.out.trans KO17.out).trans KO18.out).trans KO19.out).trans KO20.out)).from _, Keep2.of_blk (HI.out.bs.out _ PM.out.2.2.2.2.2.1) (HI.out.bs.out _ PM.out.2.2.2.2.2.2) (E20.out _ PM.out.2.2.2.2.2.1) (E20.out _ PM.out.2.2.2.2.2.2) hszF, E20, R120, R220, ⟨_, B20, ?_⟩, HB20, zz2 HI.out.sz hszF⟩
        rw [flatR_snoc, ROW.out, List.length_append]
        exact O20
       exact AllReadyL.nil
      exact AllReadyL.nil
     refine AllReadyL.cons (o := Oper.mk _ _ _ _ _ _) rfl (by decide) (fun K hK => ?_) ?_
     ·refine rg_alloc HB (by rfl) (#[.int .u64 0, .int .u64 0, .int .u64 0, .int .u64 0]) 77 (by first|(go_simp;done)|(go_simp;rfl)) ?_
      intro g15 W' G15 GE15 B15 HBn hb
      have N15 := zA (show w10.heap.size ≤ g15 ∧ gb < g15 ∧ W.heap.size ≤ g15 by have := HI.out.sz;have := HZ'.out;have := BX'.lt;have := G15.out;omega)
      clear HBn G15
      replace E := E.below hb.out
      replace R1 := zA (row_below R1.out hb.out)
      replace R2 := zA (row_below R2.out hb.out)
      replace B7 := B7.below hb.out
      replace RO := zA (row_below RO.out hb.out)
      replace HB := HB.step hb.out
      replace BX' := BX'.below hb.out
      replace KO' := zA (KO'.out.trans (keepsOthers_below hb.out))
      replace HZ' := zA (zz2 HZ'.out hb.out.size)
      refine hK.out _ _ ⟨BX', E.out _ PM.out.2.2.2.1, E.out _ PM.out.2.2.2.2.1⟩ (fun hS => ?_)
      clear hK K hb
      try simp only [Act.put, zB, zC, zD]
      refine wpAnyLast_ready (rs := [7]) (by kernel_rfl) (by simp) ?_
      refine AllReadyL.cons (o := Oper.mk _ _ _ _ _ _) rfl (by decide) (fun K hK => ?_) ?_
      ·refine rg_call (by rfl) _ _ (.int .u64 BL) (by first|(go_simp;done)|(go_simp;rfl)) (MS2.out _) ?_
       intro W' hb
       replace E := E.below hb.out
       replace R1 := zA (row_below R1.out hb.out)
       replace R2 := zA (row_below R2.out hb.out)
       replace B7 := B7.below hb.out
       replace RO := zA (row_below RO.out hb.out)
       replace HB := HB.step hb.out
       replace BX' := BX'.below hb.out
       replace KO' := zA (KO'.out.trans (keepsOthers_below hb.out))
       replace HZ' := zA (zz2 HZ'.out hb.out.size)
       replace B15 := B15.below hb.out
       refine hK.out _ _ ⟨BX', E.out _ PM.out.2.2.2.1, E.out _ PM.out.2.2.2.2.1⟩ (fun hS => ?_)
       clear hK K hb
       try simp only [Act.put, zB, zC, zD]
       refine' zM (i := 9) (oi := Oper.mk _ _ _ _ _ _) rfl (by kernel_rfl) (by kernel_rfl) (by kernel_rfl) (by kernel_rfl) (by kernel_rfl) (fun _ _ _ h => h) (Or.inl ⟨by rfl, ?hy22⟩) hS ?rest22
       case hy22 => (intro w hSw;(try dsimp only at hSw);first|(go_simp;done)|(go_simp;with_reducible rfl))
       try simp only [Act.put, zB, zC, zD]
       refine' zM (i := 13) (oi := Oper.mk _ _ _ _ _ _) rfl (by kernel_rfl) (by kernel_rfl) (by kernel_rfl) (by kernel_rfl) (by kernel_rfl) (fun _ _ _ h => h) (Or.inl ⟨by rfl, ?hy23⟩) hS ?rest23
       case hy23 => (intro w hSw;(try dsimp only at hSw);first|(go_simp;done)|(go_simp;with_reducible rfl))
       try simp only [Act.put, zB, zC, zD]
       refine wpAnyLast_ready (rs := [15]) (by kernel_rfl) (by simp) ?_
       refine AllReadyL.cons_last (o := Oper.mk _ _ _ _ _ _) rfl (by decide) (fun K hK => ?_) ?_
       ·refine rg_store HB (by rfl) B15 GE15 77 _ _ rfl rfl rfl (by kernel_rfl) rfl (by simp [Value.oneCell']) ?_
        intro w16 B16 HB16 K16
        replace E := E.other K16 (fun b m => by have := PL.out.1 b m;have := N15.out;omega)
        replace R1 := zA (row_other R1.out B15 (by decide) K16)
        replace R2 := zA (row_other R2.out B15 (by decide) K16)
        replace B7 := B7.other K16 (by have := L7;have := N15.out;omega)
        replace RO := zA (own_move RO.out (fun k ek => K16.out.2 k (by have := VB.out k ek;have := N15.out;omega)))
        replace HB := HB16
        replace BX' := BX'.other K16 (by have := N15.out;omega)
        replace KO' := zA (KO'.out.trans (keepsOthers_other B15 K16))
        replace HZ' := zA (zz2 HZ'.out K16.out.1)
        refine hK.out _ _ ?_
        clear hK K HB16 K16 B15
        try simp only [Act.put, zB, zC, zD]
        refine wpAnyLast_done (by kernel_rfl) ?_ _
        refine Straight.normal ?_
        have hq4' := Q4.out
        have hq5' := Q5.out
        have d0 := B16.cell (i := 0) rfl
        have d1 := B16.cell (i := 1) rfl
        gi_upto_region 15 with (first
         | ((with_reducible refine gate_In (Op.store 75 (.tmp 80) (.tmp 79)) rfl ?_);refine ev_store1In (i := 3) HB B16 GE15 rfl 75 _ _ rfl rfl (.int .u64 WW) rfl (by simp) (by kernel_rfl) rfl ?_;intro w17 B17 HB17 K17 KO17))
        clear d0 d1 hq4' hq5'
        replace E := E.other K17 (fun b m => by have := PL.out.1 b m;have := N15.out;omega)
        replace R1 := zA (row_other R1.out B16 (by decide) K17)
        replace R2 := zA (row_other R2.out B16 (by decide) K17)
        replace B7 := B7.other K17 (by have := L7;have := N15.out;omega)
        replace RO := zA (own_move RO.out (fun k ek => K17.out.2 k (by have := VB.out k ek;have := N15.out;omega)))
        replace HB := HB17
        have c7 := B7.cell (i := 0) rfl
        gi_wp2_with (first
         | ((with_reducible refine gate_dstIn (N := 82) rfl ?_);refine ev_loadSIn B17 rfl 77 _ rfl rfl Tryd.underlying77 rfl (by kernel_rfl) ?_)
         | ((with_reducible refine gate_dstIn (N := 83) rfl ?_);refine ev_litNIn HB rfl rfl #[.int .u64 SW, .int .u64 BW, .int .u64 PW, .int .u64 WW] 77 ?hr ?_;(case hr => first|(go_simp;done)|(go_simp;rfl));intro gl w18 G_gl B_gl HB18 K_gl KO18;have ho18 := row_below RO.out K_gl.out;have b718 := B7.below K_gl.out)
         | ((with_reducible refine gate_dstIn (N := 84) rfl ?_);refine ev_appendNIn HB18 rfl _ _ 73 77 (.agg #[.int .u64 0, .int .u64 0, .int .u64 0, .int .u64 0]) 4 32 rfl Tryd.underlying73 (by kernel_rfl) rfl (by decide) (by decide) v pre.length _ rfl ho18 gl [.int .u64 SW, .int .u64 BW, .int .u64 PW, .int .u64 WW] rfl B_gl rfl (by intro u hu;simp at hu;rcases hu with rfl|rfl|rfl|rfl <;> rfl) HL.out ?_;intro v8 w19 ho19 HB19 K19 KO19 FV;obtain ⟨g', cap', rfl⟩ := FV.out;have b719 := b718.appendedN (by decide) ho18 K19)
         | ((with_reducible refine gate_In (Op.store 73 (.tmp 7) (.tmp 84)) rfl ?_);refine ev_store1In (i := 0) HB19 b719 GE_g7 rfl 73 _ _ rfl rfl _ rfl (by simp) (by kernel_rfl) rfl ?_;intro w20 B20 HB20 K20 KO20))
        have E20 := ((E.below K_gl.out).appendedN PL.out.2.1 ho18 K19).other K20 PL.out.2.2
        have R120 := row_other (row_appended (row_below R1.out K_gl.out) (by decide) ho18 K19) b719 (by decide) K20
        have R220 := row_other (row_appended (row_below R2.out K_gl.out) (by decide) ho18 K19) b719 (by decide) K20
        have O20 := row_other ho19 b719 (by decide) K20
        have hszF : W.heap.size ≤ w20.heap.size := zz2 HZ'.out (zz2 K17.out.1 (zz2 K_gl.out.size (zz2 K19.out.1 K20.out.1)))
        refine ⟨(((((KO'.out.trans KO17.out).trans KO18.out).trans KO19.out).trans KO20.out)).from _, Keep2.of_blk (HI.out.bs.out _ PM.out.2.2.2.2.2.1) (HI.out.bs.out _ PM.out.2.2.2.2.2.2) (E20.out _ PM.out.2.2.2.2.2.1) (E20.out _ PM.out.2.2.2.2.2.2) hszF, E20, R120, R220, ⟨_, B20, ?_⟩, HB20, zz2 HI.out.sz hszF⟩
        rw [flatR_snoc, ROW.out, List.length_append]
        exact O20
       exact AllReadyL.nil
      exact AllReadyL.nil
     exact AllReadyL.nil
    refine AllReadyL.cons (o := Oper.mk _ _ _ _ _ _) rfl (by decide) (fun K hK => ?_) ?_
    ·refine rg_alloc HB (by rfl) (#[.int .u64 0, .int .u64 0, .int .u64 0, .int .u64 0]) 77 (by first|(go_simp;done)|(go_simp;rfl)) ?_
     intro g15 W' G15 GE15 B15 HBn hb
     have N15 := zA (show w10.heap.size ≤ g15 ∧ gb < g15 ∧ W.heap.size ≤ g15 by have := HI.out.sz;have := HZ'.out;have := BX'.lt;have := G15.out;omega)
     clear HBn G15
     replace E := E.below hb.out
     replace R1 := zA (row_below R1.out hb.out)
     replace R2 := zA (row_below R2.out hb.out)
     replace B7 := B7.below hb.out
     replace RO := zA (row_below RO.out hb.out)
     replace HB := HB.step hb.out
     replace BX' := BX'.below hb.out
     replace KO' := zA (KO'.out.trans (keepsOthers_below hb.out))
     replace HZ' := zA (zz2 HZ'.out hb.out.size)
     refine hK.out _ _ ⟨BX', E.out _ PM.out.2.2.2.1, E.out _ PM.out.2.2.2.2.1⟩ (fun hS => ?_)
     clear hK K hb
     try simp only [Act.put, zB, zC, zD]
     refine wpAnyLast_ready (rs := [2]) (by kernel_rfl) (by simp) ?_
     refine AllReadyL.cons (o := Oper.mk _ _ _ _ _ _) rfl (by decide) (fun K hK => ?_) ?_
     ·refine rg_call (by rfl) _ _ (.int .u64 SG) (by first|(go_simp;done)|(go_simp;rfl)) (MS1.out _) ?_
      intro W' hb
      replace E := E.below hb.out
      replace R1 := zA (row_below R1.out hb.out)
      replace R2 := zA (row_below R2.out hb.out)
      replace B7 := B7.below hb.out
      replace RO := zA (row_below RO.out hb.out)
      replace HB := HB.step hb.out
      replace BX' := BX'.below hb.out
      replace KO' := zA (KO'.out.trans (keepsOthers_below hb.out))
      replace HZ' := zA (zz2 HZ'.out hb.out.size)
      replace B15 := B15.below hb.out
      refine hK.out _ _ ⟨BX', E.out _ PM.out.2.2.2.1, E.out _ PM.out.2.2.2.2.1⟩ (fun hS => ?_)
      clear hK K hb
      try simp only [Act.put, zB, zC, zD]
      refine' zM (i := 4) (oi := Oper.mk _ _ _ _ _ _) rfl (by kernel_rfl) (by kernel_rfl) (by kernel_rfl) (by kernel_rfl) (by kernel_rfl) (fun _ _ _ h => h) (Or.inl ⟨by rfl, ?hy24⟩) hS ?rest24
      case hy24 => (intro w hSw;(try dsimp only at hSw);first|(go_simp;done)|(go_simp;with_reducible rfl))
      try simp only [Act.put, zB, zC, zD]
      refine wpAnyLast_ready (rs := [7]) (by kernel_rfl) (by simp) ?_
      refine AllReadyL.cons (o := Oper.mk _ _ _ _ _ _) rfl (by decide) (fun K hK => ?_) ?_
      ·refine rg_call (by rfl) _ _ (.int .u64 BL) (by first|(go_simp;done)|(go_simp;rfl)) (MS2.out _) ?_
       intro W' hb
       replace E := E.below hb.out
       replace R1 := zA (row_below R1.out hb.out)
       replace R2 := zA (row_below R2.out hb.out)
       replace B7 := B7.below hb.out
       replace RO := zA (row_below RO.out hb.out)
       replace HB := HB.step hb.out
       replace BX' := BX'.below hb.out
       replace KO' := zA (KO'.out.trans (keepsOthers_below hb.out))
       replace HZ' := zA (zz2 HZ'.out hb.out.size)
       replace B15 := B15.below hb.out
       refine hK.out _ _ ⟨BX', E.out _ PM.out.2.2.2.1, E.out _ PM.out.2.2.2.2.1⟩ (fun hS => ?_)
       clear hK K hb
       try simp only [Act.put, zB, zC, zD]
       refine' zM (i := 9) (oi := Oper.mk _ _ _ _ _ _) rfl (by kernel_rfl) (by kernel_rfl) (by kernel_rfl) (by kernel_rfl) (by kernel_rfl) (fun _ _ _ h => h) (Or.inl ⟨by rfl, ?hy25⟩) hS ?rest25
       case hy25 => (intro w hSw;(try dsimp only at hSw);first|(go_simp;done)|(go_simp;with_reducible rfl))
       try simp only [Act.put, zB, zC, zD]
       refine' zM (i := 13) (oi := Oper.mk _ _ _ _ _ _) rfl (by kernel_rfl) (by kernel_rfl) (by kernel_rfl) (by kernel_rfl) (by kernel_rfl) (fun _ _ _ h => h) (Or.inl ⟨by rfl, ?hy26⟩) hS ?rest26
       case hy26 => (intro w hSw;(try dsimp only at hSw);first|(go_simp;done)|(go_simp;with_reducible rfl))
       try simp only [Act.put, zB, zC, zD]
       refine wpAnyLast_ready (rs := [15]) (by kernel_rfl) (by simp) ?_
       refine AllReadyL.cons_last (o := Oper.mk _ _ _ _ _ _) rfl (by decide) (fun K hK => ?_) ?_
       ·refine rg_store HB (by rfl) B15 GE15 77 _ _ rfl rfl rfl (by kernel_rfl) rfl (by simp [Value.oneCell']) ?_
        intro w16 B16 HB16 K16
        replace E := E.other K16 (fun b m => by have := PL.out.1 b m;have := N15.out;omega)
        replace R1 := zA (row_other R1.out B15 (by decide) K16)
        replace R2 := zA (row_other R2.out B15 (by decide) K16)
        replace B7 := B7.other K16 (by have := L7;have := N15.out;omega)
        replace RO := zA (own_move RO.out (fun k ek => K16.out.2 k (by have := VB.out k ek;have := N15.out;omega)))
        replace HB := HB16
        replace BX' := BX'.other K16 (by have := N15.out;omega)
        replace KO' := zA (KO'.out.trans (keepsOthers_other B15 K16))
        replace HZ' := zA (zz2 HZ'.out K16.out.1)
        refine hK.out _ _ ?_
        clear hK K HB16 K16 B15
        try simp only [Act.put, zB, zC, zD]
        refine wpAnyLast_done (by kernel_rfl) ?_ _
        refine Straight.normal ?_
        have hq4' := Q4.out
        have hq5' := Q5.out
        have d0 := B16.cell (i := 0) rfl
        have d1 := B16.cell (i := 1) rfl
        gi_upto_region 15 with (first
         | ((with_reducible refine gate_In (Op.store 75 (.tmp 80) (.tmp 79)) rfl ?_);refine ev_store1In (i := 3) HB B16 GE15 rfl 75 _ _ rfl rfl (.int .u64 WW) rfl (by simp) (by kernel_rfl) rfl ?_;intro w17 B17 HB17 K17 KO17))
        clear d0 d1 hq4' hq5'
        replace E := E.other K17 (fun b m => by have := PL.out.1 b m;have := N15.out;omega)
        replace R1 := zA (row_other R1.out B16 (by decide) K17)
        replace R2 := zA (row_other R2.out B16 (by decide) K17)
        replace B7 := B7.other K17 (by have := L7;have := N15.out;omega)
        replace RO := zA (own_move RO.out (fun k ek => K17.out.2 k (by have := VB.out k ek;have := N15.out;omega)))
        replace HB := HB17
        have c7 := B7.cell (i := 0) rfl
        gi_wp2_with (first
         | ((with_reducible refine gate_dstIn (N := 82) rfl ?_);refine ev_loadSIn B17 rfl 77 _ rfl rfl Tryd.underlying77 rfl (by kernel_rfl) ?_)
         | ((with_reducible refine gate_dstIn (N := 83) rfl ?_);refine ev_litNIn HB rfl rfl #[.int .u64 SW, .int .u64 BW, .int .u64 PW, .int .u64 WW] 77 ?hr ?_;(case hr => first|(go_simp;done)|(go_simp;rfl));intro gl w18 G_gl B_gl HB18 K_gl KO18;have ho18 := row_below RO.out K_gl.out;have b718 := B7.below K_gl.out)
         | ((with_reducible refine gate_dstIn (N := 84) rfl ?_);refine ev_appendNIn HB18 rfl _ _ 73 77 (.agg #[.int .u64 0, .int .u64 0, .int .u64 0, .int .u64 0]) 4 32 rfl Tryd.underlying73 (by kernel_rfl) rfl (by decide) (by decide) v pre.length _ rfl ho18 gl [.int .u64 SW, .int .u64 BW, .int .u64 PW, .int .u64 WW] rfl B_gl rfl (by intro u hu;simp at hu;rcases hu with rfl|rfl|rfl|rfl <;> rfl) HL.out ?_;intro v8 w19 ho19 HB19 K19 KO19 FV;obtain ⟨g', cap', rfl⟩ := FV.out;have b719 := b718.appendedN (by decide) ho18 K19)
         | ((with_reducible refine gate_In (Op.store 73 (.tmp 7) (.tmp 84)) rfl ?_);refine ev_store1In (i := 0) HB19 b719 GE_g7 rfl 73 _ _ rfl rfl _ rfl (by simp) (by kernel_rfl) rfl ?_;intro w20 B20 HB20 K20 KO20))
        have E20 := ((E.below K_gl.out).appendedN PL.out.2.1 ho18 K19).other K20 PL.out.2.2
        have R120 := row_other (row_appended (row_below R1.out K_gl.out) (by decide) ho18 K19) b719 (by decide) K20
        have R220 := row_other (row_appended (row_below R2.out K_gl.out) (by decide) ho18 K19) b719 (by decide) K20
        have O20 := row_other ho19 b719 (by decide) K20
        have hszF : W.heap.size ≤ w20.heap.size := zz2 HZ'.out (zz2 K17.out.1 (zz2 K_gl.out.size (zz2 K19.out.1 K20.out.1)))
        refine ⟨(((((KO'.out.trans KO17.out).trans KO18.out).trans KO19.out).trans KO20.out)).from _, Keep2.of_blk (HI.out.bs.out _ PM.out.2.2.2.2.2.1) (HI.out.bs.out _ PM.out.2.2.2.2.2.2) (E20.out _ PM.out.2.2.2.2.2.1) (E20.out _ PM.out.2.2.2.2.2.2) hszF, E20, R120, R220, ⟨_, B20, ?_⟩, HB20, zz2 HI.out.sz hszF⟩
        rw [flatR_snoc, ROW.out, List.length_append]
        exact O20
       exact AllReadyL.nil
      exact AllReadyL.nil
     exact AllReadyL.nil
    exact AllReadyL.nil
  case done =>
   rintro D ys W hD rfl hI hK
   obtain ⟨v, b7, ho⟩ := hI.out
   have c7 := b7.cell (i := 0) rfl
   have HB := hI.hb
   have HD := zA hD
   have HKD := zA hK
   clear hK hD
   gi_wp2
   have hg := grownBy_putObj' W D (.deferred none)
   have hr : ∀ r, some D = some r → ∃ o : Obj, W.heap[r]? = some o ∧ o.isCells = false := fun r e => by
    cases e
    exact ⟨_, HKD.out, rfl⟩
   have hle : w.heap.size ≤ D := zz2 HBW.le HD.out
   refine ⟨by simp, .inl ⟨_, _, rfl, run_takeDeferred HKD.out, ?_⟩⟩
   refine ⟨_, results_tmp rfl _ _ _, v, rfl, ?_, (HB.kept hg hle (fun r e => by cases e;exact Nat.le_refl _)).out⟩
   have h1 := row_kept ho hg hr
   rw [flatR_all, List.length_finRange] at h1
   exact h1
  case stop =>
   rintro D c pre W _ _ h _
   exact h.elim
theorem marks_look.calls (a0 : ByteArray) (r : List S77) (w : World) (h : marks_look.f a0 = some r) :
  Calls Tryd.prog 50 #[.string a0] w fun e w' => ∃ v : Value, e = .returned v ∧ Kd.R k77 77 w' w.heap.size (fun _ => True) v r ∧ Below w.heap.size w w' := by
 unfold marks_look.f at h
 by_cases hs : a0.size ≤ 281474976702464
 case neg => rw [if_neg hs] at h;cases h
 rw [if_pos hs] at h
 simp only [Option.some.injEq] at h
 subst h
 refine (marks_look.walk a0 w hs).mono ?_
 rintro e w' ⟨v, rfl, hrow, hb⟩
 refine ⟨v, rfl, ⟨fun _ _ => trivial, _, ?_, lookL_reps (fun k => k77_mkM _ _ _ (rowS a0 k)) _⟩, hb⟩
 rw [show (lookL a0).length = nwords a0.size by simp [lookL]]
 exact hrow
end


end Go.Proofs.YtgddljealeklkaaDoor.PL
end
-- PLx4
section
namespace Go.Proofs.YtgddljealeklkaaDoor.PL
open Go.RowKit Go.Proofs.YtgddljealeklkaaDoorW.PrintWords Go.Proofs.YtgddljealeklkaaDoorW.PrintLast Go.Proofs.YtgddljealeklkaaDoorW.PrintMore
attribute [local go_sem] max2_int min2_int max_two min_two max_three min_three max_four min_four   -- for this text's walks alone
set_option linter.unusedVariables false
set_option linter.unusedSimpArgs false

def marks_rows_ends.f (a0_0 : Int) (a0_1 : Int) (a0_2 : Int) (a0_3 : Int) : Option (Bool) := some ((a0_3 / 9223372036854775808) == 1)
set_option maxHeartbeats 8000000 in
set_option maxRecDepth 100000 in
theorem marks_rows_ends.calls (a0_0 : Int) (a0_1 : Int) (a0_2 : Int) (a0_3 : Int) (r : Bool) (w : World) (h : marks_rows_ends.f a0_0 a0_1 a0_2 a0_3 = some r) :
  Calls Tryd.prog 59 #[.agg #[.int .u64 a0_0, .int .u64 a0_1, .int .u64 a0_2, .int .u64 a0_3]] w fun e w' => e = .returned (.bool r) ∧ Below w.heap.size w w' := by
 have hu77 := Tryd.underlying77
 have HB := zA (Below.refl w.heap.size w)
 have H : (some ((a0_3 / 9223372036854775808) == 1)) = some r := h
 clear h
 obtain rfl := Option.some.inj H
 go_enter Tryd.func59, Tryd.ntmps59
 go_wp2_with (first|((with_reducible refine gate_dst (N := 1) rfl ?_);refine box_event ?hg (N := 1) ?hd (cs := #[.int .u64 a0_0, .int .u64 a0_1, .int .u64 a0_2, .int .u64 a0_3]) (t := 77) ?hr ?_;(case hd => rfl);(case hg => rfl);(case hr => first|(go_simp;done)|(go_simp;rfl));intro gb107 hg w2 hbox hb;have n0_ := zA (zN (by repeat (first|(with_reducible first|exact HB.out|apply zG|apply zF|apply zH)|exact HB.out)) hb);have n1_ := zA (hbox);have n2_ := zA ((by rw [hg];exact (zO (by repeat (first|(with_reducible first|exact HB.out|apply zG|apply zF|apply zH)|exact HB.out))) : w.heap.size ≤ gb107));have n3_ := zA ((by rw [hg];exact (zO (by repeat (first|(with_reducible first|exact HB.out|apply zG|apply zF|apply zH)|exact HB.out))) : w.heap.size ≤ gb107));clear HB;have HB := n0_;have BK107 := n1_;have GW107 := n2_;have GE107 := n3_;clear n0_ n1_ n2_ n3_;clear hb hbox hg;have hcz3_0 : w2.cell? ⟨gb107, 0, none⟩ = some (.int .u64 a0_0) := (zP BK107.out 0).trans rfl;have hcz3_1 : w2.cell? ⟨gb107, 1, none⟩ = some (.int .u64 a0_1) := (zP BK107.out 1).trans rfl;have hcz3_2 : w2.cell? ⟨gb107, 2, none⟩ = some (.int .u64 a0_2) := (zP BK107.out 2).trans rfl;have hcz3_3 : w2.cell? ⟨gb107, 3, none⟩ = some (.int .u64 a0_3) := (zP BK107.out 3).trans rfl;have hfz3_0 := zR BK107.out 0;have hfz3_1 := zR BK107.out 1;have hfz3_2 := zR BK107.out 2;have hfz3_3 := zR BK107.out 3))
 go_ret
 exact ⟨by first|rfl|(simp [errW_none, errW_some] <;> rfl)|(simp [*, errW_none, errW_some] <;> rfl), by repeat (first|(with_reducible first|exact HB.out|apply zG|apply zF|apply zH|refine zI ?_ GE107.out)|exact HB.out)⟩

def marks_rows_starts.f (a0_0 : Int) (a0_1 : Int) (a0_2 : Int) (a0_3 : Int) (a1 : Bool) : Option (Int) := if a1 = true then (some (Go.bits .andNot .u64 a0_3 (Go.bits .or .u64 (IntKind.u64.wrap (a0_3 * 2)) 1))) else (some (Go.bits .andNot .u64 a0_3 (IntKind.u64.wrap (a0_3 * 2))))
set_option maxHeartbeats 8000000 in
set_option maxRecDepth 100000 in
theorem marks_rows_starts.calls (a0_0 : Int) (a0_1 : Int) (a0_2 : Int) (a0_3 : Int) (a1 : Bool) (r : Int) (w : World) (h : marks_rows_starts.f a0_0 a0_1 a0_2 a0_3 a1 = some r) :
  Calls Tryd.prog 60 #[.agg #[.int .u64 a0_0, .int .u64 a0_1, .int .u64 a0_2, .int .u64 a0_3], .bool a1] w fun e w' => e = .returned (.int .u64 r) ∧ Below w.heap.size w w' := by
 have hu77 := Tryd.underlying77
 have HB := zA (Below.refl w.heap.size w)
 have H : (if a1 = true then (some (Go.bits .andNot .u64 a0_3 (Go.bits .or .u64 (IntKind.u64.wrap (a0_3 * 2)) 1))) else (some (Go.bits .andNot .u64 a0_3 (IntKind.u64.wrap (a0_3 * 2))))) = some r := h
 clear h
 by_cases c3 : a1 = true
 ·subst c3
  have H1 : (some (Go.bits .andNot .u64 a0_3 (Go.bits .or .u64 (IntKind.u64.wrap (a0_3 * 2)) 1))) = some r := by rw [if_pos rfl] at H;exact H
  clear H
  have H := H1
  clear H1
  obtain rfl := Option.some.inj H
  go_enter Tryd.func60, Tryd.ntmps60
  go_wp2_with (first|((with_reducible refine gate_dst (N := 2) rfl ?_);refine box_event ?hg (N := 2) ?hd (cs := #[.int .u64 a0_0, .int .u64 a0_1, .int .u64 a0_2, .int .u64 a0_3]) (t := 77) ?hr ?_;(case hd => rfl);(case hg => rfl);(case hr => first|(go_simp;done)|(go_simp;rfl));intro gb108 hg w4 hbox hb;have n0_ := zA (zN (by repeat (first|(with_reducible first|exact HB.out|apply zG|apply zF|apply zH)|exact HB.out)) hb);have n1_ := zA (hbox);have n2_ := zA ((by rw [hg];exact (zO (by repeat (first|(with_reducible first|exact HB.out|apply zG|apply zF|apply zH)|exact HB.out))) : w.heap.size ≤ gb108));have n3_ := zA ((by rw [hg];exact (zO (by repeat (first|(with_reducible first|exact HB.out|apply zG|apply zF|apply zH)|exact HB.out))) : w.heap.size ≤ gb108));clear HB;have HB := n0_;have BK108 := n1_;have GW108 := n2_;have GE108 := n3_;clear n0_ n1_ n2_ n3_;clear hb hbox hg;have hcz5_0 : w4.cell? ⟨gb108, 0, none⟩ = some (.int .u64 a0_0) := (zP BK108.out 0).trans rfl;have hcz5_1 : w4.cell? ⟨gb108, 1, none⟩ = some (.int .u64 a0_1) := (zP BK108.out 1).trans rfl;have hcz5_2 : w4.cell? ⟨gb108, 2, none⟩ = some (.int .u64 a0_2) := (zP BK108.out 2).trans rfl;have hcz5_3 : w4.cell? ⟨gb108, 3, none⟩ = some (.int .u64 a0_3) := (zP BK108.out 3).trans rfl;have hfz5_0 := zR BK108.out 0;have hfz5_1 := zR BK108.out 1;have hfz5_2 := zR BK108.out 2;have hfz5_3 := zR BK108.out 3))
  go_ret
  exact ⟨by first|rfl|(simp [errW_none, errW_some] <;> rfl)|(simp [*, errW_none, errW_some] <;> rfl), by repeat (first|(with_reducible first|exact HB.out|apply zG|apply zF|apply zH|refine zI ?_ GE108.out)|exact HB.out)⟩
 ·replace c3 := Bool.eq_false_iff.mpr c3
  subst c3
  have H1 : (some (Go.bits .andNot .u64 a0_3 (IntKind.u64.wrap (a0_3 * 2)))) = some r := by rw [if_neg (show ¬ (false = true) by decide)] at H;exact H
  clear H
  have H := H1
  clear H1
  obtain rfl := Option.some.inj H
  go_enter Tryd.func60, Tryd.ntmps60
  go_wp2_with (first|((with_reducible refine gate_dst (N := 2) rfl ?_);refine box_event ?hg (N := 2) ?hd (cs := #[.int .u64 a0_0, .int .u64 a0_1, .int .u64 a0_2, .int .u64 a0_3]) (t := 77) ?hr ?_;(case hd => rfl);(case hg => rfl);(case hr => first|(go_simp;done)|(go_simp;rfl));intro gb108 hg w6 hbox hb;have n0_ := zA (zN (by repeat (first|(with_reducible first|exact HB.out|apply zG|apply zF|apply zH)|exact HB.out)) hb);have n1_ := zA (hbox);have n2_ := zA ((by rw [hg];exact (zO (by repeat (first|(with_reducible first|exact HB.out|apply zG|apply zF|apply zH)|exact HB.out))) : w.heap.size ≤ gb108));have n3_ := zA ((by rw [hg];exact (zO (by repeat (first|(with_reducible first|exact HB.out|apply zG|apply zF|apply zH)|exact HB.out))) : w.heap.size ≤ gb108));clear HB;have HB := n0_;have BK108 := n1_;have GW108 := n2_;have GE108 := n3_;clear n0_ n1_ n2_ n3_;clear hb hbox hg;have hcz7_0 : w6.cell? ⟨gb108, 0, none⟩ = some (.int .u64 a0_0) := (zP BK108.out 0).trans rfl;have hcz7_1 : w6.cell? ⟨gb108, 1, none⟩ = some (.int .u64 a0_1) := (zP BK108.out 1).trans rfl;have hcz7_2 : w6.cell? ⟨gb108, 2, none⟩ = some (.int .u64 a0_2) := (zP BK108.out 2).trans rfl;have hcz7_3 : w6.cell? ⟨gb108, 3, none⟩ = some (.int .u64 a0_3) := (zP BK108.out 3).trans rfl;have hfz7_0 := zR BK108.out 0;have hfz7_1 := zR BK108.out 1;have hfz7_2 := zR BK108.out 2;have hfz7_3 := zR BK108.out 3))
  go_ret
  exact ⟨by first|rfl|(simp [errW_none, errW_some] <;> rfl)|(simp [*, errW_none, errW_some] <;> rfl), by repeat (first|(with_reducible first|exact HB.out|apply zG|apply zF|apply zH|refine zI ?_ GE108.out)|exact HB.out)⟩

section
open Go.Proofs Go.Proofs.YtgddljealeklkaaDoorQ
set_option maxHeartbeats 1000000 in
theorem bits_TrailingZeros64.core (x k idx : Nat) (w : World) (hx0 : ((x : Int) == 0) = false)
  (key : IntKind.u64.wrap (Go.bits BinOp.and IntKind.u64 (x : Int) (IntKind.u64.wrap (-(x : Int))) * 285870213051353865) / 288230376151711744 = (idx : Int))
  (hi : idx < 64) (hk : k < 64) (hcell : w.cell? ⟨0, idx, none⟩ = some (.int .u8 k)) :
  Calls Tryd.prog 87 #[.int .u64 x] w fun e w' => e = .returned (.int .i64 k) ∧ w' = w := by
 go_enter Tryd.func87, Tryd.ntmps87
 go_wp2_with (simp only [key])
 go_ret
 exact ⟨rfl, rfl⟩
theorem bits_TrailingZeros64.calls (x : Nat) (hx : x < 18446744073709551616) (hx0 : x ≠ 0) (w : World) (hT : TabAt 0 Lib.deBruijn64tab w) :
  Calls Tryd.prog 87 #[.int .u64 x] w fun e w' => e = .returned (.int .i64 (Lib.ctz 64 x)) ∧ w' = w := by
 obtain ⟨hlow, hk⟩ := Lib.lowest_bit 64 x hx0 hx
 obtain ⟨hi, htab⟩ := Lib.deBruijn64_at _ hk
 have hcell := hT _ hi
 rw [htab] at hcell
 exact bits_TrailingZeros64.core x _ _ w (by simp;omega) (tz64_key x _ hx hx0 hlow) hi hk hcell
end


section
open Go.Proofs.YtgddljealeklkaaDoorQ Go.Proofs.YtgddljealeklkaaDoorM Go.Shelf
attribute [local go_sem] Oper.semAt_some
theorem tz_up (q : Nat → Bool) (i k : Nat) (h : upW q i ≠ 0#64) (hk : k = Lib.ctz 64 (upW q i).toNat) (w : World) (hT : TabOk w) :
  Calls Tryd.prog 87 #[.int .u64 (iv (upW q i))] w fun e w' => e = .returned (.int .i64 (k : Int)) ∧ w = w' := by
 have h0 : (upW q i).toNat ≠ 0 := fun e => h (BitVec.eq_of_toNat_eq (by rw [e];rfl))
 subst hk
 exact (bits_TrailingZeros64.calls (upW q i).toNat (upW q i).isLt h0 w hT.out).mono fun e w' hw => ⟨hw.1, hw.2.symm⟩
set_option maxHeartbeats 4000000 in
set_option maxRecDepth 100000 in
theorem words_Each_1.walk (F : Fence) (HF : Aside0 (F = Fence.wide)) (n : Nat) (hn : 3 ≤ n) (l g1 : Nat) (q : Nat → Bool) (J Jx : List (SetP 64 q) → World → Prop) (W0 : World)
  (hY : ∀ pre (x : SetP 64 q) W, J pre W → pre ++ [x] <+: setP 64 q 64 → YieldAt F (n - 1) Tryd.prog l #[.int .i64 (x.val : Int)] W fun e W' =>
   (e = .returned (.bool true) ∧ J (pre ++ [x]) W' ∧ Keep2 0 0 W W') ∨ (e = .returned (.bool false) ∧ Jx (pre ++ [x]) W'))
  (B1 : Blk W0 g1 #[.int .u64 (iv (word q))] 75) (hT : TabOk W0) (h0 : J [] W0) :
  CallsIn F n Tryd.prog 99 #[.func (.yield l) #[] #[], .pointer (some ⟨g1, 0, none⟩)] W0 fun e W' => (∃ v, e = .returned v) ∧
   ((∃ ys, ys = setP 64 q 64 ∧ J ys W') ∨ (∃ pre, pre <+: setP 64 q 64 ∧ Jx pre W')) := by
 have HY := zA hY
 have HJ0 := zA h0
 have HT := zA hT
 clear hY h0 hT
 have f0 := wide_fn HF 87
 have n1 : 1 ≤ n := by omega
 have n2 : 1 ≤ n - 1 := by omega
 have hro := wide_round HF
 have c1 := B1.cell (i := 0) rfl
 refine callsIn_of_wp Tryd.func99 rfl (wide_fn HF _) ?_ (wide_round HF)
 simp only [Tryd.ntmps99, List.size_toArray, List.length_cons, List.length_nil, Nat.reduceAdd, Nat.reduceSub, Array.replicate_succ, Array.replicate_zero, List.push_toArray, List.append_toArray, List.nil_append, List.cons_append]
 gi_wp2
 gi_loopw [3] (fun v wr => ∃ i : Nat, v = .int .u64 (iv (upW q i)) ∧ Aside0 (i ≤ 64) ∧ Aside0 (J (setP 64 q i) wr) ∧ Aside0 (TabOk wr)) (fun v _ => (intOf v).toNat)
 case atStart => exact ⟨0, by rw [upW_zero], ⟨Nat.zero_le _⟩, HJ0, HT⟩
 case round =>
  clear B1 HJ0 HT c1
  obtain ⟨i, rfl, HI, HJi, HT⟩ := hrel
  by_cases hz : upW q i = 0#64
  ·have hz0 : (iv (upW q i) != 0) = false := by rw [hz];rfl
   have HZ := zA hz
   clear hz
   gi_wp2
   go_end0
   have h := HJi.out
   rw [← up_end q i HI.out HZ.out] at h
   exact ⟨⟨_, rfl⟩, .inl ⟨_, rfl, h⟩⟩
  ·have hz0 : (iv (upW q i) != 0) = true := by
    rw [bne_iff_ne]
    intro e
    exact hz (iv_inj.1 (e.trans (by decide)))
   obtain ⟨k, hk, h1, h2, h3, h4⟩ := up_set q i hz
   have LESS := zA (up_less hz)
   have TZ : Aside0 (∀ w, TabOk w → Calls Tryd.prog 87 #[.int .u64 (iv (upW q i))] w fun e w' => e = .returned (.int .i64 (k : Int)) ∧ w = w') := ⟨fun w hw => tz_up q i k hz h1 w hw⟩
   have NEXT : Aside0 (bits .and .u64 (iv (upW q i)) (IntKind.u64.wrap (iv (upW q i) - 1)) = iv (upW q (k + 1))) := ⟨by
    rw [show (1 : Int) = iv 1#64 from by decide, wrap_sub, bits_and, h4]⟩
   have HK := zA hk
   have HS : Aside0 (setP 64 q (k + 1) = setP 64 q i ++ [⟨k, HK.out⟩]) := ⟨h3⟩
   rw [h4] at LESS
   have HL : setP 64 q i ++ [⟨k, HK.out⟩] <+: setP 64 q 64 := by
    rw [← HS.out]
    exact setP_le (by have := HK.out.1;omega)
   obtain ⟨fn, tmps, assign, body, hy, hR⟩ := HY.out (setP 64 q i) ⟨k, HK.out⟩ wr HJi.out HL
   have HR := zA hR
   dsimp only at hy
   clear hR h1 h2 h3 h4 hz hk HL
   gi_wp2_with (first
    | (gi_at_call 87;refine (callsIn_of HF (TZ.out _ HT.out)).mono ?_;rintro e w3 ⟨rfl, rfl⟩))
   refine HR.out.mono ?_
   rintro e W6 (⟨rfl, hJ6, hk6⟩ | ⟨rfl, hJx6⟩)
   ·have HT6 := zA (HT.out.keep hk6)
    have HJ6 := zA (show J (setP 64 q (k + 1)) W6 by rw [HS.out];exact hJ6)
    clear hJ6 hk6
    gi_wp2
    go_roundw
    case rel => exact ⟨k + 1, by rw [NEXT.out], ⟨by have := HK.out.1;omega⟩, HJ6, HT6⟩
    case measure =>
     have := LESS.out
     simp only [intOf]
     rw [NEXT.out]
     unfold iv
     omega
   ·have HJ6 := zA hJx6
    clear hJx6
    gi_wp2
    refine bodyPost_ret (results_none rfl _ _ _) rfl ?_
    refine ⟨⟨_, rfl⟩, .inr ⟨_, ?_, HJ6.out⟩⟩
    rw [← HS.out]
    exact setP_le (by have := HK.out.1;omega)
theorem set64_lt {q : Nat → Bool} {pre : List (SetP 64 q)} {x : SetP 64 q} (h : pre ++ [x] <+: setP 64 q 64) : pre.length < 64 := by
 have h1 := h.length_le
 have h2 := setP_length (n := 64) (q := q) 64
 rw [List.length_append, List.length_singleton] at h1
 omega
theorem words_Each_1.stops (F : Fence) (HF : Aside0 (F = Fence.wide)) (n : Nat) (hn : 3 ≤ n) (g1 : Nat) (q : Nat → Bool) (w : World)
  (B1 : Blk w g1 #[.int .u64 (iv (word q))] 75) (hT : TabOk w) :
  SeqStopsK F n Tryd.prog 99 #[.pointer (some ⟨g1, 0, none⟩)] (fun x : SetP 64 q => #[.int .i64 (x.val : Int)]) (Keep2 0 0) (fun ys => ys = setP 64 q 64) (fun pre => pre <+: setP 64 q 64) 64 w := by
 intro l J Jx W hW _ _ hY h0
 exact words_Each_1.walk F HF n hn l g1 q J Jx W (fun pre x A hA hp => hY pre x A hA (set64_lt hp)) (B1.below hW) (hT.step hW) h0
theorem words_Each_1.stopsO (F : Fence) (HF : Aside0 (F = Fence.wide)) (n : Nat) (hn : 3 ≤ n) (g1 : Nat) (q : Nat → Bool) (w : World)
  (B1 : Blk w g1 #[.int .u64 (iv (word q))] 75) (hT : TabOk w) :
  SeqO F n Tryd.prog 99 #[.pointer (some ⟨g1, 0, none⟩)] (fun x : SetP 64 q => #[.int .i64 (x.val : Int)]) (Keep2 0 0) (fun ys => ys = setP 64 q 64) (fun pre => pre <+: setP 64 q 64) w := by
 intro l J Jx W hW _ _ _ _ hY h0
 refine (words_Each_1.walk F HF n hn l g1 q (J []) Jx W (fun pre x A hA hp => (hY [] pre x A (fun k hk => (List.not_mem_nil hk).elim) hA hp).mono fun e A' h => h.2.2) (B1.below hW) (hT.step hW) h0).mono ?_
 rintro e W' ⟨hv, (⟨ys, h1, h2⟩|h)⟩
 ·exact ⟨hv, .inl ⟨ys, [], h1, fun k hk => (List.not_mem_nil hk).elim, h2⟩⟩
 ·exact ⟨hv, .inr h⟩
end


open Go.Proofs.YtgddljealeklkaaDoorQ Go.Proofs.YtgddljealeklkaaDoorM in
set_option maxHeartbeats 4000000 in
set_option maxRecDepth 100000 in
theorem words_Each.calls (x : Int) (w : World) :
  Calls Tryd.prog 62 #[.int .u64 x] w fun e w' => ∃ g1 : Nat, e = .returned (.func (.func 99) #[] #[.pointer (some ⟨g1, 0, none⟩)]) ∧
   w.heap.size ≤ g1 ∧ Blk w' g1 #[.int .u64 x] 75 ∧ BelowH w w' := by
 have HB := BelowH.refl w
 go_enter Tryd.func62, Tryd.ntmps62
 go_wp2_with (first|((with_reducible refine gate_dst (N := 1) rfl ?_);refine ev_alloc HB rfl (#[.int .u64 x]) 75 ?hr ?_;(case hr => first|(go_simp;done)|(go_simp;rfl));intro g1 w1 G_g1 GE_g1 B_g1 HBn K_g1;clear HB;have HB := HBn;clear HBn))
 go_ret
 exact ⟨g1, rfl, GE_g1.out, B_g1, HB⟩


section
open Go.Proofs.YtgddljealeklkaaDoorQ Go.Proofs.YtgddljealeklkaaDoorM Go.Shelf
attribute [local go_sem] Oper.semAt_some
theorem starts_word (s : ByteArray) (k : Nat) (x y z : Int) : marks_rows_starts.f x y z (iv (wordAt s.size (wdq s) k)) (carq s k) = some (iv (word (stW s k))) := by
 have e1 : IntKind.u64.wrap (iv (wordAt s.size (wdq s) k) * 2) = iv (wordAt s.size (wdq s) k <<< 1) := wrap_shl _ 1
 have e2 : (1 : Int) = iv 1#64 := rfl
 have h := st_word s k
 unfold marks_rows_starts.f
 cases hc : carq s k with
 | true =>
  rw [hc, if_pos rfl] at h
  rw [if_pos rfl, e1, e2, bits_or, bits_andNot, h]
 | false =>
  rw [hc, if_neg (by decide)] at h
  rw [if_neg (by decide), e1, bits_andNot, ← h]
  simp
theorem ends_word (s : ByteArray) (k : Nat) (a b c : Int) : marks_rows_ends.f a b c (iv (wordAt s.size (wdq s) k)) = some (decide (64 * k + 63 < s.size) && wdq s (64 * k + 63)) := by
 unfold marks_rows_ends.f wordAt
 rw [top_word]
 cases (decide (64 * k + 63 < s.size) && wdq s (64 * k + 63)) <;> rfl
structure IdxI (w : World) (g3 g5 g6 gr m : Nat) (r : List Value) (cur : Array Value) (k : Nat) (L0 : List Int) {q : Nat → Bool} (Ds : List Nat) (pre : List (SetP 64 q)) (W : World) : Prop where mk ::
 out : ∃ v, Blk W g3 #[v] 36 ∧ W.ownsRow w.heap.size 3 1 v (L0.length + pre.length) ((L0 ++ pre.map fun x => (64 * (k : Int) + ((x.val : Nat) : Int))).map (Value.int .i64)) ∧ v.ownBlock ≠ some g5
 b5 : Blk W g5 #[.int .i64 (k : Int)] 3
 b6 : Blk W g6 r.toArray 77
 br : Blk W gr cur 77
 ht : TabOk W
 mk_ : Marks w.heap.size Ds W
 hb : BelowH w W
 sz : m ≤ W.heap.size
theorem IdxI.kept {w : World} {g3 g5 g6 gr m : Nat} {r : List Value} {cur : Array Value} {k : Nat} {L0 : List Int} {q : Nat → Bool} {Ds : List Nat} {pre : List (SetP 64 q)} {W W' : World} (h : IdxI w g3 g5 g6 gr m r cur k L0 Ds pre W) (hm : w.heap.size ≤ m) (hD : ∀ D ∈ Ds, D < m) {row : Option Nat} (hg : W.grownBy W' row) (hr : ∀ r, row = some r → m ≤ r ∧ ∃ o : Obj, W.heap[r]? = some o ∧ o.isCells = false) : IdxI w g3 g5 g6 gr m r cur k L0 Ds pre W' := by
 have hr' : ∀ r, row = some r → ∃ o : Obj, W.heap[r]? = some o ∧ o.isCells = false := fun r e => (hr r e).2
 obtain ⟨v, b, ho, hn⟩ := h.out
 exact ⟨⟨v, b.kept hg hr', row_kept ho hg hr', hn⟩, h.b5.kept hg hr', h.b6.kept hg hr', h.br.kept hg hr', h.ht.kept hg hr', h.mk_.grown hg hD (fun r e => (hr r e).1), h.hb.kept hg hm (fun r e => (hr r e).1), zz2 h.sz hg.size⟩
theorem IdxI.below {w : World} {g3 g5 g6 gr m m' : Nat} {r : List Value} {cur : Array Value} {k : Nat} {L0 : List Int} {q : Nat → Bool} {Ds : List Nat} {pre : List (SetP 64 q)} {W W' : World} (h : IdxI w g3 g5 g6 gr m r cur k L0 Ds pre W) (hb : Below W.heap.size W W') (hm : m' ≤ W'.heap.size) : IdxI w g3 g5 g6 gr m' r cur k L0 Ds pre W' := by
 obtain ⟨v, b, ho, hn⟩ := h.out
 exact ⟨⟨v, b.below hb, row_below ho hb, hn⟩, h.b5.below hb, h.b6.below hb, h.br.below hb, h.ht.step hb, h.mk_.below hb, h.hb.step hb, hm⟩
theorem rows_get (s : ByteArray) (k j : Nat) (hj : j < 4) : ∀ n, k < n → ((List.range n).flatMap (rowN s))[k * 4 + j]? = (rowN s k)[j]?
 | 0, h => by omega
 | n + 1, h => by
  have hl : ∀ m, ((List.range m).flatMap (rowN s)).length = 4 * m := fun m => by
   induction m with
   | zero => rfl
   | succ m ih =>
    rw [List.range_succ, List.flatMap_append, List.length_append, ih]
    simp [rowN]
    omega
  rw [List.range_succ, List.flatMap_append]
  by_cases e : k = n
  ·subst e
   rw [List.getElem?_append_right (by rw [hl];omega), hl, show k * 4 + j - 4 * k = j by omega]
   simp
  ·rw [zz6 (by rw [hl];omega)]
   exact rows_get s k j hj n (by omega)
set_option maxHeartbeats 4000000 in
set_option maxRecDepth 100000 in
theorem marks_Index.walk (s : ByteArray) (w : World) (hT : TabOk w) (hs : s.size ≤ 1099511627776) :
  Calls Tryd.prog 26 #[.string s] w fun e w' => ∃ v : Value, e = .returned v ∧ w'.ownsRow w.heap.size 3 1 v (idxL s s.size).length ((idxL s s.size).map (Value.int .i64)) ∧ Below w.heap.size w w' := by
 obtain ⟨F, hF⟩ : ∃ F, F = Fence.wide := ⟨_, rfl⟩
 have HF := zA hF
 refine (callsIn_wide (n := 9)).1 ?_
 rw [← hF]
 clear hF
 have hro := wide_round HF
 have HB := BelowH.refl w
 have f1 := wide_fn HF 50
 have f2 := wide_fn HF 62
 have f3 := wide_fn HF 99
 have f4 := wide_fn HF 60
 have f5 := wide_fn HF 59
 have HS := zA hs
 have HT := zA hT
 have PW := zA hT.pos
 obtain ⟨nw, hnw⟩ : ∃ nw, nw = nwords s.size := ⟨_, rfl⟩
 have HNW := zA hnw
 have hnw1 : (nw : Int) ≤ 17179869184 := by rw [hnw];unfold nwords;omega
 clear hs hnw hT
 refine callsIn_of_wp_marks Tryd.func26 rfl (wide_fn HF _) ?_ hro
 simp only [Tryd.ntmps26, List.size_toArray, List.length_cons, List.length_nil, Nat.reduceAdd, Nat.reduceSub, Array.replicate_succ, Array.replicate_zero, List.push_toArray, List.append_toArray, List.nil_append, List.cons_append]
 gi_upto_region 3 with (first
  | ((with_reducible refine gate_dstIn (N := 3) rfl ?_);refine ev_allocIn HB rfl rfl (#[.slice none 0 0]) 36 ?hr ?_;(case hr => first|(go_simp;done)|(go_simp;rfl));intro g3 w3 G_g3 GE_g3 B_g3 HBn K_g3 KO_w3;clear HB;have HB := HBn;clear HBn))
 have hlk := marks_look.walk s w3 (by have := HS.out;omega)
 rw [← HNW.out] at hlk
 have LK := zA hlk
 clear hlk
 gi_wp2_with (first
  | (gi_at_call 50;refine (callsIn_of HF LK.out).mono ?_;rintro e w4 ⟨v, rfl, hrow, hb4⟩;have HR4 := zA hrow;have HB4 := HB.step hb4;have HK4 := zA hb4;obtain ⟨ad, cp, rfl⟩ := own_slice hrow;clear hrow hb4))
 have hb := HB4
 have D3 := B_g3.below HK4.out
 have HT4 := zA (HT.out.stepH HB4)
 have HO : Aside0 ((ad = none ∧ nw = 0) ∨ ∃ gr cur, ad = some ⟨gr, 0, none⟩ ∧ Blk w4 gr cur 77 ∧ ∀ k j, k < nw → j < 4 → cur[k * 4 + j]? = (rowN s k)[j]?) := ⟨by
  rcases row_openN HR4.out with ⟨h1, h2⟩ | ⟨gr, cap, cur, h1, h2, h3, h4⟩
  ·injection h1 with h1
   exact .inl ⟨h1, h2⟩
  ·injection h1 with h1
   refine .inr ⟨gr, cur, h1, h3, fun k j hk hj => ?_⟩
   have hg := rows_get s k j hj nw hk
   cases hx : (rowN s k)[j]? with
   | none => rw [List.getElem?_eq_none_iff] at hx;simp [rowN] at hx;omega
   | some u => rw [hx] at hg;exact h4 _ _ hg⟩
 obtain ⟨gr, cur, HO⟩ : ∃ gr cur, Aside0 ((ad = none ∧ nw = 0) ∨ (ad = some ⟨gr, 0, none⟩ ∧ Blk w4 gr cur 77 ∧ ∀ k j, k < nw → j < 4 → cur[k * 4 + j]? = (rowN s k)[j]?)) := by
  rcases HO.out with h | ⟨gr, cur, h⟩
  ·exact ⟨0, #[], ⟨.inl h⟩⟩
  ·exact ⟨gr, cur, ⟨.inr h⟩⟩
 have HGET : Aside0 (nw ≠ 0 → ad = some ⟨gr, 0, none⟩ ∧ ∀ k j, k < nw → j < 4 → cur[k * 4 + j]? = (rowN s k)[j]?) := ⟨fun h0 => by
  rcases HO.out with ⟨_, h⟩ | ⟨h1, _, h3⟩
  ·exact absurd h h0
  ·exact ⟨h1, h3⟩⟩
 have HBR : Aside0 (nw ≠ 0 → Blk w4 gr cur 77) := ⟨fun h0 => by
  rcases HO.out with ⟨_, h⟩ | ⟨_, h2, _⟩
  ·exact absurd h h0
  ·exact h2⟩
 clear HO hb LK HT B_g3 K_g3 KO_w3 HK4 HR4 HB G_g3
 refine wpIn_loopM (fun m a W => ∃ (k : Nat) (Ds : List Nat) (z11 : Int) (c4 : Bool) (u5 u6 u7 u12 u13 u14 u15 u16 u17 u18 u19 u20 u21 u22 u23 u24 u25 u26 u27 u28 u29 u30 u31 u32 u33 u34 u35 u36 u37 : Value), m = nw - k ∧ z11 = (k : Int) ∧ k ≤ nw ∧ a = { tmps := #[.string s, undef, .slice none 0 0, .pointer (some ⟨g3, 0, none⟩), .bool c4, u5, u6, u7, .string s, .slice ad nw cp, .int .i64 (nw : Int), .int .i64 z11, u12, u13, u14, u15, u16, u17, u18, u19, u20, u21, u22, u23, u24, u25, u26, u27, u28, u29, u30, u31, u32, u33, u34, u35, u36, u37], defers := marksD Ds } ∧
  Aside0 (k < nw → c4 = carq s k) ∧ Aside0 (∃ v, Blk W g3 #[v] 36 ∧ W.ownsRow w.heap.size 3 1 v (idxL s (64 * k)).length ((idxL s (64 * k)).map (Value.int .i64))) ∧ Aside0 (nw ≠ 0 → Blk W gr cur 77) ∧ Aside0 (TabOk W) ∧ Aside0 (Marks w.heap.size Ds W) ∧ BelowH w W) nw
  ⟨0, [], 0, false, _, _, _, _, _, _, _, _, _, _, _, _, _, _, _, _, _, _, _, _, _, _, _, _, _, _, _, _, _, rfl, rfl, Nat.zero_le _, rfl, ⟨fun _ => rfl⟩, ⟨_, D3, World.ownsRow_nil _ _ _ _⟩, HBR, HT4, ⟨Marks.nil⟩, HB4⟩ ?_
 rintro m a W ⟨k, Ds, z11, c4, u5, u6, u7, u12, u13, u14, u15, u16, u17, u18, u19, u20, u21, u22, u23, u24, u25, u26, u27, u28, u29, u30, u31, u32, u33, u34, u35, u36, u37, rfl, hz11, hk, rfl, HC, HOUT, HBR, HT, HM, HB⟩ K hK
 have HKK := zA hK
 clear hK HT4 D3 HB4
 obtain ⟨v, b3, hrow⟩ := HOUT.out
 have c3 := b3.cell (i := 0) rfl
 by_cases hlt : k < nw
 ·have HLT := zA hlt
  obtain ⟨rfl, hcur⟩ := HGET.out (by omega)
  have BR := HBR.out (by omega)
  obtain ⟨A, hA⟩ : ∃ A, A = iv (wordAt s.size (sgq s) k) := ⟨_, rfl⟩
  obtain ⟨B, hB⟩ : ∃ B, B = iv (wordAt s.size (blq s) k) := ⟨_, rfl⟩
  obtain ⟨C, hC⟩ : ∃ C, C = iv (wordAt s.size (opq s) k) := ⟨_, rfl⟩
  obtain ⟨D, hD⟩ : ∃ D, D = iv (wordAt s.size (wdq s) k) := ⟨_, rfl⟩
  have hrN : rowN s k = [.int .u64 A, .int .u64 B, .int .u64 C, .int .u64 D] := by rw [hA, hB, hC, hD];rfl
  have hcur' := fun j hj => hcur k j hlt hj
  rw [hrN] at hcur'
  replace hcur := hcur'
  clear hcur'
  have cr0 : W.cell? ⟨gr, k * 4, none⟩ = some (.int .u64 A) := BR.cell (hcur 0 (by decide))
  have cr1 : W.cell? ⟨gr, k * 4 + 1, none⟩ = some (.int .u64 B) := BR.cell (hcur 1 (by decide))
  have cr2 : W.cell? ⟨gr, k * 4 + 2, none⟩ = some (.int .u64 C) := BR.cell (hcur 2 (by decide))
  have cr3 : W.cell? ⟨gr, k * 4 + 3, none⟩ = some (.int .u64 D) := BR.cell (hcur 3 (by decide))
  have hq1 : (k : Int) < (nw : Int) := by omega
  have hq2 : (0 : Int) ≤ (k : Int) := by omega
  have hkn : 64 * k < s.size := by have := HNW.out;unfold nwords at this;omega
  have hc4 := HC.out hlt
  obtain ⟨X, hX⟩ : ∃ X, X = iv (word (stW s k)) := ⟨_, rfl⟩
  have STA : Aside0 (∀ w, Calls Tryd.prog 60 #[.agg #[.int .u64 A, .int .u64 B, .int .u64 C, .int .u64 D], .bool c4] w fun e w' => e = .returned (.int .u64 X) ∧ Below w.heap.size w w') := ⟨fun w => marks_rows_starts.calls A B C D c4 X w (by rw [hD, hc4, hX];exact starts_word s k A B C)⟩
  have BEG : Aside0 (bits .or .u64 (bits .or .u64 A C) X = iv (word (begB s k))) := ⟨by rw [hA, hC, hX];exact beg_or s k hkn⟩
  have EN : Aside0 (∀ w, Calls Tryd.prog 59 #[.agg #[.int .u64 A, .int .u64 B, .int .u64 C, .int .u64 D]] w fun e w' => e = .returned (.bool (decide (64 * k + 63 < s.size) && wdq s (64 * k + 63))) ∧ Below w.heap.size w w') := ⟨fun w => marks_rows_ends.calls A B C D _ w (by rw [hD];exact ends_word s k A B C)⟩
  obtain ⟨E, hE⟩ : ∃ E, E = (decide (64 * k + 63 < s.size) && wdq s (64 * k + 63)) := ⟨_, rfl⟩
  rw [← hE] at EN
  have HE := zA hE
  subst hz11
  have HROW := zA hrow
  have HV1 := zA (row_one hrow)
  clear hA hB hC hD hrN hcur hkn hc4 hX hE hlt hk hrow HOUT HBR HC
  have HB0 := HB
  clear HB
  have HB := BelowH.refl W
  gi_upto_region 6 with (first
   | ((with_reducible refine gate_dstIn (N := 5) rfl ?_);refine ev_allocIn HB rfl rfl (#[.int .i64 0]) 3 ?hr ?_;(case hr => first|(go_simp;done)|(go_simp;rfl));intro g5 w5 G_g5 GE_g5 B_g5 HBn K_g5 KO_w5;clear HB;have HB := HBn;clear HBn)
   | ((with_reducible refine gate_dstIn (N := 6) rfl ?_);refine ev_allocIn HB rfl rfl (#[.int .u64 0, .int .u64 0, .int .u64 0, .int .u64 0]) 77 ?hr ?_;(case hr => first|(go_simp;done)|(go_simp;rfl));intro g6 w6 G_g6 GE_g6 B_g6 HBn K_g6 KO_w6;clear HB;have HB := HBn;clear HBn)
   | ((with_reducible refine gate_In (Op.store 3 (.tmp 5) (.tmp 13)) rfl ?_);refine ev_store1In (i := 0) HB (B_g5.below K_g6.out) GE_g5 rfl 3 _ _ rfl rfl (.int .i64 (k : Int)) rfl (by simp) (by kernel_rfl) rfl ?_;intro w7 B7 HBn K_w7 KO_w7;clear HB;have HB := HBn;clear HBn)
   | ((with_reducible refine gate_In (Op.store 77 (.tmp 6) (.tmp 15)) rfl ?_);refine ev_storeIn HB (B_g6.other K_w7 (by have := B_g5.lt;have := G_g6.out;omega)) GE_g6 rfl 77 _ _ rfl rfl rfl (by kernel_rfl) rfl (by simp [Value.oneCell']) ?_;intro w8 B8 HBn K_w8 KO_w8;clear HB;have HB := HBn;clear HBn))
  have N56 : g5 ≠ g6 := by have := B_g5.lt;have := G_g6.out;omega
  have NW5 : ∀ g, g < W.heap.size → g ≠ g5 ∧ g ≠ g6 := fun g h => by have := G_g5.out;have := G_g6.out;have := K_g5.out.size;omega
  have KB := zA HB.out
  have B5 := B7.other K_w8 N56
  have hR8 : w8.ownsRow w.heap.size 3 1 v ((idxL s (64 * k)).length + ([] : List (SetP 64 (begB s k))).length) ((idxL s (64 * k) ++ ([] : List (SetP 64 (begB s k))).map fun x => (64 * (k : Int) + ((x.val : Nat) : Int))).map (Value.int .i64)) := by
   rw [List.map_nil, List.append_nil]
   exact row_below HROW.out KB.out
  have I8 : IdxI w g3 g5 g6 gr 0 [.int .u64 A, .int .u64 B, .int .u64 C, .int .u64 D] cur k (idxL s (64 * k)) Ds ([] : List (SetP 64 (begB s k))) w8 :=
   ⟨⟨v, b3.below KB.out, hR8, own_ne_new HROW.out G_g5.out⟩, B5, B8, BR.below KB.out, HT.out.step KB.out, HM.out.below KB.out, HB0.step KB.out, Nat.zero_le _⟩
  have hbd : Aside0 (Below w8.heap.size w8 w8.drew) := ⟨below_drew (Below.refl _ _)⟩
  have I' := I8.below hbd.out (Nat.zero_le _)
  clear I8 hR8 B5 B8 B7 BR HM HB0 HB KB NW5 hbd B_g5 B_g6 K_g5 K_g6 K_w7 K_w8 KO_w5 KO_w6 KO_w7 KO_w8 G_g5 GE_g5 G_g6 GE_g6 HROW HV1 b3 c3 cr0 cr1 cr2 cr3 HT
  refine wpIn_region_last_wide HF (S := fun W' => Blk W' g6 #[.int .u64 A, .int .u64 B, .int .u64 C, .int .u64 D] 77) (ds := []) (by kernel_rfl) I'.b6 (fun hS => ?_)
  refine' zM (i := 0) (oi := Oper.mk _ _ _ _ _ _) rfl (by kernel_rfl) (by kernel_rfl) (by kernel_rfl) (by kernel_rfl) (by kernel_rfl) (fun _ _ _ h => h) (Or.inl ⟨by rfl, ?hy1⟩) hS ?rest1
  case hy1 => (intro w hSw;(try dsimp only at hSw);first|(go_simp;done)|(go_simp;with_reducible rfl))
  try simp only [Act.put, zB, zC, zD]
  refine zM (i := 1) (oi := Oper.mk _ _ _ _ _ _) rfl (by kernel_rfl) (by kernel_rfl) (by kernel_rfl) (by kernel_rfl) (by kernel_rfl) (fun _ _ _ h => h) (rg_load1 (by rfl) (fun _ hS => hS.cell (i := 0) rfl) 75 _ rfl rfl (fun _ => by simp [isAgg, run_underlying Tryd.underlying75])) hS ?_
  try simp only [Act.put, zB, zC, zD]
  refine' zM (i := 2) (oi := Oper.mk _ _ _ _ _ _) rfl (by kernel_rfl) (by kernel_rfl) (by kernel_rfl) (by kernel_rfl) (by kernel_rfl) (fun _ _ _ h => h) (Or.inl ⟨by rfl, ?hy2⟩) hS ?rest2
  case hy2 => (intro w hSw;(try dsimp only at hSw);first|(go_simp;done)|(go_simp;with_reducible rfl))
  try simp only [Act.put, zB, zC, zD]
  refine zM (i := 3) (oi := Oper.mk _ _ _ _ _ _) rfl (by kernel_rfl) (by kernel_rfl) (by kernel_rfl) (by kernel_rfl) (by kernel_rfl) (fun _ _ _ h => h) (rg_load1 (by rfl) (fun _ hS => hS.cell (i := 2) rfl) 75 _ rfl rfl (fun _ => by simp [isAgg, run_underlying Tryd.underlying75])) hS ?_
  try simp only [Act.put, zB, zC, zD]
  refine' zM (i := 4) (oi := Oper.mk _ _ _ _ _ _) rfl (by kernel_rfl) (by kernel_rfl) (by kernel_rfl) (by kernel_rfl) (by kernel_rfl) (fun _ _ _ h => h) (Or.inl ⟨by rfl, ?hy3⟩) hS ?rest3
  case hy3 => (intro w hSw;(try dsimp only at hSw);first|(go_simp;done)|(go_simp;with_reducible rfl))
  try simp only [Act.put, zB, zC, zD]
  refine zM (i := 5) (oi := Oper.mk _ _ _ _ _ _) rfl (by kernel_rfl) (by kernel_rfl) (by kernel_rfl) (by kernel_rfl) (by kernel_rfl) (fun _ _ _ h => h) (rg_load (by rfl) (fun _ hS => hS) 77 _ rfl rfl Tryd.underlying77 rfl (by kernel_rfl)) hS ?_
  try simp only [Act.put, zB, zC, zD]
  refine' zM (i := 6) (oi := Oper.mk _ _ _ _ _ _) rfl (by kernel_rfl) (by kernel_rfl) (by kernel_rfl) (by kernel_rfl) (by kernel_rfl) (fun _ _ _ h => h) (Or.inl ⟨by rfl, ?hy4⟩) hS ?rest4
  case hy4 => (intro w hSw;(try dsimp only at hSw);first|(go_simp;done)|(go_simp;with_reducible rfl))
  try simp only [Act.put, zB, zC, zD]
  refine wpAnyLast_ready (rs := [7]) (by kernel_rfl) (by simp) ?_
  refine AllReadyL.cons (o := Oper.mk _ _ _ _ _ _) rfl (by decide) (fun K hK => ?_) ?_
  ·refine rg_call (by rfl) _ _ (.int .u64 X) (by first|(go_simp;done)|(go_simp;rfl)) (STA.out _) ?_
   intro W' hb
   have I2 := I'.below (m' := 0) hb.out (Nat.zero_le _)
   clear I'
   refine hK.out _ _ I2.b6 (fun hS => ?_)
   clear hK K
   try simp only [Act.put, zB, zC, zD]
   refine' zM (i := 8) (oi := Oper.mk _ _ _ _ _ _) rfl (by kernel_rfl) (by kernel_rfl) (by kernel_rfl) (by kernel_rfl) (by kernel_rfl) (fun _ _ _ h => h) (Or.inl ⟨by rfl, ?hy5⟩) hS ?rest5
   case hy5 => (intro w hSw;(try dsimp only at hSw);first|(go_simp;done)|(go_simp;with_reducible rfl))
   try simp only [Act.put, zB, zC, zD]
   refine wpAnyLast_ready (rs := [9]) (by kernel_rfl) (by simp) ?_
   refine AllReadyL.cons (o := Oper.mk _ _ _ _ _ _) rfl (by decide) (fun K hK => ?_) ?_
   ·refine call_ 62 #[.int .u64 (bits .or .u64 (bits .or .u64 A C) X)] (by rfl) rfl (by first|(go_simp;done)|(go_simp;rfl)) ((words_Each.calls _ _).mono ?_)
    rintro e W3 ⟨g1, rfl, GE1, B1, HB3⟩
    refine ⟨_, rfl, ?_⟩
    have I3 := I2.below (m' := W3.heap.size) HB3.out (Nat.le_refl _)
    clear I2 HB3
    refine hK.out _ _ I3.b6 (fun hS => ?_)
    clear hK K
    try simp only [Act.put, zB, zC, zD]
    refine wpAnyLast_done (by kernel_rfl) ?_ _
    refine NoPanic.normal ?_
    gi_wp2
    have B1' := B1
    rw [BEG.out] at B1'
    have P0 := I3.ht.pos
    have L1 := B1'.lt
    have HP := zA (And.intro (fun D hD => I3.mk_.lt (D := D) hD) I3.hb.le)
    have HX3 := zA (And.intro I3.b5.lt (And.intro I3.b6.lt (I3.out.choose_spec.1).lt))
    have T3 := I3.ht
    clear B1 GE1
    refine wpIn_rangeFunc_ownH hro (by decide) (gf := 99) (lb := #[.pointer (some ⟨g1, 0, none⟩)]) rfl f3 (enters_of Tryd.func99 (by kernel_rfl) rfl)
     (words_Each_1.stops F HF (9 - 1) (by decide) g1 (begB s k) W3 B1' T3) Keep2.trans (fun W l o o' hl ho hc hw => Keep2.putObj P0 P0 W l o o' hl ho hc hw) (Below.refl _ _) (fun _ => rfl)
     (IdxI w g3 g5 g6 gr W3.heap.size [.int .u64 A, .int .u64 B, .int .u64 C, .int .u64 D] cur k (idxL s (64 * k)) Ds) (fun _ _ _ => False)
     (fun pre A B row hs hg hr => hs.kept HP.out.2 HP.out.1 hg hr)
     (fun _ _ _ _ _ hs _ _ => hs)
     I3
     (fun y a' W => a' = { tmps := #[.string s, undef, .slice none 0 0, .pointer (some ⟨g3, 0, none⟩), .bool c4, .pointer (some ⟨g5, 0, none⟩), .pointer (some ⟨g6, 0, none⟩), .int .i64 ((y.val : Nat) : Int), .string s, .slice (some ⟨gr, 0, none⟩) nw cp, .int .i64 (nw : Int), .int .i64 (k : Int), .bool true, .int .i64 (k : Int), .pointer (some ⟨gr, k * 4, none⟩), .agg #[.int .u64 A, .int .u64 B, .int .u64 C, .int .u64 D], .pointer (some ⟨g6, 0, none⟩), .int .u64 A, .pointer (some ⟨g6, 2, none⟩), .int .u64 C, .int .u64 (bits .or .u64 A C), .agg #[.int .u64 A, .int .u64 B, .int .u64 C, .int .u64 D], .bool c4, .int .u64 X, .int .u64 (bits .or .u64 (bits .or .u64 A C) X), .func (.func 99) #[] #[.pointer (some ⟨g1, 0, none⟩)], .int .i64 ((y.val : Nat) : Int), u27, u28, u29, u30, u31, u32, u33, u34, u35, u36, u37], defers := [] })
     (fun x a' pre A B row hs hg hr => hs)
     ?assign ?body ?done ?stop
    case assign =>
     intro l' pre y W K' hI hK'
     dsimp only
     gi_wp2
     exact hK' _ _ ((KeepsOthers.refl _).from _) ⟨rfl, rfl, Nat.le_refl _⟩ hI rfl
    case body =>
     rintro l' pre y a' W' hl ⟨r, hr⟩ hI rfl hlen
     clear hr
     obtain ⟨v', b3, hrow, hne⟩ := hI.out
     have c3 := b3.cell (i := 0) rfl
     have c5 := hI.b5.cell (i := 0) rfl
     have HB := hI.hb
     have hb1 : (k : Int) ≤ 17179869184 := by have := HLT.out;omega
     have hb2 : ((y.val : Nat) : Int) < 64 := by have := y.2.1;omega
     have hw1 : wrap64 (64 * (k : Int)) = 64 * (k : Int) := by unfold wrap64;omega
     have hw2 : wrap64 (64 * (k : Int) + ((y.val : Nat) : Int)) = 64 * (k : Int) + ((y.val : Nat) : Int) := by unfold wrap64;omega
     have HLEN : Aside0 (((idxL s (64 * k)).length + pre.length + 1) * 8 ≤ 140737488355328) := ⟨by have := idxL_length s (64 * k);have := HLT.out;omega⟩
     have HW' := zA hI
     have HROW := zA hrow
     have HNE := zA hne
     clear hrow hne hI hlen
     gi_wp2_with (first
      | ((with_reducible refine gate_dstIn (N := 32) rfl ?_);refine ev_lit1In HB rfl rfl (.int .i64 (64 * (k : Int) + ((y.val : Nat) : Int))) 3 ?hr ?_;(case hr => first|(go_simp;done)|(go_simp;rfl));intro gl w11 G_gl B_gl HB11 K_gl KO11;have I11 := zA (HW'.out.below (m' := W3.heap.size) K_gl.out (zz2 HW'.out.sz K_gl.out.size));have b311 := b3.below K_gl.out;have R11 := zA (row_below HROW.out K_gl.out))
      | ((with_reducible refine gate_dstIn (N := 33) rfl ?_);refine ev_appendAtIn HB11 rfl _ _ 36 3 (.int .i64 0) 1 8 rfl Tryd.underlying36 (by kernel_rfl) rfl (by decide) (by decide) v' _ _ rfl R11.out gl [.int .i64 (64 * (k : Int) + ((y.val : Nat) : Int))] rfl B_gl rfl (by simp [Value.oneCell']) HLEN.out ?_;intro v1 w12 hrow12 HB12 K12 KO12 AT12 FV1;have R12 := zA hrow12;have V12 := zA (row_one hrow12);have b312 := b311.appended (by decide) R11.out K12;clear hrow12;obtain ⟨g', cap', rfl⟩ := FV1.out)
      | ((with_reducible refine gate_In (Op.store 36 (.tmp 3) (.tmp 33)) rfl ?_);refine ev_store1In (i := 0) HB12 b312 GE_g3 rfl 36 _ _ rfl rfl _ rfl (by simp) (by kernel_rfl) rfl ?_;intro w13 B13 HB13 K13 KO13))
     have E5 := I11.out.b5.appended_ne HNE.out K12
     have E6 := I11.out.b6.appended (by decide) R11.out K12
     have ER := I11.out.br.appended (by decide) R11.out K12
     have N0 : v'.ownBlock ≠ some 0 := own_ne_lt R11.out PW.out
     have H12 := heap_appended I11.out.ht.pos N0 K12
     have T12 := I11.out.ht.heap H12
     have O3 : 0 < g3 := by have := GE_g3.out;have := PW.out;omega
     have H13 := K13.out.2 0 (by omega)
     have H11 := K_gl.out.block 0 HW'.out.ht.pos
     have N5 := own_ne_appended AT12 HNE.out I11.out.b5.lt
     refine ⟨((keepsOthers_below K_gl.out).trans (KO12.out.trans KO13.out)).from _, ⟨(H13.trans H12).trans H11, (H13.trans H12).trans H11, zz2 K_gl.out.size (zz2 K12.out.1 K13.out.1)⟩, ⟨_, B13, ?_, N5⟩, E5.other K13 (E5.ne b312 (by decide)), E6.other K13 (E6.ne b312 (by decide)), ER.other K13 (ER.ne b312 (by decide)), T12.other O3 K13, (I11.out.mk_.others KO12.out).others KO13.out, HB13, zz2 I11.out.sz (zz2 K12.out.1 K13.out.1)⟩
     have R13 := row_other R12.out b312 (by decide) K13
     have e1 : (idxL s (64 * k)).length + (pre ++ [y]).length = (idxL s (64 * k)).length + pre.length + 1 := by
      rw [List.length_append, List.length_singleton]
      omega
     have e2 : (idxL s (64 * k) ++ (pre ++ [y]).map fun x => (64 * (k : Int) + ((x.val : Nat) : Int))).map (Value.int .i64) = (idxL s (64 * k) ++ pre.map fun x => (64 * (k : Int) + ((x.val : Nat) : Int))).map (Value.int .i64) ++ [.int .i64 (64 * (k : Int) + ((y.val : Nat) : Int))] := by
      rw [List.map_append, List.map_append, List.map_append, List.map_append, ← List.append_assoc]
      rfl
     rw [e1, e2]
     exact R13
    case done =>
     rintro D ys W' hD rfl hI hK'
     have HDn : D ∉ Ds := fun c => by have := HP.out.1 D c;omega
     have HM' := zA (hI.mk_.cons (zz2 HP.out.2 hD) hK' HDn)
     have hb1 : (k : Int) ≤ 17179869184 := by have := HLT.out;omega
     have hw1 : wrap64 ((k : Int) + 1) = (k : Int) + 1 := by unfold wrap64;omega
     have HI := zA hI
     have b6 := hI.b6
     clear hI hK' hD HDn
     gi_wp2_with (first
      | ((with_reducible refine gate_dstIn (N := 34) rfl ?_);refine ev_loadSIn b6 rfl 77 _ rfl rfl Tryd.underlying77 rfl (by kernel_rfl) ?_)
      | (gi_at_call 59;refine (callsIn_of HF (EN.out _)).mono ?_;rintro e w9 ⟨rfl, hb9⟩;have HK9 := zA hb9;clear hb9))
     have I9 := HI.out.below (m' := 0) HK9.out (Nat.zero_le _)
     obtain ⟨v', b3, hrow, _⟩ := I9.out
     have es := idxL_step s k
     have el := congrArg List.length es
     rw [List.length_append, List.length_map] at el
     rw [es, el] at hrow
     refine HKK.out (nw - (k + 1)) _ _ (by have := HLT.out;omega) ⟨k + 1, D :: Ds, _, E, _, _, _, _, _, _, _, _, _, _, _, _, _, _, _, _, _, _, _, _, _, _, _, _, _, _, _, _, _, rfl, by omega, by have := HLT.out;omega, rfl, ⟨fun hk1 => ?_⟩, ⟨v', b3, hrow⟩, ⟨fun _ => I9.br⟩, ⟨I9.ht⟩, ⟨HM'.out.below HK9.out⟩, I9.hb⟩
     rw [HE.out, car_next, if_pos]
     have := HNW.out
     unfold nwords at this
     omega
    case stop =>
     rintro D c pre W _ _ h _
     exact h.elim
   exact AllReadyL.nil
  exact AllReadyL.nil
 ·have EK : k = nw := by omega
  subst hz11
  have hq1 : decide (k < nw) = false := decide_eq_false (by omega)
  have HI := zA EK
  have HROW := zA hrow
  clear EK hlt hk hrow
  gi_wp2
  refine leaves_marks Ds W HM.out fun A hsw => ⟨_, results_tmp rfl _ _ _, v, rfl, ?_, hsw.below (Nat.le_refl _) HB.out⟩
  have e1 : idxL s (64 * k) = idxL s s.size := by
   rw [idxL_all s (64 * k) (by rw [HI.out, HNW.out];unfold nwords;omega), idxL_all s s.size (Nat.le_refl _)]
  rw [← e1]
  exact hsw.own HROW.out
end


section
open Go.Proofs.YtgddljealeklkaaDoorQ Go.Proofs.YtgddljealeklkaaDoorM Go.Shelf
attribute [local go_sem] Oper.semAt_some
theorem beq_ne {a b : Int} (h : a ≠ b) : (a == b) = false := by rw [beq_eq_false_iff_ne];exact h
theorem l_wrap {i : Nat} (h : i ≤ 1125899906842624) : IntKind.i64.wrap (i : Int) = (i : Int) := by rw [i64_w];unfold wrap64;omega
theorem l_pred {z : Int} (h0 : 0 ≤ z) (h1 : z ≤ 1125899906842624) : wrap64 (z - 1) = z - 1 := by unfold wrap64;omega
def WalkEnd (s : ByteArray) (X : List Nat) (J : Nat → World → Prop) (Jx : Nat → Nat → World → Prop) (w : World) (e : Ending) (w' : World) : Prop :=
 ∃ d : Nat, e = .returned (.int .i64 (d : Int)) ∧ Turned X w w' ∧ ((d = dep s s.size ∧ J (placesL s).length w') ∨ ∃ i p, (placesL s)[i]? = some p ∧ d = dep s p ∧ Jx i p w')
def Tells (P : Program) (s : ByteArray) (kf : Nat) (cap : Array Value) (X : List Nat) (B : Nat) (J : Nat → World → Prop) (Jx : Nat → Nat → World → Prop) : Prop :=
 ∀ (i p : Nat) (W : World), (placesL s)[i]? = some p → B ≤ W.heap.size → J i W → Calls P kf (#[.int .i64 (p : Int), .int .i64 ((dep s p : Nat) : Int)] ++ cap) W fun e W' =>
  ∃ b : Bool, e = .returned (.bool b) ∧ Turned X W W' ∧ (b = true → J (i + 1) W') ∧ (b = false → Jx i p W')
theorem Turned.trans' {X : List Nat} {A B C : World} (h : Turned X A B) (k : Turned X B C) : Turned X A C :=
 ⟨k.os.trans h.os, k.tape.trans h.tape, k.output.trans h.output, zz2 h.size k.size, fun i hi hn => (k.block i (Nat.lt_of_lt_of_le hi h.size) hn).trans (h.block i hi hn)⟩
set_option maxHeartbeats 8000000 in
set_option maxRecDepth 100000 in
theorem levels_walk.walk (s : ByteArray) (hs : s.size ≤ 1048576) (w : World) (hT : TabOk w) (kf : Nat) (cap : Array Value) (X : List Nat) (J : Nat → World → Prop) (Jx : Nat → Nat → World → Prop)
    (eg : ∀ args w, (callFunc kf args).run Tryd.prog w = .ok (.enter kf args) w) (hX : ∀ k ∈ X, k < w.heap.size) (hJb : ∀ W W', J 0 W → Below W.heap.size W W' → J 0 W') (hJ : Tells Tryd.prog s kf cap X w.heap.size J Jx) (h0 : J 0 w) :
    Calls Tryd.prog 64 #[.string s, .func (.func kf) #[] cap] w (WalkEnd s X J Jx w) := by
  obtain ⟨F, hF⟩ : ∃ F, F = Fence.wide := ⟨_, rfl⟩
  have HF := zA hF
  refine (callsIn_wide (n := 9)).1 ?_
  rw [← hF]
  clear hF
  have hro := wide_round HF
  have HB := BelowH.refl w
  have f1 := wide_fn HF 26
  have f2 := wide_fn HF kf
  have HT := zA hT
  have HS := zA hs
  have HX := zA hX
  have HJB := zA hJb
  have HJ := zA hJ
  have H0 := zA h0
  have HLL : Aside0 ((placesL s).length ≤ 1048576) := ⟨by have := places_le s;omega⟩
  have IX : Aside0 (∀ W, TabOk W → Calls Tryd.prog 26 #[.string s] W fun e w' => ∃ v, e = .returned v ∧ w'.ownsRow W.heap.size 3 1 v (placesL s).length ((placesL s).map fun p => Value.int .i64 ((p : Nat) : Int)) ∧ Below W.heap.size W w') := ⟨fun W h => by
    have := marks_Index.walk s W h (by omega)
    rw [places_idx, List.length_map, List.map_map] at this
    exact this⟩
  clear hT hs hX hJb hJ h0
  refine callsIn_of_wp Tryd.func64 rfl (wide_fn HF _) ?_ (wide_round HF)
  simp only [Tryd.ntmps64, List.size_toArray, List.length_cons, List.length_nil, Nat.reduceAdd, Nat.reduceSub, Array.replicate_succ, Array.replicate_zero, List.push_toArray, List.append_toArray, List.nil_append, List.cons_append]
  gi_wp2_with (first
    | (gi_at_call 26;refine (callsIn_of HF (IX.out _ HT.out)).mono ?_;rintro e w4 ⟨v, rfl, hrow, hb⟩;have HR4 := zA hrow;have HB4 := HB.step hb;have HK4 := zA hb;obtain ⟨ad, cp, rfl⟩ := own_slice hrow;clear hrow hb))
  obtain ⟨gl, cur, HO⟩ : ∃ gl cur, Aside0 (((placesL s).length = 0) ∨ (ad = some ⟨gl, 0, none⟩ ∧ w.heap.size ≤ gl ∧ Blk w4 gl cur 3 ∧ ∀ (i : Nat) (p : Nat), (placesL s)[i]? = some p → cur[i]? = some (.int .i64 ((p : Nat) : Int)))) := by
    rcases row_openN HR4.out with ⟨h1, h2⟩ | ⟨gl, cap', cur, h1, h2, h3, h4⟩
    · exact ⟨0, #[], ⟨.inl h2⟩⟩
    · injection h1 with h1
      exact ⟨gl, cur, ⟨.inr ⟨h1, h2, h3, fun i p hi => h4 i _ (by rw [List.getElem?_map, hi];rfl)⟩⟩⟩
  have HGET : Aside0 ((placesL s).length ≠ 0 → ad = some ⟨gl, 0, none⟩ ∧ gl ∉ X ∧ ∀ (i : Nat) (p : Nat), (placesL s)[i]? = some p → cur[i]? = some (.int .i64 ((p : Nat) : Int))) := ⟨fun h0 => by
    rcases HO.out with h | ⟨h1, h2, _, h3⟩
    · exact absurd h h0
    · exact ⟨h1, fun c => by have := HX.out gl c;omega, h3⟩⟩
  have I4 : Aside0 (J 0 w4 ∧ Turned X w w4 ∧ ((placesL s).length ≠ 0 → Blk w4 gl cur 3)) := ⟨HJB.out _ _ H0.out HK4.out, Turned.of_below HK4.out, fun h0 => by
    rcases HO.out with h | ⟨_, _, h2, _⟩
    · exact absurd h h0
    · exact h2⟩
  clear HO HR4 HK4 IX HT HB HB4 H0 HJB HX
  refine wpIn_loopM (fun m a W => ∃ (i : Nat) (dz z : Int) (y2 y3 y4 y6 y7 y8 y12 y13 y14 y15 y16 y17 y18 y19 y20 y21 y22 y23 y24 y25 y26 y27 y28 y29 y30 y31 y32 y33 y34 y35 : Value), m = (placesL s).length - i ∧ z = (i : Int) ∧ i ≤ (placesL s).length ∧ a = { tmps := #[.string s, .func (.func kf) #[] cap, y2, y3, y4, .int .i64 dz, y6, y7, y8, .slice ad (placesL s).length cp, .int .i64 ((placesL s).length : Int), .int .i64 z, y12, y13, y14, y15, y16, y17, y18, y19, y20, y21, y22, y23, y24, y25, y26, y27, y28, y29, y30, y31, y32, y33, y34, y35], defers := [] } ∧
    Aside0 (dz = ((dep s (nextP s i) : Nat) : Int)) ∧ Aside0 (J i W ∧ Turned X w W ∧ ((placesL s).length ≠ 0 → Blk W gl cur 3))) (placesL s).length
    ⟨0, 0, 0, _, _, _, _, _, _, _, _, _, _, _, _, _, _, _, _, _, _, _, _, _, _, _, _, _, _, _, _, _, _, rfl, rfl, Nat.zero_le _, rfl, ⟨by rw [dep_zero];rfl⟩, I4⟩ ?_
  clear I4
  rintro m a W ⟨i, dz, z, y2, y3, y4, y6, y7, y8, y12, y13, y14, y15, y16, y17, y18, y19, y20, y21, y22, y23, y24, y25, y26, y27, y28, y29, y30, y31, y32, y33, y34, y35, rfl, hz, hi, rfl, HD, HI⟩ K hK
  have HKK := zA hK
  clear hK
  by_cases hlt : i < (placesL s).length
  · obtain ⟨rfl, hgx, hcur⟩ := HGET.out (by omega)
    obtain ⟨p, hp⟩ : ∃ p, (placesL s)[i]? = some p := ⟨_, List.getElem?_eq_getElem hlt⟩
    obtain ⟨hpn, hbeg, hpe, hpm, hpz, _⟩ := place_at hp
    have HDN : Aside0 (dep s (nextP s (i + 1)) = _) := ⟨dep_next hp⟩
    have hdl := dep_le s p
    have hdzp := HD.out
    rw [← hpe] at hdzp
    have HCALL : Aside0 (Calls Tryd.prog kf (#[.int .i64 (p : Int), .int .i64 ((dep s p : Nat) : Int)] ++ cap) W fun e W' =>
      ∃ b : Bool, e = .returned (.bool b) ∧ Turned X W W' ∧ (b = true → J (i + 1) W') ∧ (b = false → Jx i p W')) := ⟨HJ.out i p W hp HI.out.2.1.size HI.out.1⟩
    have cl : W.cell? ⟨gl, i, none⟩ = some (.int .i64 ((p : Nat) : Int)) := (HI.out.2.2 (by omega)).cell (hcur i p hp)
    obtain ⟨c, hc⟩ : ∃ c, c = bt s (p : Int) := ⟨_, rfl⟩
    have hbyte : ∀ h : p < s.size, ((s[p]'h).toNat : Int) = c := fun h => by
      rw [hc]
      unfold bt
      rw [Int.toNat_natCast, dif_pos h]
    have hs8 := HS.out
    have hl8 := HLL.out
    rw [← hc] at HDN
    have hpB : p ≤ 1125899906842624 := by omega
    have hiB : i ≤ 1125899906842624 := by omega
    have hpB2 : ((p : Nat) : Int) ≤ 17179869184 := by omega
    have hiB2 : (i : Int) ≤ 17179869184 := by omega
    have hdB : 0 ≤ dz ∧ dz ≤ 17179869184 := by omega
    have hdB2 : dz ≤ 1125899906842624 := by omega
    have hq1 : (i : Int) < ((placesL s).length : Int) := by omega
    have hq2 : (0 : Int) ≤ (i : Int) := by omega
    have hp0 : (0 : Int) ≤ ((p : Nat) : Int) := by omega
    have hp1 : ((p : Nat) : Int) < (s.size : Int) := by omega
    have hq3 : wrap64 ((i : Int) + 1) = (i : Int) + 1 := wrap_succ hiB2 hq2
    have hq5 : IntKind.i64.wrap (i : Int) = (i : Int) := l_wrap hiB
    have hq7 : IntKind.i64.wrap ((p : Nat) : Int) = ((p : Nat) : Int) := l_wrap hpB
    have hq8 : wrap64 (dz + 1) = dz + 1 := wrap_succ hdB.2 hdB.1
    have hq9 : wrap64 (dz - 1) = dz - 1 := l_pred hdB.1 hdB2
    have HLT := zA hlt
    have HPN := zA (And.intro hp (And.intro hpn hbeg))
    have HDZ := zA hdzp
    have HDL := zA hdl
    have HC := zA hc
    have HGX := zA hgx
    have hdzp2 : Aside0 (((dep s p : Nat) : Int) = dz) := ⟨hdzp.symm⟩
    rw [hdzp2.out] at HCALL
    subst hz
    clear hp hpn hbeg hcur hc hs8 hl8 hlt hi hpB hiB hpB2 hiB2 hdB hdB2 hpe hpm hpz hdl hdzp hgx hdzp2
    have HW : Aside0 (Turned X w W ∧ ((placesL s).length ≠ 0 → Blk W gl cur 3)) := ⟨HI.out.2⟩
    clear HI HJ
    by_cases c1 : c = 123
    · subst c1
      have HN : Aside0 (((dep s (nextP s (i + 1)) : Nat) : Int) = dz + 1) := ⟨by rw [HDN.out, if_pos (by decide), HDZ.out];omega⟩
      clear HDN
      gi_wp2_with (first|(refine (callsIn_of HF HCALL.out).mono ?_;rintro e W4 ⟨b, rfl, hturn, hb1, hb2⟩;have HB1 := zA hb1;have HB2 := zA hb2;have HTU := zA hturn;clear hb1 hb2 hturn;cases b))
      all_goals first
        | (refine bodyPost_ret (results_tmp rfl _ _ _) rfl ?_
           refine ⟨dep s p, ?_, Turned.trans' HW.out.1 HTU.out, .inr ⟨i, p, HPN.out.1, rfl, HB2.out (by simp)⟩⟩
           rw [← HDZ.out]
           rfl)
        | exact HKK.out ((placesL s).length - (i + 1)) _ _ (by have := HLT.out;omega) ⟨i + 1, _, _, _, _, _, _, _, _, _, _, _, _, _, _, _, _, _, _, _, _, _, _, _, _, _, _, _, _, _, _, _, _, rfl, by omega, by have := HLT.out;omega, rfl, ⟨by first|exact HN.out.symm|(rw [hq8];exact HN.out.symm)|(have h_ := HN.out;omega)⟩, ⟨HB1.out (by simp), Turned.trans' HW.out.1 HTU.out, fun h => (HW.out.2 h).turned HTU.out HGX.out⟩⟩
    have t1 : (c == 123) = false := beq_ne c1
    clear c1
    by_cases c2 : c = 91
    · subst c2
      have HN : Aside0 (((dep s (nextP s (i + 1)) : Nat) : Int) = dz + 1) := ⟨by rw [HDN.out, if_pos (by decide), HDZ.out];omega⟩
      clear HDN
      gi_wp2_with (first|(refine (callsIn_of HF HCALL.out).mono ?_;rintro e W4 ⟨b, rfl, hturn, hb1, hb2⟩;have HB1 := zA hb1;have HB2 := zA hb2;have HTU := zA hturn;clear hb1 hb2 hturn;cases b))
      all_goals first
        | (refine bodyPost_ret (results_tmp rfl _ _ _) rfl ?_
           refine ⟨dep s p, ?_, Turned.trans' HW.out.1 HTU.out, .inr ⟨i, p, HPN.out.1, rfl, HB2.out (by simp)⟩⟩
           rw [← HDZ.out]
           rfl)
        | exact HKK.out ((placesL s).length - (i + 1)) _ _ (by have := HLT.out;omega) ⟨i + 1, _, _, _, _, _, _, _, _, _, _, _, _, _, _, _, _, _, _, _, _, _, _, _, _, _, _, _, _, _, _, _, _, rfl, by omega, by have := HLT.out;omega, rfl, ⟨by first|exact HN.out.symm|(rw [hq8];exact HN.out.symm)|(have h_ := HN.out;omega)⟩, ⟨HB1.out (by simp), Turned.trans' HW.out.1 HTU.out, fun h => (HW.out.2 h).turned HTU.out HGX.out⟩⟩
    have t2 : (c == 91) = false := beq_ne c2
    clear c2
    by_cases c3 : c = 125
    · subst c3
      have HN : Aside0 (((dep s (nextP s (i + 1)) : Nat) : Int) = max (dz - 1) 0) := ⟨by rw [HDN.out, if_neg (by decide), if_pos (by decide), HDZ.out];omega⟩
      clear HDN
      gi_wp2_with (first|(refine (callsIn_of HF HCALL.out).mono ?_;rintro e W4 ⟨b, rfl, hturn, hb1, hb2⟩;have HB1 := zA hb1;have HB2 := zA hb2;have HTU := zA hturn;clear hb1 hb2 hturn;cases b))
      all_goals first
        | (refine bodyPost_ret (results_tmp rfl _ _ _) rfl ?_
           refine ⟨dep s p, ?_, Turned.trans' HW.out.1 HTU.out, .inr ⟨i, p, HPN.out.1, rfl, HB2.out (by simp)⟩⟩
           rw [← HDZ.out]
           rfl)
        | exact HKK.out ((placesL s).length - (i + 1)) _ _ (by have := HLT.out;omega) ⟨i + 1, _, _, _, _, _, _, _, _, _, _, _, _, _, _, _, _, _, _, _, _, _, _, _, _, _, _, _, _, _, _, _, _, rfl, by omega, by have := HLT.out;omega, rfl, ⟨by first|exact HN.out.symm|(rw [hq8];exact HN.out.symm)|(have h_ := HN.out;omega)⟩, ⟨HB1.out (by simp), Turned.trans' HW.out.1 HTU.out, fun h => (HW.out.2 h).turned HTU.out HGX.out⟩⟩
    have t3 : (c == 125) = false := beq_ne c3
    clear c3
    by_cases c4 : c = 93
    · subst c4
      have HN : Aside0 (((dep s (nextP s (i + 1)) : Nat) : Int) = max (dz - 1) 0) := ⟨by rw [HDN.out, if_neg (by decide), if_pos (by decide), HDZ.out];omega⟩
      clear HDN
      gi_wp2_with (first|(refine (callsIn_of HF HCALL.out).mono ?_;rintro e W4 ⟨b, rfl, hturn, hb1, hb2⟩;have HB1 := zA hb1;have HB2 := zA hb2;have HTU := zA hturn;clear hb1 hb2 hturn;cases b))
      all_goals first
        | (refine bodyPost_ret (results_tmp rfl _ _ _) rfl ?_
           refine ⟨dep s p, ?_, Turned.trans' HW.out.1 HTU.out, .inr ⟨i, p, HPN.out.1, rfl, HB2.out (by simp)⟩⟩
           rw [← HDZ.out]
           rfl)
        | exact HKK.out ((placesL s).length - (i + 1)) _ _ (by have := HLT.out;omega) ⟨i + 1, _, _, _, _, _, _, _, _, _, _, _, _, _, _, _, _, _, _, _, _, _, _, _, _, _, _, _, _, _, _, _, _, rfl, by omega, by have := HLT.out;omega, rfl, ⟨by first|exact HN.out.symm|(rw [hq8];exact HN.out.symm)|(have h_ := HN.out;omega)⟩, ⟨HB1.out (by simp), Turned.trans' HW.out.1 HTU.out, fun h => (HW.out.2 h).turned HTU.out HGX.out⟩⟩
    have t4 : (c == 93) = false := beq_ne c4
    clear c4
    have HN : Aside0 (((dep s (nextP s (i + 1)) : Nat) : Int) = dz) := ⟨by
      have e1 : opensB c = false := by unfold opensB;rw [t1, t2];rfl
      have e2 : closesB c = false := by unfold closesB;rw [t3, t4];rfl
      rw [HDN.out, e1, e2, if_neg (by decide), if_neg (by decide), HDZ.out]⟩
    clear HDN
    gi_wp2_with (first|(refine (callsIn_of HF HCALL.out).mono ?_;rintro e W4 ⟨b, rfl, hturn, hb1, hb2⟩;have HB1 := zA hb1;have HB2 := zA hb2;have HTU := zA hturn;clear hb1 hb2 hturn;cases b))
    all_goals first
      | (refine bodyPost_ret (results_tmp rfl _ _ _) rfl ?_
         refine ⟨dep s p, ?_, Turned.trans' HW.out.1 HTU.out, .inr ⟨i, p, HPN.out.1, rfl, HB2.out (by simp)⟩⟩
         rw [← HDZ.out]
         rfl)
      | exact HKK.out ((placesL s).length - (i + 1)) _ _ (by have := HLT.out;omega) ⟨i + 1, _, _, _, _, _, _, _, _, _, _, _, _, _, _, _, _, _, _, _, _, _, _, _, _, _, _, _, _, _, _, _, _, rfl, by omega, by have := HLT.out;omega, rfl, ⟨by first|exact HN.out.symm|(rw [hq8];exact HN.out.symm)|(have h_ := HN.out;omega)⟩, ⟨HB1.out (by simp), Turned.trans' HW.out.1 HTU.out, fun h => (HW.out.2 h).turned HTU.out HGX.out⟩⟩
  · have EI : i = (placesL s).length := by omega
    have hq1 : decide ((i : Int) < ((placesL s).length : Int)) = false := decide_eq_false (by omega)
    have hq2 : decide (i < (placesL s).length) = false := decide_eq_false (by omega)
    have HE := zA EI
    subst hz
    clear hlt hi EI
    gi_wp2
    refine bodyPost_ret (results_tmp rfl _ _ _) rfl ?_
    refine ⟨dep s s.size, ?_, HI.out.2.1, .inl ⟨rfl, ?_⟩⟩
    · rw [← next_end (s := s) (i := i) (by have := HE.out;omega), ← HD.out]
      rfl
    · have := HI.out.1
      rw [HE.out] at this
      exact this
end


section
open Go.Proofs.YtgddljealeklkaaDoorQ Go.Proofs.YtgddljealeklkaaDoorM
theorem S_inner {W : World} {base : Nat} {ok : Nat → Prop} {v : Value} {rows : List S34} (h : Kd.S k34 34 W base ok v rows) {i j : Nat} {r : S34} (hi : rows[i]? = some r) {x : Int} (hj : r.f1[j]? = some x) :
  ∃ g cap cur gi capi curi, v = .slice (some ⟨g, 0, none⟩) rows.length cap ∧ Blk W g cur 34 ∧ cur[i * 2 + 1]? = some (.slice (some ⟨gi, 0, none⟩) r.f1.length capi) ∧ Blk W gi curi 75 ∧ curi[j]? = some (.int .u64 x) ∧ base ≤ gi ∧ ok gi ∧ g ≠ gi ∧
   ∀ (y : Int) (W' : World), Blk W' gi (curi.setIfInBounds j (.int .u64 y)) 75 → W.grownBy W' (some gi) → Kd.S k34 34 W' base ok v (rows.set i ⟨r.f0, r.f1.set j y⟩) := by
 obtain ⟨f, h0, inner, ho, hr⟩ := h
 have ho : W.ownsRow base 34 2 v rows.length inner := by
  have := ho
  rw [List.length_zipIdx] at this
  exact this
 have hz : ∀ k (p : S34), rows[k]? = some p → rows.zipIdx[k]? = some (p, k) := fun k p hp => by rw [List.getElem?_zipIdx, hp, Nat.zero_add];rfl
 have hlz : rows.zipIdx.length = rows.length := List.length_zipIdx ..
 have hil : i < rows.length := (List.getElem?_eq_some_iff.1 hi).1
 obtain ⟨c0, cc, hcs, hc0, vi, hcc, hR⟩ := hr.2 i (r, i) (hz i r hi)
 have hc0 : c0 = [.int .i64 r.f0] := hc0
 have hR : (Kd.int .u64).R 75 W base _ vi r.f1 := hR
 obtain ⟨_, hv⟩ := row_open (Kd.own_of_R hR)
 have hjl : j < r.f1.length := (List.getElem?_eq_some_iff.1 hj).1
 rcases row_openN ho with ⟨_, h2⟩ | ⟨g, cap, cur, rfl, hbg, BG, hget⟩
 ·omega
 rcases hv with ⟨_, h2⟩ | ⟨gi, capi, curi, rfl, hbi, BI, q1, q2, q3, HA⟩
 ·omega
 have hoki := hR.1 gi rfl
 have hne : g ≠ gi := fun e => hoki.1.2 (by rw [e];rfl)
 have hlen : inner.length = rows.length * 2 := by rw [hr.1, hlz];rfl
 refine ⟨g, cap, cur, gi, capi, curi, rfl, BG, hget _ _ ?_, BI, HA.get (by simp [encs, hj]), hbi, hoki.1.1, hne, fun y W' B' hg => ?_⟩
 ·have e1 : ((inner.drop (i * 2)).take 2)[1]? = some (.slice (some ⟨gi, 0, none⟩) r.f1.length capi) := by
   have : (inner.drop (i * 2)).take 2 = c0 ++ cc := hcs
   rw [this, hc0, hcc]
   rfl
  rw [List.getElem?_take, if_pos (by decide), List.getElem?_drop] at e1
  exact e1
 ·have hsame : ∀ k, k < W.heap.size → k ≠ gi → W'.heap[k]? = W.heap[k]? := fun k hk hn => hg.block k hk (fun e => hn (Option.some.inj e))
  refine ⟨f, h0, inner, ?_, ?_, ?_⟩
  ·rw [show (rows.set i ⟨r.f0, r.f1.set j y⟩).zipIdx.length = rows.length by simp]
   exact own_move ho fun k hk => hsame k (World.ownsRow.lt ho k hk).2 (fun e => by
    have : g = k := Option.some.inj hk
    exact hne (this.trans e))
  ·rw [show (rows.set i ⟨r.f0, r.f1.set j y⟩).zipIdx.length = rows.zipIdx.length by simp]
   exact hr.1
  ·intro k p hp
   rw [List.getElem?_zipIdx, Nat.zero_add] at hp
   obtain ⟨p', hp', rfl⟩ := Option.map_eq_some_iff.1 hp
   by_cases e : i = k
   ·subst e
    rw [List.getElem?_set_self hil] at hp'
    injection hp' with hp'
    subst hp'
    refine ⟨c0, cc, hcs, hc0, .slice (some ⟨gi, 0, none⟩) r.f1.length capi, hcc, ?_⟩
    have hrow : W'.ownsRow base 75 1 (.slice (some ⟨gi, 0, none⟩) r.f1.length capi) r.f1.length (encs (Value.int .u64) (r.f1.set j y)) := by
     refine row_shut hbi B' q1 q2 (by rw [Array.size_setIfInBounds];exact q3) (by simp [encs]) ?_
     have := HA.set j (.int .u64 y)
     unfold encs at this ⊢
     rw [List.map_set]
     exact this
    have e3 : (r.f1.set j y).length = r.f1.length := List.length_set ..
    have hrow2 : W'.ownsRow base 75 1 (.slice (some ⟨gi, 0, none⟩) r.f1.length capi) (r.f1.set j y).length (encs (Value.int .u64) (r.f1.set j y)) := by rw [e3];exact hrow
    exact Kd.R_of_own hrow2 (fun k hk => hR.1 k hk)
   ·rw [List.getElem?_set_ne e] at hp'
    have hM : k34.M W base (fun b => (ok b ∧ some b ≠ (Value.slice (some ⟨g, 0, none⟩) rows.length cap).ownBlock) ∧ f b = k) p' _ := hr.2 k (p', k) (hz k p' hp')
    exact k34.M_mono (fun _ hk => hk.1) (k34.M_move (fun b hb' => hsame b hb'.2.2.1 (fun e2 => e (by
     have h5 := hb'.1.2
     rw [e2, hoki.2] at h5
     exact h5))) (k34.M_bound hM))
def rowsB (s : ByteArray) (b : Int) (most lim : Nat) : List S34 := (List.range most).map fun k => ⟨(s.size : Int), colW s b lim k⟩
theorem rowsB_at (s : ByteArray) (b : Int) (most lim k : Nat) (h : k < most) : (rowsB s b most lim)[k]? = some ⟨(s.size : Int), colW s b lim k⟩ := by
 unfold rowsB
 rw [List.getElem?_map, List.getElem?_range h]
 rfl
theorem rowsB_put {s : ByteArray} {i p : Nat} (h : (placesL s)[i]? = some p) (b : Int) (hb : b = 58 ∨ b = 44) (hc : bt s (p : Int) = b) (most : Nat) (h1 : 1 ≤ dep s p) (h2 : dep s p ≤ most) :
  (rowsB s b most (nextP s i)).set (dep s p - 1) ⟨(s.size : Int), (colW s b (nextP s i) (dep s p - 1)).set (p / 64) (Go.bits .or .u64 ((colW s b (nextP s i) (dep s p - 1)).getD (p / 64) 0) (shl .u64 1 ((p % 64 : Nat) : Int)))⟩ = rowsB s b most (nextP s (i + 1)) := by
 have hbg := (place_at h).2.1
 apply List.ext_getElem?
 intro k
 by_cases e : dep s p - 1 = k
 ·subst e
  rw [List.getElem?_set_self (by unfold rowsB;rw [List.length_map, List.length_range];omega), rowsB_at _ _ _ _ _ (by omega)]
  rw [colW_put h b (dep s p - 1) (by rw [colq_beg hbg b hb, zz1 hc, zz1 (by omega)];rfl)]
 ·rw [List.getElem?_set_ne e]
  by_cases hk : k < most
  ·rw [rowsB_at _ _ _ _ _ hk, rowsB_at _ _ _ _ _ hk, colW_keep h b k (by rw [colq_beg hbg b hb, decide_eq_false (show ¬ dep s p = k + 1 by omega), Bool.and_false])]
  ·unfold rowsB
   rw [List.getElem?_eq_none (by simp;omega), List.getElem?_eq_none (by simp;omega)]
theorem rowsB_keep {s : ByteArray} {i p : Nat} (h : (placesL s)[i]? = some p) (b : Int) (hb : b = 58 ∨ b = 44) (most : Nat) (hc : bt s (p : Int) ≠ b ∨ dep s p < 1 ∨ most < dep s p) : rowsB s b most (nextP s (i + 1)) = rowsB s b most (nextP s i) := by
 have hbg := (place_at h).2.1
 unfold rowsB
 refine List.map_congr_left fun k hk => ?_
 have hk := List.mem_range.1 hk
 rw [colW_keep h b k (by
  rw [colq_beg hbg b hb]
  rcases hc with hc|hc|hc
  ·rw [decide_eq_false hc, Bool.false_and]
  ·rw [decide_eq_false (show ¬ dep s p = k + 1 by omega), Bool.and_false]
  ·rw [decide_eq_false (show ¬ dep s p = k + 1 by omega), Bool.and_false])]
structure BuI (s : ByteArray) (most gm gs gl : Nat) (va vb : Value) (base : Nat) (X : List Nat) (okA okB : Nat → Prop) (lim : Nat) (W : World) : Prop where mk ::
 bm : Blk W gm #[.int .i64 (most : Int)] 3
 bs : Blk W gs #[.string s] 9
 bl : Blk W gl #[va, vb] 48
 ra : Kd.S k34 34 W base okA va (rowsB s 58 most lim)
 rb : Kd.S k34 34 W base okB vb (rowsB s 44 most lim)
 dis : ∀ k, okA k → okB k → False
 oa : ∀ k, okA k → k ∈ X
 ob : ∀ k, okB k → k ∈ X
theorem BuI.below {s : ByteArray} {most gm gs gl : Nat} {va vb : Value} {base : Nat} {X : List Nat} {okA okB : Nat → Prop} {lim : Nat} {W W' : World} (h : BuI s most gm gs gl va vb base X okA okB lim W) (hb : Below W.heap.size W W') : BuI s most gm gs gl va vb base X okA okB lim W' :=
 ⟨h.bm.below hb, h.bs.below hb, h.bl.below hb, yy10 h.ra hb, yy10 h.rb hb, h.dis, h.oa, h.ob⟩
theorem turned_grown {X : List Nat} {W W' : World} {gi : Nat} (hX : gi ∈ X) (hg : W.grownBy W' (some gi)) : Turned X W W' :=
 ⟨hg.os, hg.tape, hg.output, hg.size, fun k hk hn => hg.block k hk (fun e => hn (by rw [Option.some.inj e];exact hX))⟩
theorem blk_grown {W W' : World} {g gi : Nat} {cs : Array Value} {t : Nat} (h : Blk W g cs t) (hne : g ≠ gi) (hg : W.grownBy W' (some gi)) : Blk W' g cs t := ⟨(hg.block g h.lt (fun e => hne (Option.some.inj e))).trans h.out⟩
theorem shl_two (z : Int) (h : z.toNat ≤ 64) : shl .u64 1 z = IntKind.u64.wrap (2 ^ z.toNat) := by
 have e : min z.toNat IntKind.u64.bits = z.toNat := Nat.min_eq_left h
 unfold shl
 rw [e, Int.one_mul]
theorem bu_dep {d k m : Nat} (h : d = k + 1) (h2 : k < m) : 1 ≤ d ∧ d ≤ m ∧ d - 1 = k := by omega
theorem bu_div (p n : Nat) (h : p < n) (hn : n ≤ 1048576) : ∃ (pq nw : Nat) (pr : Int), Aside0 (pq = p / 64 ∧ pr = ((p % 64 : Nat) : Int) ∧ nw = nwords n ∧ pq < nw) ∧ Int.tdiv (p : Int) 64 = (pq : Int) ∧ (p : Int) / 64 = (pq : Int) ∧ Int.tmod (p : Int) 64 = pr ∧ (p : Int) % 64 = pr ∧
  wrap64 (pq : Int) = (pq : Int) ∧ IntKind.i64.wrap (pq : Int) = (pq : Int) ∧ wrap64 pr = pr ∧ IntKind.i64.wrap pr = pr ∧ 0 ≤ pr ∧ (0 : Int) ≤ (pq : Int) ∧ (pq : Int) < (nw : Int) ∧ pq < nw := by
 have w1 : ∀ z : Nat, z ≤ 1048576 → wrap64 (z : Int) = (z : Int) := fun z hz => by unfold wrap64;omega
 have hq : p / 64 ≤ 1048576 := by omega
 have hr : p % 64 ≤ 1048576 := by omega
 have hlt : p / 64 < nwords n := by unfold nwords;omega
 exact ⟨p / 64, nwords n, ((p % 64 : Nat) : Int), ⟨rfl, rfl, rfl, hlt⟩, rfl, rfl, rfl, rfl, w1 _ hq, by rw [i64_w];exact w1 _ hq, w1 _ hr, by rw [i64_w];exact w1 _ hr, Int.natCast_nonneg _, Int.natCast_nonneg _, Int.ofNat_lt.2 hlt, hlt⟩
def BuTold (s : ByteArray) (most gm gs gl : Nat) (va vb : Value) (base : Nat) (okA okB : Nat → Prop) (X : List Nat) (i : Nat) (w : World) (e : Ending) (w' : World) : Prop :=
 e = .returned (.bool true) ∧ Turned X w w' ∧ BuI s most gm gs gl va vb base X okA okB (nextP s (i + 1)) w'
set_option maxHeartbeats 8000000 in
set_option maxRecDepth 100000 in
theorem levels_Build_1.calls (s : ByteArray) (hs : s.size ≤ 1048576) (most : Nat) (hm : 1 ≤ most ∧ most ≤ 64) (gm gs gl : Nat) (va vb : Value) (base : Nat) (okA okB : Nat → Prop) (X : List Nat) (i p : Nat) (hp : (placesL s)[i]? = some p) (w : World) (I : BuI s most gm gs gl va vb base X okA okB (nextP s i) w) :
  Calls Tryd.prog 65 #[.int .i64 (p : Int), .int .i64 ((dep s p : Nat) : Int), .pointer (some ⟨gm, 0, none⟩), .pointer (some ⟨gs, 0, none⟩), .pointer (some ⟨gl, 0, none⟩)] w (BuTold s most gm gs gl va vb base okA okB X i w) := by
 have HI := zA I
 have HP := zA hp
 have HM := zA hm
 have HSZ := zA hs
 obtain ⟨hpn, hbg, hpe, hrest⟩ := place_at hp
 clear hrest
 have hdl := dep_le s p
 have cm : w.cell? ⟨gm, 0, none⟩ = some (.int .i64 (most : Int)) := I.bm.cell (i := 0) rfl
 have cs : w.cell? ⟨gs, 0, none⟩ = some (.string s) := I.bs.cell (i := 0) rfl
 obtain ⟨d, hd⟩ : ∃ d : Int, d = ((dep s p : Nat) : Int) := ⟨_, rfl⟩
 rw [← hd]
 have HD := zA hd
 have hp0 : (0 : Int) ≤ (p : Int) := by omega
 have hp1 : (p : Int) < (s.size : Int) := by omega
 have keepAll : (d < 1 ∨ (most : Int) < d) → BuI s most gm gs gl va vb base X okA okB (nextP s (i + 1)) w := fun h => by
  have e1 := rowsB_keep hp 58 (.inl rfl) most (.inr (by omega))
  have e2 := rowsB_keep hp 44 (.inr rfl) most (.inr (by omega))
  exact ⟨I.bm, I.bs, I.bl, by rw [e1];exact I.ra, by rw [e2];exact I.rb, I.dis, I.oa, I.ob⟩
 by_cases h1 : d < 1
 ·have q1 : decide (d < 1) = true := zz1 h1
  have HK := zA (keepAll (.inl h1))
  clear keepAll h1 hd hdl I hp hm hs hpn hbg hpe
  go_enter Tryd.func65, Tryd.ntmps65
  go_wp2
  go_ret
  exact ⟨rfl, Turned.of_below (Below.refl _ _), HK.out⟩
 by_cases h2 : (most : Int) < d
 ·have q1 : decide (d < 1) = false := decide_eq_false h1
  have q2 : decide ((most : Int) < d) = true := zz1 h2
  have q3 : (most : Int) < d := h2
  have HK := zA (keepAll (.inr h2))
  clear keepAll h1 h2 hd hdl I hp hm hs hpn hbg hpe
  go_enter Tryd.func65, Tryd.ntmps65
  go_wp2
  go_ret
  exact ⟨rfl, Turned.of_below (Below.refl _ _), HK.out⟩
 have q1 : decide (d < 1) = false := decide_eq_false h1
 have q2 : decide ((most : Int) < d) = false := decide_eq_false h2
 have qa : 1 ≤ d := by omega
 have qb : d ≤ (most : Int) := by omega
 obtain ⟨c, hc⟩ : ∃ c, c = bt s (p : Int) := ⟨_, rfl⟩
 have hbyte : ∀ h : p < s.size, ((s[p]'h).toNat : Int) = c := fun h => by
  rw [hc]
  unfold bt
  rw [Int.toNat_natCast, dif_pos h]
 have HC := zA hc
 obtain ⟨k, hk⟩ : ∃ k : Nat, k = dep s p - 1 := ⟨_, rfl⟩
 have HKD := zA (show dep s p = k + 1 ∧ k < most by omega)
 have hk1 : wrap64 (d - 1) = (k : Int) := by unfold wrap64;omega
 have hk2 : IntKind.i64.wrap (d - 1) = (k : Int) := by rw [i64_w];exact hk1
 obtain ⟨pq, nw, pr, HPN, hd1, hd2, hr1, hr2, hd3, hd4, hr3, hr4, hr5, g4, g5, g6⟩ := bu_div p s.size hpn hs
 obtain ⟨sv, hsv⟩ : ∃ sv : Int, sv = IntKind.u64.wrap (2 ^ pr.toNat) := ⟨_, rfl⟩
 have HSV : Aside0 (sv = shl .u64 1 pr) := ⟨by rw [hsv, shl_two pr (by rw [HPN.out.2.1, Int.toNat_natCast];exact Nat.le_of_lt (Nat.mod_lt _ (by decide)))]⟩
 have hsv2 : IntKind.u64.wrap (2 ^ pr.toNat) = sv := hsv.symm
 have g1 : (0 : Int) ≤ (k : Int) := Int.natCast_nonneg k
 have g3 : k < most := HKD.out.2
 have g2 : (k : Int) < (most : Int) := Int.ofNat_lt.2 g3
 clear keepAll h1 h2 hd hdl hp hm hs hpn hbg hpe hc hk hsv
 by_cases c1 : c = 58
 ·subst c1
  have KB : Aside0 (rowsB s 44 most (nextP s (i + 1)) = rowsB s 44 most (nextP s i)) := ⟨rowsB_keep HP.out 44 (.inr rfl) most (.inl (by rw [← HC.out];decide))⟩
  obtain ⟨x, hx⟩ : ∃ x, (colW s 58 (nextP s i) k)[pq]? = some x := ⟨_, List.getElem?_eq_getElem (by rw [colW_length, ← HPN.out.2.2.1];exact HPN.out.2.2.2)⟩
  obtain ⟨g, cap, cur, gi, capi, curi, hv, BG, hgc, BI, hcx, hbi, hoi, hgg, hgo⟩ := S_inner (yy6 I.ra) (i := k) (j := pq) (rowsB_at s 58 most (nextP s i) k HKD.out.2) hx
  have hlr : (rowsB s 58 most (nextP s i)).length = most := by unfold rowsB;rw [List.length_map, List.length_range]
  have hlw : (colW s 58 (nextP s i) k).length = nw := by rw [colW_length];exact HPN.out.2.2.1.symm
  rw [hlr] at hv
  dsimp only at hgc hgo
  rw [hlw] at hgc
  have HX := zA hcx
  have HPQ : Aside0 (pq < curi.size) := ⟨by
   have := (Array.getElem?_eq_some_iff.1 hcx).1
   exact this⟩
  have HGO : Aside0 (∀ (z : Int) (W' : World), Blk W' gi (curi.setIfInBounds pq (.int .u64 z)) 75 → w.drew.grownBy W' (some gi) → z = Go.bits .or .u64 x sv → BuTold s most gm gs gl va vb base okA okB X i w (.returned (.bool true)) W') := ⟨fun z W' B' hg hz => by
   have I := HI.out
   have hb : gi ∈ X := I.oa gi hoi
   have n1 : gm ≠ gi := I.bm.drew.ne BI (by decide)
   have n2 : gs ≠ gi := I.bs.drew.ne BI (by decide)
   have n3 : gl ≠ gi := I.bl.drew.ne BI (by decide)
   have hset := hgo z W' B' hg
   have hxd : (colW s 58 (nextP s i) k).getD (p / 64) 0 = x := by
    rw [← HPN.out.1, List.getD_eq_getElem?_getD, hx]
    rfl
   have hkd : 1 ≤ dep s p ∧ dep s p ≤ most ∧ dep s p - 1 = k := bu_dep HKD.out.1 HKD.out.2
   have hput := rowsB_put HP.out 58 (.inl rfl) HC.out.symm most hkd.1 hkd.2.1
   rw [hkd.2.2, hxd, ← HPN.out.1, ← HPN.out.2.1, ← HSV.out, ← hz] at hput
   rw [hput] at hset
   have ht := turned_grown hb hg
   refine ⟨rfl, ⟨ht.os, ht.tape, ht.output, ht.size, ht.block⟩, ?_⟩
   have hother : Kd.S k34 34 W' base okB vb (rowsB s 44 most (nextP s (i + 1))) := by
    rw [KB.out]
    exact Kd.S_grown (yy6 I.rb) hg (fun b hb' e => by
     have e' := Option.some.inj e
     subst e'
     exact I.dis _ hoi hb')
   exact ⟨blk_grown I.bm.drew n1 hg, blk_grown I.bs.drew n2 hg, blk_grown I.bl.drew n3 hg, hset, hother, I.dis, I.oa, I.ob⟩⟩
  clear hgo hlr hlw hbi hoi hx hcx hgg
  subst hv
  go_enter Tryd.func65, Tryd.ntmps65
  go_upto_region 5 with (fail)
  clear cm cs hbyte
  refine wp_region_noPanic ?_
  refine wp_region_last_drew (S := fun W' => Blk W' gl #[.slice (some ⟨g, 0, none⟩) most cap, vb] 48 ∧ W'.cell? ⟨g, k * 2 + 1, none⟩ = some (.slice (some ⟨gi, 0, none⟩) nw capi) ∧ Blk W' gi curi 75) (ds := [16]) (by kernel_rfl) ⟨I.bl.drew, BG.drew.cell hgc, BI⟩ (fun hS => ?_)
  refine' zM (i := 0) (oi := Oper.mk _ _ _ _ _ _) rfl (by kernel_rfl) (by kernel_rfl) (by kernel_rfl) (by kernel_rfl) (by kernel_rfl) (fun _ _ _ h => h) (Or.inl ⟨by rfl, ?hy1⟩) hS ?rest1
  case hy1 => (intro w hSw;(try dsimp only at hSw);first|(go_simp;done)|(go_simp;with_reducible rfl))
  try simp only [Act.put, zB, zC, zD]
  refine zM (i := 1) (oi := Oper.mk _ _ _ _ _ _) rfl (by kernel_rfl) (by kernel_rfl) (by kernel_rfl) (by kernel_rfl) (by kernel_rfl) (fun _ _ _ h => h) (rg_load1 (by rfl) (fun _ hS => hS.1.cell (i := 0) rfl) 46 _ rfl rfl (fun _ => by simp [isAgg, run_underlying Tryd.underlying46])) hS ?_
  try simp only [Act.put, zB, zC, zD]
  refine' zM (i := 2) (oi := Oper.mk _ _ _ _ _ _) rfl (by kernel_rfl) (by kernel_rfl) (by kernel_rfl) (by kernel_rfl) (by kernel_rfl) (fun _ _ _ h => h) (Or.inl ⟨by rfl, ?hy2⟩) hS ?rest2
  case hy2 => (intro w hSw;(try dsimp only at hSw);first|(go_simp;done)|(go_simp;with_reducible rfl))
  try simp only [Act.put, zB, zC, zD]
  refine' zM (i := 3) (oi := Oper.mk _ _ _ _ _ _) rfl (by kernel_rfl) (by kernel_rfl) (by kernel_rfl) (by kernel_rfl) (by kernel_rfl) (fun _ _ _ h => h) (Or.inl ⟨by rfl, ?hy3⟩) hS ?rest3
  case hy3 => (intro w hSw;(try dsimp only at hSw);first|(go_simp;done)|(go_simp;with_reducible rfl))
  try simp only [Act.put, zB, zC, zD]
  refine' zM (i := 4) (oi := Oper.mk _ _ _ _ _ _) rfl (by kernel_rfl) (by kernel_rfl) (by kernel_rfl) (by kernel_rfl) (by kernel_rfl) (fun _ _ _ h => h) (Or.inl ⟨by rfl, ?hy4⟩) hS ?rest4
  case hy4 => (intro w hSw;(try dsimp only at hSw);first|(go_simp;done)|(go_simp;with_reducible rfl))
  try simp only [Act.put, zB, zC, zD]
  refine' zM (i := 5) (oi := Oper.mk _ _ _ _ _ _) rfl (by kernel_rfl) (by kernel_rfl) (by kernel_rfl) (by kernel_rfl) (by kernel_rfl) (fun _ _ _ h => h) (Or.inl ⟨by rfl, ?hy5⟩) hS ?rest5
  case hy5 => (intro w hSw;(try dsimp only at hSw);first|(go_simp;done)|(go_simp;with_reducible rfl))
  try simp only [Act.put, zB, zC, zD]
  refine zM (i := 6) (oi := Oper.mk _ _ _ _ _ _) rfl (by kernel_rfl) (by kernel_rfl) (by kernel_rfl) (by kernel_rfl) (by kernel_rfl) (fun _ _ _ h => h) (rg_load1 (by rfl) (fun _ hS => hS.2.1) 32 _ rfl rfl (fun _ => by simp [isAgg, run_underlying Tryd.underlying32])) hS ?_
  try simp only [Act.put, zB, zC, zD]
  refine' zM (i := 7) (oi := Oper.mk _ _ _ _ _ _) rfl (by kernel_rfl) (by kernel_rfl) (by kernel_rfl) (by kernel_rfl) (by kernel_rfl) (fun _ _ _ h => h) (Or.inl ⟨by rfl, ?hy6⟩) hS ?rest6
  case hy6 => (intro w hSw;(try dsimp only at hSw);first|(go_simp;done)|(go_simp;with_reducible rfl))
  try simp only [Act.put, zB, zC, zD]
  refine' zM (i := 8) (oi := Oper.mk _ _ _ _ _ _) rfl (by kernel_rfl) (by kernel_rfl) (by kernel_rfl) (by kernel_rfl) (by kernel_rfl) (fun _ _ _ h => h) (Or.inl ⟨by rfl, ?hy7⟩) hS ?rest7
  case hy7 => (intro w hSw;(try dsimp only at hSw);first|(go_simp;done)|(go_simp;with_reducible rfl))
  try simp only [Act.put, zB, zC, zD]
  refine' zM (i := 9) (oi := Oper.mk _ _ _ _ _ _) rfl (by kernel_rfl) (by kernel_rfl) (by kernel_rfl) (by kernel_rfl) (by kernel_rfl) (fun _ _ _ h => h) (Or.inl ⟨by rfl, ?hy8⟩) hS ?rest8
  case hy8 => (intro w hSw;(try dsimp only at hSw);first|(go_simp;done)|(go_simp;with_reducible rfl))
  try simp only [Act.put, zB, zC, zD]
  refine zM (i := 10) (oi := Oper.mk _ _ _ _ _ _) rfl (by kernel_rfl) (by kernel_rfl) (by kernel_rfl) (by kernel_rfl) (by kernel_rfl) (fun _ _ _ h => h) (rg_load1 (by rfl) (fun _ hS => hS.2.2.cell HX.out) 75 _ rfl rfl (fun _ => by simp [isAgg, run_underlying Tryd.underlying75])) hS ?_
  try simp only [Act.put, zB, zC, zD]
  refine' zM (i := 11) (oi := Oper.mk _ _ _ _ _ _) rfl (by kernel_rfl) (by kernel_rfl) (by kernel_rfl) (by kernel_rfl) (by kernel_rfl) (fun _ _ _ h => h) (Or.inl ⟨by rfl, ?hy9⟩) hS ?rest9
  case hy9 => (intro w hSw;(try dsimp only at hSw);first|(go_simp;done)|(go_simp;with_reducible rfl))
  try simp only [Act.put, zB, zC, zD]
  refine' zM (i := 12) (oi := Oper.mk _ _ _ _ _ _) rfl (by kernel_rfl) (by kernel_rfl) (by kernel_rfl) (by kernel_rfl) (by kernel_rfl) (fun _ _ _ h => h) (Or.inl ⟨by rfl, ?hy10⟩) hS ?rest10
  case hy10 => (intro w hSw;(try dsimp only at hSw);first|(go_simp;done)|(go_simp;with_reducible rfl))
  try simp only [Act.put, zB, zC, zD]
  refine' zM (i := 13) (oi := Oper.mk _ _ _ _ _ _) rfl (by kernel_rfl) (by kernel_rfl) (by kernel_rfl) (by kernel_rfl) (by kernel_rfl) (fun _ _ _ h => h) (Or.inl ⟨by rfl, ?hy11⟩) hS ?rest11
  case hy11 => (intro w hSw;(try dsimp only at hSw);first|(go_simp;done)|(go_simp;with_reducible rfl))
  try simp only [Act.put, zB, zC, zD]
  refine' zM (i := 14) (oi := Oper.mk _ _ _ _ _ _) rfl (by kernel_rfl) (by kernel_rfl) (by kernel_rfl) (by kernel_rfl) (by kernel_rfl) (fun _ _ _ h => h) (Or.inl ⟨by rfl, ?hy12⟩) hS ?rest12
  case hy12 => (intro w hSw;(try dsimp only at hSw);first|(go_simp;done)|(go_simp;with_reducible rfl))
  try simp only [Act.put, zB, zC, zD]
  refine' zM (i := 15) (oi := Oper.mk _ _ _ _ _ _) rfl (by kernel_rfl) (by kernel_rfl) (by kernel_rfl) (by kernel_rfl) (by kernel_rfl) (fun _ _ _ h => h) (Or.inl ⟨by rfl, ?hy13⟩) hS ?rest13
  case hy13 => (intro w hSw;(try dsimp only at hSw);first|(go_simp;done)|(go_simp;with_reducible rfl))
  try simp only [Act.put, zB, zC, zD]
  refine wpAnyLast_ready (rs := [16]) (by kernel_rfl) (by simp) ?_
  refine AllReadyL.cons_last (o := Oper.mk _ _ _ _ _ _) rfl (by decide) (fun K hK => ?_) ?_
  ·refine rg_put1 (by rfl) BI 75 _ _ rfl rfl (.int .u64 (Go.bits .or .u64 x sv)) rfl HPQ.out (by kernel_rfl) rfl ?_
   intro w3 B3 hg3
   have FIN := zA (HGO.out _ w3 B3 hg3.out rfl)
   refine hK.out _ _ ?_
   clear hK K
   try simp only [Act.put, zB, zC, zD]
   refine wpAnyLast_done (by kernel_rfl) ?_ _
   refine NoPanic.normal ?_
   go_wp2
   go_ret
   exact FIN.out
  exact AllReadyL.nil
 have t1 : (c == 58) = false := by rw [beq_eq_false_iff_ne];exact c1
 have C1 := zA c1
 clear c1
 by_cases c2 : c = 44
 ·subst c2
  have KB : Aside0 (rowsB s 58 most (nextP s (i + 1)) = rowsB s 58 most (nextP s i)) := ⟨rowsB_keep HP.out 58 (.inl rfl) most (.inl (by rw [← HC.out];decide))⟩
  obtain ⟨x, hx⟩ : ∃ x, (colW s 44 (nextP s i) k)[pq]? = some x := ⟨_, List.getElem?_eq_getElem (by rw [colW_length, ← HPN.out.2.2.1];exact HPN.out.2.2.2)⟩
  obtain ⟨g, cap, cur, gi, capi, curi, hv, BG, hgc, BI, hcx, hbi, hoi, hgg, hgo⟩ := S_inner (yy6 I.rb) (i := k) (j := pq) (rowsB_at s 44 most (nextP s i) k HKD.out.2) hx
  have hlr : (rowsB s 44 most (nextP s i)).length = most := by unfold rowsB;rw [List.length_map, List.length_range]
  have hlw : (colW s 44 (nextP s i) k).length = nw := by rw [colW_length];exact HPN.out.2.2.1.symm
  rw [hlr] at hv
  dsimp only at hgc hgo
  rw [hlw] at hgc
  have HX := zA hcx
  have HPQ : Aside0 (pq < curi.size) := ⟨by
   have := (Array.getElem?_eq_some_iff.1 hcx).1
   exact this⟩
  have HGO : Aside0 (∀ (z : Int) (W' : World), Blk W' gi (curi.setIfInBounds pq (.int .u64 z)) 75 → w.drew.grownBy W' (some gi) → z = Go.bits .or .u64 x sv → BuTold s most gm gs gl va vb base okA okB X i w (.returned (.bool true)) W') := ⟨fun z W' B' hg hz => by
   have I := HI.out
   have hb : gi ∈ X := I.ob gi hoi
   have n1 : gm ≠ gi := I.bm.drew.ne BI (by decide)
   have n2 : gs ≠ gi := I.bs.drew.ne BI (by decide)
   have n3 : gl ≠ gi := I.bl.drew.ne BI (by decide)
   have hset := hgo z W' B' hg
   have hxd : (colW s 44 (nextP s i) k).getD (p / 64) 0 = x := by
    rw [← HPN.out.1, List.getD_eq_getElem?_getD, hx]
    rfl
   have hkd : 1 ≤ dep s p ∧ dep s p ≤ most ∧ dep s p - 1 = k := bu_dep HKD.out.1 HKD.out.2
   have hput := rowsB_put HP.out 44 (.inr rfl) HC.out.symm most hkd.1 hkd.2.1
   rw [hkd.2.2, hxd, ← HPN.out.1, ← HPN.out.2.1, ← HSV.out, ← hz] at hput
   rw [hput] at hset
   have ht := turned_grown hb hg
   refine ⟨rfl, ⟨ht.os, ht.tape, ht.output, ht.size, ht.block⟩, ?_⟩
   have hother : Kd.S k34 34 W' base okA va (rowsB s 58 most (nextP s (i + 1))) := by
    rw [KB.out]
    exact Kd.S_grown (yy6 I.ra) hg (fun b hb' e => by
     have e' := Option.some.inj e
     subst e'
     exact I.dis _ hb' hoi)
   exact ⟨blk_grown I.bm.drew n1 hg, blk_grown I.bs.drew n2 hg, blk_grown I.bl.drew n3 hg, hother, hset, I.dis, I.oa, I.ob⟩⟩
  clear hgo hlr hlw hbi hoi hx hcx hgg
  subst hv
  go_enter Tryd.func65, Tryd.ntmps65
  go_upto_region 7 with (fail)
  clear cm cs hbyte
  refine wp_region_noPanic ?_
  refine wp_region_last_drew (S := fun W' => Blk W' gl #[va, .slice (some ⟨g, 0, none⟩) most cap] 48 ∧ W'.cell? ⟨g, k * 2 + 1, none⟩ = some (.slice (some ⟨gi, 0, none⟩) nw capi) ∧ Blk W' gi curi 75) (ds := [16]) (by kernel_rfl) ⟨I.bl.drew, BG.drew.cell hgc, BI⟩ (fun hS => ?_)
  refine' zM (i := 0) (oi := Oper.mk _ _ _ _ _ _) rfl (by kernel_rfl) (by kernel_rfl) (by kernel_rfl) (by kernel_rfl) (by kernel_rfl) (fun _ _ _ h => h) (Or.inl ⟨by rfl, ?hy14⟩) hS ?rest14
  case hy14 => (intro w hSw;(try dsimp only at hSw);first|(go_simp;done)|(go_simp;with_reducible rfl))
  try simp only [Act.put, zB, zC, zD]
  refine zM (i := 1) (oi := Oper.mk _ _ _ _ _ _) rfl (by kernel_rfl) (by kernel_rfl) (by kernel_rfl) (by kernel_rfl) (by kernel_rfl) (fun _ _ _ h => h) (rg_load1 (by rfl) (fun _ hS => hS.1.cell (i := 1) rfl) 46 _ rfl rfl (fun _ => by simp [isAgg, run_underlying Tryd.underlying46])) hS ?_
  try simp only [Act.put, zB, zC, zD]
  refine' zM (i := 2) (oi := Oper.mk _ _ _ _ _ _) rfl (by kernel_rfl) (by kernel_rfl) (by kernel_rfl) (by kernel_rfl) (by kernel_rfl) (fun _ _ _ h => h) (Or.inl ⟨by rfl, ?hy15⟩) hS ?rest15
  case hy15 => (intro w hSw;(try dsimp only at hSw);first|(go_simp;done)|(go_simp;with_reducible rfl))
  try simp only [Act.put, zB, zC, zD]
  refine' zM (i := 3) (oi := Oper.mk _ _ _ _ _ _) rfl (by kernel_rfl) (by kernel_rfl) (by kernel_rfl) (by kernel_rfl) (by kernel_rfl) (fun _ _ _ h => h) (Or.inl ⟨by rfl, ?hy16⟩) hS ?rest16
  case hy16 => (intro w hSw;(try dsimp only at hSw);first|(go_simp;done)|(go_simp;with_reducible rfl))
  try simp only [Act.put, zB, zC, zD]
  refine' zM (i := 4) (oi := Oper.mk _ _ _ _ _ _) rfl (by kernel_rfl) (by kernel_rfl) (by kernel_rfl) (by kernel_rfl) (by kernel_rfl) (fun _ _ _ h => h) (Or.inl ⟨by rfl, ?hy17⟩) hS ?rest17
  case hy17 => (intro w hSw;(try dsimp only at hSw);first|(go_simp;done)|(go_simp;with_reducible rfl))
  try simp only [Act.put, zB, zC, zD]
  refine' zM (i := 5) (oi := Oper.mk _ _ _ _ _ _) rfl (by kernel_rfl) (by kernel_rfl) (by kernel_rfl) (by kernel_rfl) (by kernel_rfl) (fun _ _ _ h => h) (Or.inl ⟨by rfl, ?hy18⟩) hS ?rest18
  case hy18 => (intro w hSw;(try dsimp only at hSw);first|(go_simp;done)|(go_simp;with_reducible rfl))
  try simp only [Act.put, zB, zC, zD]
  refine zM (i := 6) (oi := Oper.mk _ _ _ _ _ _) rfl (by kernel_rfl) (by kernel_rfl) (by kernel_rfl) (by kernel_rfl) (by kernel_rfl) (fun _ _ _ h => h) (rg_load1 (by rfl) (fun _ hS => hS.2.1) 32 _ rfl rfl (fun _ => by simp [isAgg, run_underlying Tryd.underlying32])) hS ?_
  try simp only [Act.put, zB, zC, zD]
  refine' zM (i := 7) (oi := Oper.mk _ _ _ _ _ _) rfl (by kernel_rfl) (by kernel_rfl) (by kernel_rfl) (by kernel_rfl) (by kernel_rfl) (fun _ _ _ h => h) (Or.inl ⟨by rfl, ?hy19⟩) hS ?rest19
  case hy19 => (intro w hSw;(try dsimp only at hSw);first|(go_simp;done)|(go_simp;with_reducible rfl))
  try simp only [Act.put, zB, zC, zD]
  refine' zM (i := 8) (oi := Oper.mk _ _ _ _ _ _) rfl (by kernel_rfl) (by kernel_rfl) (by kernel_rfl) (by kernel_rfl) (by kernel_rfl) (fun _ _ _ h => h) (Or.inl ⟨by rfl, ?hy20⟩) hS ?rest20
  case hy20 => (intro w hSw;(try dsimp only at hSw);first|(go_simp;done)|(go_simp;with_reducible rfl))
  try simp only [Act.put, zB, zC, zD]
  refine' zM (i := 9) (oi := Oper.mk _ _ _ _ _ _) rfl (by kernel_rfl) (by kernel_rfl) (by kernel_rfl) (by kernel_rfl) (by kernel_rfl) (fun _ _ _ h => h) (Or.inl ⟨by rfl, ?hy21⟩) hS ?rest21
  case hy21 => (intro w hSw;(try dsimp only at hSw);first|(go_simp;done)|(go_simp;with_reducible rfl))
  try simp only [Act.put, zB, zC, zD]
  refine zM (i := 10) (oi := Oper.mk _ _ _ _ _ _) rfl (by kernel_rfl) (by kernel_rfl) (by kernel_rfl) (by kernel_rfl) (by kernel_rfl) (fun _ _ _ h => h) (rg_load1 (by rfl) (fun _ hS => hS.2.2.cell HX.out) 75 _ rfl rfl (fun _ => by simp [isAgg, run_underlying Tryd.underlying75])) hS ?_
  try simp only [Act.put, zB, zC, zD]
  refine' zM (i := 11) (oi := Oper.mk _ _ _ _ _ _) rfl (by kernel_rfl) (by kernel_rfl) (by kernel_rfl) (by kernel_rfl) (by kernel_rfl) (fun _ _ _ h => h) (Or.inl ⟨by rfl, ?hy22⟩) hS ?rest22
  case hy22 => (intro w hSw;(try dsimp only at hSw);first|(go_simp;done)|(go_simp;with_reducible rfl))
  try simp only [Act.put, zB, zC, zD]
  refine' zM (i := 12) (oi := Oper.mk _ _ _ _ _ _) rfl (by kernel_rfl) (by kernel_rfl) (by kernel_rfl) (by kernel_rfl) (by kernel_rfl) (fun _ _ _ h => h) (Or.inl ⟨by rfl, ?hy23⟩) hS ?rest23
  case hy23 => (intro w hSw;(try dsimp only at hSw);first|(go_simp;done)|(go_simp;with_reducible rfl))
  try simp only [Act.put, zB, zC, zD]
  refine' zM (i := 13) (oi := Oper.mk _ _ _ _ _ _) rfl (by kernel_rfl) (by kernel_rfl) (by kernel_rfl) (by kernel_rfl) (by kernel_rfl) (fun _ _ _ h => h) (Or.inl ⟨by rfl, ?hy24⟩) hS ?rest24
  case hy24 => (intro w hSw;(try dsimp only at hSw);first|(go_simp;done)|(go_simp;with_reducible rfl))
  try simp only [Act.put, zB, zC, zD]
  refine' zM (i := 14) (oi := Oper.mk _ _ _ _ _ _) rfl (by kernel_rfl) (by kernel_rfl) (by kernel_rfl) (by kernel_rfl) (by kernel_rfl) (fun _ _ _ h => h) (Or.inl ⟨by rfl, ?hy25⟩) hS ?rest25
  case hy25 => (intro w hSw;(try dsimp only at hSw);first|(go_simp;done)|(go_simp;with_reducible rfl))
  try simp only [Act.put, zB, zC, zD]
  refine' zM (i := 15) (oi := Oper.mk _ _ _ _ _ _) rfl (by kernel_rfl) (by kernel_rfl) (by kernel_rfl) (by kernel_rfl) (by kernel_rfl) (fun _ _ _ h => h) (Or.inl ⟨by rfl, ?hy26⟩) hS ?rest26
  case hy26 => (intro w hSw;(try dsimp only at hSw);first|(go_simp;done)|(go_simp;with_reducible rfl))
  try simp only [Act.put, zB, zC, zD]
  refine wpAnyLast_ready (rs := [16]) (by kernel_rfl) (by simp) ?_
  refine AllReadyL.cons_last (o := Oper.mk _ _ _ _ _ _) rfl (by decide) (fun K hK => ?_) ?_
  ·refine rg_put1 (by rfl) BI 75 _ _ rfl rfl (.int .u64 (Go.bits .or .u64 x sv)) rfl HPQ.out (by kernel_rfl) rfl ?_
   intro w3 B3 hg3
   have FIN := zA (HGO.out _ w3 B3 hg3.out rfl)
   refine hK.out _ _ ?_
   clear hK K
   try simp only [Act.put, zB, zC, zD]
   refine wpAnyLast_done (by kernel_rfl) ?_ _
   refine NoPanic.normal ?_
   go_wp2
   go_ret
   exact FIN.out
  exact AllReadyL.nil
 have t2 : (c == 44) = false := by rw [beq_eq_false_iff_ne];exact c2
 have HK : Aside0 (BuI s most gm gs gl va vb base X okA okB (nextP s (i + 1)) w) := ⟨by
  have e1 := rowsB_keep HP.out 58 (.inl rfl) most (.inl (by rw [← HC.out];exact C1.out))
  have e2 := rowsB_keep HP.out 44 (.inr rfl) most (.inl (by rw [← HC.out];exact c2))
  exact ⟨I.bm, I.bs, I.bl, by rw [e1];exact I.ra, by rw [e2];exact I.rb, I.dis, I.oa, I.ob⟩⟩
 clear c2 I
 go_enter Tryd.func65, Tryd.ntmps65
 go_wp2
 go_ret
 exact ⟨rfl, Turned.of_below (Below.refl _ _), HK.out⟩
end


end Go.Proofs.YtgddljealeklkaaDoor.PL
end
