/- Parts of a claim (MP), packed by a program (pack.py) out of the texts that it names. -/
import Derived.Test.YtgddljealeklkaaDoorMP3
-- PMx3
section
namespace Go.Proofs.YtgddljealeklkaaDoor.PM
open Go.RowKit Go.Proofs.YtgddljealeklkaaDoorW.PrintWords Go.Proofs.YtgddljealeklkaaDoorW.PrintLast Go.Proofs.YtgddljealeklkaaDoorW.PrintMore
attribute [local go_sem] max2_int min2_int max_two min_two max_three min_three max_four min_four   -- for this text's walks alone
set_option linter.unusedVariables false
set_option linter.unusedSimpArgs false

section
open Go.Proofs.YtgddljealeklkaaDoorQ Go.Proofs.YtgddljealeklkaaDoorM Go.Shelf
attribute [local go_sem] Oper.semAt_some
/-- Between two blocks. -/
structure LookI (s : ByteArray) (nw : Nat) (w : World) (L : List (Nat × Array Value × Nat)) (m g7 : Nat) (v1 v2 : Value) {n : Nat} (pre : List (Fin n)) (W : World) : Prop where mk ::
  bs : Blks L W
  r1 : W.ownsRow w.heap.size 75 1 v1 nw ((wordsOf s.size (mkq s)).map (Value.int .u64))
  r2 : W.ownsRow w.heap.size 75 1 v2 nw ((wordsOf s.size (insS s)).map (Value.int .u64))
  out : ∃ v, Blk W g7 #[v] 73 ∧ W.ownsRow w.heap.size 77 4 v pre.length (flatR s pre)
  hb : BelowH w W
  sz : m ≤ W.heap.size
section
variable {s : ByteArray} {nw : Nat} {w W W' : World} {L : List (Nat × Array Value × Nat)} {m g7 : Nat} {v1 v2 : Value} {n : Nat} {pre : List (Fin n)}
theorem LookI.kept (h : LookI s nw w L m g7 v1 v2 pre W) {B : Nat} (hB : w.heap.size ≤ B) {row : Option Nat} (hg : W.grownBy W' row) (hr : ∀ r, row = some r → B ≤ r ∧ ∃ o : Obj, W.heap[r]? = some o ∧ o.isCells = false) : LookI s nw w L m g7 v1 v2 pre W' := by
  have hr' : ∀ r, row = some r → ∃ o : Obj, W.heap[r]? = some o ∧ o.isCells = false := fun r e => (hr r e).2
  obtain ⟨v, b, ho⟩ := h.out
  exact ⟨h.bs.kept hg hr', row_kept h.r1 hg hr', row_kept h.r2 hg hr', ⟨v, b.kept hg hr', row_kept ho hg hr'⟩, h.hb.kept hg hB (fun r e => (hr r e).1), Nat.le_trans h.sz hg.size⟩
theorem LookI.below (h : LookI s nw w L m g7 v1 v2 pre W) (hb : Below W.heap.size W W') : LookI s nw w L m g7 v1 v2 pre W' := by
  obtain ⟨v, b, ho⟩ := h.out
  exact ⟨h.bs.below hb, row_below h.r1 hb, row_below h.r2 hb, ⟨v, b.below hb, row_below ho hb⟩, h.hb.step hb, Nat.le_trans h.sz hb.size⟩
/-- A store into another block. -/
theorem LookI.other (h : LookI s nw w L m g7 v1 v2 pre W) {g : Nat} {cs : Array Value} {t : Nat} (B : Blk W g cs t) (h1 : t ≠ 75) (h2 : t ≠ 77) (h3 : ∀ b ∈ L, b.1 ≠ g) (h4 : g7 ≠ g) (hb : BelowH w W') (K : Aside0 (W.heap.size ≤ W'.heap.size ∧ ∀ k, k ≠ g → W'.heap[k]? = W.heap[k]?)) : LookI s nw w L m g7 v1 v2 pre W' := by
  obtain ⟨v, b, ho⟩ := h.out
  exact ⟨h.bs.other K h3, row_other h.r1 B h1 K, row_other h.r2 B h1 K, ⟨v, b.other K h4, row_other ho B h2 K⟩, hb, Nat.le_trans h.sz K.out.1⟩
end
/-- The words of a text, block by block. -/
def rowS (s : ByteArray) (k : Nat) : S77 := ⟨iv (wordAt s.size (sgq s) k), iv (wordAt s.size (blq s) k), iv (wordAt s.size (opq s) k), iv (wordAt s.size (wdq s) k)⟩
def lookL (s : ByteArray) : List S77 := (List.range (nwords s.size)).map (rowS s)
def marks_look.f (a0 : ByteArray) : Option (List S77) := if a0.size ≤ 281474976702464 then some (lookL a0) else none
theorem lookL_reps {s : ByteArray} {R : S77 → List Value → Prop} (h : ∀ k, R (rowS s k) (rowN s k)) : ∀ n, Reps R 4 ((List.range n).map (rowS s)) ((List.range n).flatMap (rowN s))
  | 0 => Reps.none _ _
  | n + 1 => by
    rw [List.range_succ, List.map_append, List.flatMap_append]
    simpa using (lookL_reps h n).snoc (h n) rfl
set_option maxHeartbeats 4000000 in
set_option maxRecDepth 100000 in
theorem marks_look.walk (s : ByteArray) (w : World) (hs : s.size ≤ 281474976702464) :
    Calls Tryd.prog 50 #[.string s] w fun e w' => ∃ v : Value, e = .returned v ∧ w'.ownsRow w.heap.size 77 4 v (nwords s.size) ((List.range (nwords s.size)).flatMap (rowN s)) ∧ Below w.heap.size w w' := by
  obtain ⟨F, hF⟩ : ∃ F, F = Fence.wide := ⟨_, rfl⟩
  have HF := Aside0.mk hF
  refine (callsIn_wide (n := 9)).1 ?_
  rw [← hF]
  clear hF
  have hro := wide_round HF
  have HB := BelowH.refl w
  have f1 := wide_fn HF 55
  have f2 := wide_fn HF 92
  have f3 := wide_fn HF 85
  have f4 := wide_fn HF 18
  have f5 := wide_fn HF 19
  have f6 := wide_fn HF 84
  have HS := Aside0.mk hs
  obtain ⟨nw, hnw⟩ : ∃ nw, nw = nwords s.size := ⟨_, rfl⟩
  have HNW := Aside0.mk hnw
  have hnw1 : (nw : Int) ≤ 4398046511104 := by rw [hnw]; unfold nwords; omega
  clear hs hnw
  refine callsIn_of_wp_marks Tryd.func50 rfl (wide_fn HF _) ?_ hro
  simp only [Tryd.ntmps50, List.size_toArray, List.length_cons, List.length_nil, Nat.reduceAdd, Nat.reduceSub, Array.replicate_succ, Array.replicate_zero, List.push_toArray, List.append_toArray, List.nil_append, List.cons_append]
  gi_upto_region 1 with (first
    | ((with_reducible refine gate_dstIn (N := 1) rfl ?_); refine ev_allocIn HB rfl rfl (#[.string s]) 9 ?hr ?_; (case hr => first | (go_simp; done) | (go_simp; rfl)); intro g1 w1 G_g1 GE_g1 B_g1 HBn K_g1 KO_w1; clear HB; have HB := HBn; clear HBn))
  gi_cut [3, 4] from 16 (fun v3 v4 wx => ∃ (g3 g4 c1 c2 : Nat) (A1 A2 : Option Addr), v3 = .pointer (some ⟨g3, 0, none⟩) ∧ v4 = .pointer (some ⟨g4, 0, none⟩) ∧ Aside0 (w.heap.size ≤ g3) ∧ Aside0 (w.heap.size ≤ g4) ∧ Aside0 (g1 < g3 ∧ g1 < g4 ∧ g3 ≠ g4) ∧
    Blk wx g1 #[.string s] 9 ∧ Blk wx g3 #[.int .i64 s.size, .slice A1 nw c1] 34 ∧ Blk wx g4 #[.int .i64 s.size, .slice A2 nw c2] 34 ∧
    Aside0 (wx.ownsRow w.heap.size 75 1 (.slice A1 nw c1) nw ((wordsOf s.size (mkq s)).map (Value.int .u64))) ∧ Aside0 (wx.ownsRow w.heap.size 75 1 (.slice A2 nw c2) nw ((wordsOf s.size (insS s)).map (Value.int .u64))) ∧ BelowH w wx)
  case first =>
    have E := B_g1.below (below_drew (Below.refl _ _))
    have HB5 := HB.step (below_drew (Below.refl _ _))
    clear HB
    have HB := HB5
    clear HB5
    have L1 := Aside0.mk (And.intro B_g1.lt K_g1.out.size)
    clear B_g1 K_g1 G_g1 KO_w1
    have HZ := Aside0.mk (show w1.heap.size ≤ w1.drew.heap.size from Nat.le_refl _)
    refine wpIn_region_last_wide HF (S := fun W' => Blk W' g1 #[.string s] 9) (ds := [6, 7]) (by kernel_rfl) E (fun hS => ?_)
    refine wpAnyLast_take (i := 0) (oi := Oper.mk _ _ _ _ _ _) rfl (by kernel_rfl) (by kernel_rfl) (by kernel_rfl) (by kernel_rfl) (by kernel_rfl) (fun _ _ _ h => h) (rg_load1 (by rfl) (fun _ hS => hS.cell (i := 0) rfl) 9 _ rfl rfl (fun _ => by simp [isAgg, run_underlying Tryd.underlying9])) hS ?_
    try simp only [Act.put, List.setIfInBounds_toArray, List.set_cons_zero, List.set_cons_succ]
    refine wpAnyLast_take (i := 2) (oi := Oper.mk _ _ _ _ _ _) rfl (by kernel_rfl) (by kernel_rfl) (by kernel_rfl) (by kernel_rfl) (by kernel_rfl) (fun _ _ _ h => h) (rg_load1 (by rfl) (fun _ hS => hS.cell (i := 0) rfl) 9 _ rfl rfl (fun _ => by simp [isAgg, run_underlying Tryd.underlying9])) hS ?_
    try simp only [Act.put, List.setIfInBounds_toArray, List.set_cons_zero, List.set_cons_succ]
    refine wpAnyLast_ready (rs := [1, 4, 5]) (by kernel_rfl) (by simp) ?_
    refine AllReadyL.cons (o := Oper.mk _ _ _ _ _ _) rfl (by decide) (fun K hK => ?_) ?_
    · refine call_ 18 #[.string s] (by rfl) rfl (by first | (go_simp; done) | (go_simp; rfl)) ((quotes_Marks.walk s _ HS.out).mono ?_)
      rintro e W' ⟨v, rfl, hrow, hb'⟩
      obtain ⟨A1, c1, rfl⟩ := own_slice hrow
      rw [← HNW.out] at hrow ⊢
      have hb := Aside0.mk hb'
      have RM := Aside0.mk (row_mono hrow HB.le)
      have V1 := Aside0.mk (row_one hrow)
      clear hrow hb'
      replace E := E.below hb.out
      replace HB := HB.step hb.out
      replace HZ := Aside0.mk (Nat.le_trans HZ.out hb.out.size)
      refine ⟨_, rfl, ?_⟩
      refine hK.out _ _ E (fun hS => ?_)
      clear hK K hb
      try simp only [Act.put, List.setIfInBounds_toArray, List.set_cons_zero, List.set_cons_succ]
      refine wpAnyLast_ready (rs := [3, 4, 5]) (by kernel_rfl) (by simp) ?_
      refine AllReadyL.cons (o := Oper.mk _ _ _ _ _ _) rfl (by decide) (fun K hK => ?_) ?_
      · refine call_ 19 #[.string s] (by rfl) rfl (by first | (go_simp; done) | (go_simp; rfl)) ((quotes_Inside.walk s _ HS.out).mono ?_)
        rintro e W' ⟨v, rfl, hrow, hb'⟩
        obtain ⟨A2, c2, rfl⟩ := own_slice hrow
        rw [← HNW.out] at hrow ⊢
        have hb := Aside0.mk hb'
        have RI := Aside0.mk (row_mono hrow HB.le)
        have V2 := Aside0.mk (row_one hrow)
        clear hrow hb'
        replace E := E.below hb.out
        replace HB := HB.step hb.out
        replace HZ := Aside0.mk (Nat.le_trans HZ.out hb.out.size)
        replace RM := Aside0.mk (row_below RM.out hb.out)
        refine ⟨_, rfl, ?_⟩
        refine hK.out _ _ E (fun hS => ?_)
        clear hK K hb
        try simp only [Act.put, List.setIfInBounds_toArray, List.set_cons_zero, List.set_cons_succ]
        refine wpAnyLast_ready (rs := [4, 5]) (by kernel_rfl) (by simp) ?_
        refine AllReadyL.cons (o := Oper.mk _ _ _ _ _ _) rfl (by decide) (fun K hK => ?_) ?_
        · refine rg_alloc HB (by rfl) (#[.int .i64 0, .slice none 0 0]) 34 (by first | (go_simp; done) | (go_simp; rfl)) ?_
          intro g3 W' G3 GE_g3 B3 HBn hb
          have N1g3 := Aside0.mk (show g1 < g3 by have := L1.out.1; have := HZ.out; have := G3.out; omega)
          clear HBn
          replace E := E.below hb.out
          replace HB := HB.step hb.out
          replace HZ := Aside0.mk (Nat.le_trans HZ.out hb.out.size)
          replace RM := Aside0.mk (row_below RM.out hb.out)
          replace RI := Aside0.mk (row_below RI.out hb.out)
          refine hK.out _ _ E (fun hS => ?_)
          clear hK K hb G3
          try simp only [Act.put, List.setIfInBounds_toArray, List.set_cons_zero, List.set_cons_succ]
          refine wpAnyLast_ready (rs := [5]) (by kernel_rfl) (by simp) ?_
          refine AllReadyL.cons (o := Oper.mk _ _ _ _ _ _) rfl (by decide) (fun K hK => ?_) ?_
          · refine rg_alloc HB (by rfl) (#[.int .i64 0, .slice none 0 0]) 34 (by first | (go_simp; done) | (go_simp; rfl)) ?_
            intro g4 W' G4 GE_g4 B4 HBn hb
            have N1g4 := Aside0.mk (show g1 < g4 by have := L1.out.1; have := HZ.out; have := G4.out; omega)
            have N34 := Aside0.mk (show g3 ≠ g4 by have := B3.lt; have := G4.out; omega)
            clear HBn
            replace E := E.below hb.out
            replace HB := HB.step hb.out
            replace HZ := Aside0.mk (Nat.le_trans HZ.out hb.out.size)
            replace RM := Aside0.mk (row_below RM.out hb.out)
            replace RI := Aside0.mk (row_below RI.out hb.out)
            replace B3 := B3.below hb.out
            refine hK.out _ _ E (fun hS => ?_)
            clear hK K hb G4
            try simp only [Act.put, List.setIfInBounds_toArray, List.set_cons_zero, List.set_cons_succ]
            refine wpAnyLast_ready (rs := [6]) (by kernel_rfl) (by simp) ?_
            refine AllReadyL.cons_last (o := Oper.mk _ _ _ _ _ _) rfl (by decide) (fun K hK => ?_) ?_
            · refine rg_store HB (by rfl) B3 GE_g3 34 _ _ rfl rfl rfl (by kernel_rfl) rfl (by simp [Value.oneCell']) ?_
              intro w6 B3n HBn K6
              replace E := E.other K6 (Nat.ne_of_lt N1g3.out)
              replace B4 := B4.other K6 (Ne.symm N34.out)
              replace RM := Aside0.mk (row_other RM.out B3 (by decide) K6)
              replace RI := Aside0.mk (row_other RI.out B3 (by decide) K6)
              replace B3 := B3n
              replace HB := HBn
              clear B3n HBn K6 HZ
              have HZ := Aside0.mk (Nat.le_refl 0)
              refine hK.out _ _ ?_
              clear hK K
              try simp only [Act.put, List.setIfInBounds_toArray, List.set_cons_zero, List.set_cons_succ]
              refine wpAnyLast_ready (rs := [7]) (by kernel_rfl) (by simp) ?_
              refine AllReadyL.cons_last (o := Oper.mk _ _ _ _ _ _) rfl (by decide) (fun K hK => ?_) ?_
              · refine rg_store HB (by rfl) B4 GE_g4 34 _ _ rfl rfl rfl (by kernel_rfl) rfl (by simp [Value.oneCell']) ?_
                intro w7 B4n HBn K7
                replace E := E.other K7 (Nat.ne_of_lt N1g4.out)
                replace B3 := B3.other K7 N34.out
                replace RM := Aside0.mk (row_other RM.out B4 (by decide) K7)
                replace RI := Aside0.mk (row_other RI.out B4 (by decide) K7)
                replace B4 := B4n
                replace HB := HBn
                clear B4n HBn K7 HZ
                have HZ := Aside0.mk (Nat.le_refl 0)
                refine hK.out _ _ ?_
                clear hK K
                try simp only [Act.put, List.setIfInBounds_toArray, List.set_cons_zero, List.set_cons_succ]
                refine wpAnyLast_done (by kernel_rfl) ?_ _
                refine NoPanic.normal ?_
                go_step
                go_step
                gi_meet
                case rel => exact ⟨g3, g4, c1, c2, A1, A2, rfl, rfl, GE_g3, GE_g4, ⟨N1g3.out, N1g4.out, N34.out⟩, E, B3, B4, RM, RI, HB⟩
              exact AllReadyL.nil
            exact AllReadyL.nil
          exact AllReadyL.nil
        refine AllReadyL.cons (o := Oper.mk _ _ _ _ _ _) rfl (by decide) (fun K hK => ?_) ?_
        · refine rg_alloc HB (by rfl) (#[.int .i64 0, .slice none 0 0]) 34 (by first | (go_simp; done) | (go_simp; rfl)) ?_
          intro g4 W' G4 GE_g4 B4 HBn hb
          have N1g4 := Aside0.mk (show g1 < g4 by have := L1.out.1; have := HZ.out; have := G4.out; omega)
          clear HBn
          replace E := E.below hb.out
          replace HB := HB.step hb.out
          replace HZ := Aside0.mk (Nat.le_trans HZ.out hb.out.size)
          replace RM := Aside0.mk (row_below RM.out hb.out)
          replace RI := Aside0.mk (row_below RI.out hb.out)
          refine hK.out _ _ E (fun hS => ?_)
          clear hK K hb G4
          try simp only [Act.put, List.setIfInBounds_toArray, List.set_cons_zero, List.set_cons_succ]
          refine wpAnyLast_ready (rs := [4]) (by kernel_rfl) (by simp) ?_
          refine AllReadyL.cons (o := Oper.mk _ _ _ _ _ _) rfl (by decide) (fun K hK => ?_) ?_
          · refine rg_alloc HB (by rfl) (#[.int .i64 0, .slice none 0 0]) 34 (by first | (go_simp; done) | (go_simp; rfl)) ?_
            intro g3 W' G3 GE_g3 B3 HBn hb
            have N1g3 := Aside0.mk (show g1 < g3 by have := L1.out.1; have := HZ.out; have := G3.out; omega)
            have N34 := Aside0.mk (show g3 ≠ g4 by have := B4.lt; have := G3.out; omega)
            clear HBn
            replace E := E.below hb.out
            replace HB := HB.step hb.out
            replace HZ := Aside0.mk (Nat.le_trans HZ.out hb.out.size)
            replace RM := Aside0.mk (row_below RM.out hb.out)
            replace RI := Aside0.mk (row_below RI.out hb.out)
            replace B4 := B4.below hb.out
            refine hK.out _ _ E (fun hS => ?_)
            clear hK K hb G3
            try simp only [Act.put, List.setIfInBounds_toArray, List.set_cons_zero, List.set_cons_succ]
            refine wpAnyLast_ready (rs := [6]) (by kernel_rfl) (by simp) ?_
            refine AllReadyL.cons_last (o := Oper.mk _ _ _ _ _ _) rfl (by decide) (fun K hK => ?_) ?_
            · refine rg_store HB (by rfl) B3 GE_g3 34 _ _ rfl rfl rfl (by kernel_rfl) rfl (by simp [Value.oneCell']) ?_
              intro w6 B3n HBn K6
              replace E := E.other K6 (Nat.ne_of_lt N1g3.out)
              replace B4 := B4.other K6 (Ne.symm N34.out)
              replace RM := Aside0.mk (row_other RM.out B3 (by decide) K6)
              replace RI := Aside0.mk (row_other RI.out B3 (by decide) K6)
              replace B3 := B3n
              replace HB := HBn
              clear B3n HBn K6 HZ
              have HZ := Aside0.mk (Nat.le_refl 0)
              refine hK.out _ _ ?_
              clear hK K
              try simp only [Act.put, List.setIfInBounds_toArray, List.set_cons_zero, List.set_cons_succ]
              refine wpAnyLast_ready (rs := [7]) (by kernel_rfl) (by simp) ?_
              refine AllReadyL.cons_last (o := Oper.mk _ _ _ _ _ _) rfl (by decide) (fun K hK => ?_) ?_
              · refine rg_store HB (by rfl) B4 GE_g4 34 _ _ rfl rfl rfl (by kernel_rfl) rfl (by simp [Value.oneCell']) ?_
                intro w7 B4n HBn K7
                replace E := E.other K7 (Nat.ne_of_lt N1g4.out)
                replace B3 := B3.other K7 N34.out
                replace RM := Aside0.mk (row_other RM.out B4 (by decide) K7)
                replace RI := Aside0.mk (row_other RI.out B4 (by decide) K7)
                replace B4 := B4n
                replace HB := HBn
                clear B4n HBn K7 HZ
                have HZ := Aside0.mk (Nat.le_refl 0)
                refine hK.out _ _ ?_
                clear hK K
                try simp only [Act.put, List.setIfInBounds_toArray, List.set_cons_zero, List.set_cons_succ]
                refine wpAnyLast_done (by kernel_rfl) ?_ _
                refine NoPanic.normal ?_
                go_step
                go_step
                gi_meet
                case rel => exact ⟨g3, g4, c1, c2, A1, A2, rfl, rfl, GE_g3, GE_g4, ⟨N1g3.out, N1g4.out, N34.out⟩, E, B3, B4, RM, RI, HB⟩
              exact AllReadyL.nil
            exact AllReadyL.nil
          exact AllReadyL.nil
        exact AllReadyL.nil
      refine AllReadyL.cons (o := Oper.mk _ _ _ _ _ _) rfl (by decide) (fun K hK => ?_) ?_
      · refine rg_alloc HB (by rfl) (#[.int .i64 0, .slice none 0 0]) 34 (by first | (go_simp; done) | (go_simp; rfl)) ?_
        intro g3 W' G3 GE_g3 B3 HBn hb
        have N1g3 := Aside0.mk (show g1 < g3 by have := L1.out.1; have := HZ.out; have := G3.out; omega)
        clear HBn
        replace E := E.below hb.out
        replace HB := HB.step hb.out
        replace HZ := Aside0.mk (Nat.le_trans HZ.out hb.out.size)
        replace RM := Aside0.mk (row_below RM.out hb.out)
        refine hK.out _ _ E (fun hS => ?_)
        clear hK K hb G3
        try simp only [Act.put, List.setIfInBounds_toArray, List.set_cons_zero, List.set_cons_succ]
        refine wpAnyLast_ready (rs := [3, 5]) (by kernel_rfl) (by simp) ?_
        refine AllReadyL.cons (o := Oper.mk _ _ _ _ _ _) rfl (by decide) (fun K hK => ?_) ?_
        · refine call_ 19 #[.string s] (by rfl) rfl (by first | (go_simp; done) | (go_simp; rfl)) ((quotes_Inside.walk s _ HS.out).mono ?_)
          rintro e W' ⟨v, rfl, hrow, hb'⟩
          obtain ⟨A2, c2, rfl⟩ := own_slice hrow
          rw [← HNW.out] at hrow ⊢
          have hb := Aside0.mk hb'
          have RI := Aside0.mk (row_mono hrow HB.le)
          have V2 := Aside0.mk (row_one hrow)
          clear hrow hb'
          replace E := E.below hb.out
          replace HB := HB.step hb.out
          replace HZ := Aside0.mk (Nat.le_trans HZ.out hb.out.size)
          replace RM := Aside0.mk (row_below RM.out hb.out)
          replace B3 := B3.below hb.out
          refine ⟨_, rfl, ?_⟩
          refine hK.out _ _ E (fun hS => ?_)
          clear hK K hb
          try simp only [Act.put, List.setIfInBounds_toArray, List.set_cons_zero, List.set_cons_succ]
          refine wpAnyLast_ready (rs := [5]) (by kernel_rfl) (by simp) ?_
          refine AllReadyL.cons (o := Oper.mk _ _ _ _ _ _) rfl (by decide) (fun K hK => ?_) ?_
          · refine rg_alloc HB (by rfl) (#[.int .i64 0, .slice none 0 0]) 34 (by first | (go_simp; done) | (go_simp; rfl)) ?_
            intro g4 W' G4 GE_g4 B4 HBn hb
            have N1g4 := Aside0.mk (show g1 < g4 by have := L1.out.1; have := HZ.out; have := G4.out; omega)
            have N34 := Aside0.mk (show g3 ≠ g4 by have := B3.lt; have := G4.out; omega)
            clear HBn
            replace E := E.below hb.out
            replace HB := HB.step hb.out
            replace HZ := Aside0.mk (Nat.le_trans HZ.out hb.out.size)
            replace RM := Aside0.mk (row_below RM.out hb.out)
            replace RI := Aside0.mk (row_below RI.out hb.out)
            replace B3 := B3.below hb.out
            refine hK.out _ _ E (fun hS => ?_)
            clear hK K hb G4
            try simp only [Act.put, List.setIfInBounds_toArray, List.set_cons_zero, List.set_cons_succ]
            refine wpAnyLast_ready (rs := [6]) (by kernel_rfl) (by simp) ?_
            refine AllReadyL.cons_last (o := Oper.mk _ _ _ _ _ _) rfl (by decide) (fun K hK => ?_) ?_
            · refine rg_store HB (by rfl) B3 GE_g3 34 _ _ rfl rfl rfl (by kernel_rfl) rfl (by simp [Value.oneCell']) ?_
              intro w6 B3n HBn K6
              replace E := E.other K6 (Nat.ne_of_lt N1g3.out)
              replace B4 := B4.other K6 (Ne.symm N34.out)
              replace RM := Aside0.mk (row_other RM.out B3 (by decide) K6)
              replace RI := Aside0.mk (row_other RI.out B3 (by decide) K6)
              replace B3 := B3n
              replace HB := HBn
              clear B3n HBn K6 HZ
              have HZ := Aside0.mk (Nat.le_refl 0)
              refine hK.out _ _ ?_
              clear hK K
              try simp only [Act.put, List.setIfInBounds_toArray, List.set_cons_zero, List.set_cons_succ]
              refine wpAnyLast_ready (rs := [7]) (by kernel_rfl) (by simp) ?_
              refine AllReadyL.cons_last (o := Oper.mk _ _ _ _ _ _) rfl (by decide) (fun K hK => ?_) ?_
              · refine rg_store HB (by rfl) B4 GE_g4 34 _ _ rfl rfl rfl (by kernel_rfl) rfl (by simp [Value.oneCell']) ?_
                intro w7 B4n HBn K7
                replace E := E.other K7 (Nat.ne_of_lt N1g4.out)
                replace B3 := B3.other K7 N34.out
                replace RM := Aside0.mk (row_other RM.out B4 (by decide) K7)
                replace RI := Aside0.mk (row_other RI.out B4 (by decide) K7)
                replace B4 := B4n
                replace HB := HBn
                clear B4n HBn K7 HZ
                have HZ := Aside0.mk (Nat.le_refl 0)
                refine hK.out _ _ ?_
                clear hK K
                try simp only [Act.put, List.setIfInBounds_toArray, List.set_cons_zero, List.set_cons_succ]
                refine wpAnyLast_done (by kernel_rfl) ?_ _
                refine NoPanic.normal ?_
                go_step
                go_step
                gi_meet
                case rel => exact ⟨g3, g4, c1, c2, A1, A2, rfl, rfl, GE_g3, GE_g4, ⟨N1g3.out, N1g4.out, N34.out⟩, E, B3, B4, RM, RI, HB⟩
              exact AllReadyL.nil
            exact AllReadyL.nil
          exact AllReadyL.nil
        refine AllReadyL.cons (o := Oper.mk _ _ _ _ _ _) rfl (by decide) (fun K hK => ?_) ?_
        · refine rg_alloc HB (by rfl) (#[.int .i64 0, .slice none 0 0]) 34 (by first | (go_simp; done) | (go_simp; rfl)) ?_
          intro g4 W' G4 GE_g4 B4 HBn hb
          have N1g4 := Aside0.mk (show g1 < g4 by have := L1.out.1; have := HZ.out; have := G4.out; omega)
          have N34 := Aside0.mk (show g3 ≠ g4 by have := B3.lt; have := G4.out; omega)
          clear HBn
          replace E := E.below hb.out
          replace HB := HB.step hb.out
          replace HZ := Aside0.mk (Nat.le_trans HZ.out hb.out.size)
          replace RM := Aside0.mk (row_below RM.out hb.out)
          replace B3 := B3.below hb.out
          refine hK.out _ _ E (fun hS => ?_)
          clear hK K hb G4
          try simp only [Act.put, List.setIfInBounds_toArray, List.set_cons_zero, List.set_cons_succ]
          refine wpAnyLast_ready (rs := [3]) (by kernel_rfl) (by simp) ?_
          refine AllReadyL.cons (o := Oper.mk _ _ _ _ _ _) rfl (by decide) (fun K hK => ?_) ?_
          · refine call_ 19 #[.string s] (by rfl) rfl (by first | (go_simp; done) | (go_simp; rfl)) ((quotes_Inside.walk s _ HS.out).mono ?_)
            rintro e W' ⟨v, rfl, hrow, hb'⟩
            obtain ⟨A2, c2, rfl⟩ := own_slice hrow
            rw [← HNW.out] at hrow ⊢
            have hb := Aside0.mk hb'
            have RI := Aside0.mk (row_mono hrow HB.le)
            have V2 := Aside0.mk (row_one hrow)
            clear hrow hb'
            replace E := E.below hb.out
            replace HB := HB.step hb.out
            replace HZ := Aside0.mk (Nat.le_trans HZ.out hb.out.size)
            replace RM := Aside0.mk (row_below RM.out hb.out)
            replace B3 := B3.below hb.out
            replace B4 := B4.below hb.out
            refine ⟨_, rfl, ?_⟩
            refine hK.out _ _ E (fun hS => ?_)
            clear hK K hb
            try simp only [Act.put, List.setIfInBounds_toArray, List.set_cons_zero, List.set_cons_succ]
            refine wpAnyLast_ready (rs := [6]) (by kernel_rfl) (by simp) ?_
            refine AllReadyL.cons_last (o := Oper.mk _ _ _ _ _ _) rfl (by decide) (fun K hK => ?_) ?_
            · refine rg_store HB (by rfl) B3 GE_g3 34 _ _ rfl rfl rfl (by kernel_rfl) rfl (by simp [Value.oneCell']) ?_
              intro w6 B3n HBn K6
              replace E := E.other K6 (Nat.ne_of_lt N1g3.out)
              replace B4 := B4.other K6 (Ne.symm N34.out)
              replace RM := Aside0.mk (row_other RM.out B3 (by decide) K6)
              replace RI := Aside0.mk (row_other RI.out B3 (by decide) K6)
              replace B3 := B3n
              replace HB := HBn
              clear B3n HBn K6 HZ
              have HZ := Aside0.mk (Nat.le_refl 0)
              refine hK.out _ _ ?_
              clear hK K
              try simp only [Act.put, List.setIfInBounds_toArray, List.set_cons_zero, List.set_cons_succ]
              refine wpAnyLast_ready (rs := [7]) (by kernel_rfl) (by simp) ?_
              refine AllReadyL.cons_last (o := Oper.mk _ _ _ _ _ _) rfl (by decide) (fun K hK => ?_) ?_
              · refine rg_store HB (by rfl) B4 GE_g4 34 _ _ rfl rfl rfl (by kernel_rfl) rfl (by simp [Value.oneCell']) ?_
                intro w7 B4n HBn K7
                replace E := E.other K7 (Nat.ne_of_lt N1g4.out)
                replace B3 := B3.other K7 N34.out
                replace RM := Aside0.mk (row_other RM.out B4 (by decide) K7)
                replace RI := Aside0.mk (row_other RI.out B4 (by decide) K7)
                replace B4 := B4n
                replace HB := HBn
                clear B4n HBn K7 HZ
                have HZ := Aside0.mk (Nat.le_refl 0)
                refine hK.out _ _ ?_
                clear hK K
                try simp only [Act.put, List.setIfInBounds_toArray, List.set_cons_zero, List.set_cons_succ]
                refine wpAnyLast_done (by kernel_rfl) ?_ _
                refine NoPanic.normal ?_
                go_step
                go_step
                gi_meet
                case rel => exact ⟨g3, g4, c1, c2, A1, A2, rfl, rfl, GE_g3, GE_g4, ⟨N1g3.out, N1g4.out, N34.out⟩, E, B3, B4, RM, RI, HB⟩
              exact AllReadyL.nil
            exact AllReadyL.nil
          exact AllReadyL.nil
        exact AllReadyL.nil
      refine AllReadyL.cons (o := Oper.mk _ _ _ _ _ _) rfl (by decide) (fun K hK => ?_) ?_
      · refine rg_alloc HB (by rfl) (#[.int .i64 0, .slice none 0 0]) 34 (by first | (go_simp; done) | (go_simp; rfl)) ?_
        intro g4 W' G4 GE_g4 B4 HBn hb
        have N1g4 := Aside0.mk (show g1 < g4 by have := L1.out.1; have := HZ.out; have := G4.out; omega)
        clear HBn
        replace E := E.below hb.out
        replace HB := HB.step hb.out
        replace HZ := Aside0.mk (Nat.le_trans HZ.out hb.out.size)
        replace RM := Aside0.mk (row_below RM.out hb.out)
        refine hK.out _ _ E (fun hS => ?_)
        clear hK K hb G4
        try simp only [Act.put, List.setIfInBounds_toArray, List.set_cons_zero, List.set_cons_succ]
        refine wpAnyLast_ready (rs := [3, 4]) (by kernel_rfl) (by simp) ?_
        refine AllReadyL.cons (o := Oper.mk _ _ _ _ _ _) rfl (by decide) (fun K hK => ?_) ?_
        · refine call_ 19 #[.string s] (by rfl) rfl (by first | (go_simp; done) | (go_simp; rfl)) ((quotes_Inside.walk s _ HS.out).mono ?_)
          rintro e W' ⟨v, rfl, hrow, hb'⟩
          obtain ⟨A2, c2, rfl⟩ := own_slice hrow
          rw [← HNW.out] at hrow ⊢
          have hb := Aside0.mk hb'
          have RI := Aside0.mk (row_mono hrow HB.le)
          have V2 := Aside0.mk (row_one hrow)
          clear hrow hb'
          replace E := E.below hb.out
          replace HB := HB.step hb.out
          replace HZ := Aside0.mk (Nat.le_trans HZ.out hb.out.size)
          replace RM := Aside0.mk (row_below RM.out hb.out)
          replace B4 := B4.below hb.out
          refine ⟨_, rfl, ?_⟩
          refine hK.out _ _ E (fun hS => ?_)
          clear hK K hb
          try simp only [Act.put, List.setIfInBounds_toArray, List.set_cons_zero, List.set_cons_succ]
          refine wpAnyLast_ready (rs := [4]) (by kernel_rfl) (by simp) ?_
          refine AllReadyL.cons (o := Oper.mk _ _ _ _ _ _) rfl (by decide) (fun K hK => ?_) ?_
          · refine rg_alloc HB (by rfl) (#[.int .i64 0, .slice none 0 0]) 34 (by first | (go_simp; done) | (go_simp; rfl)) ?_
            intro g3 W' G3 GE_g3 B3 HBn hb
            have N1g3 := Aside0.mk (show g1 < g3 by have := L1.out.1; have := HZ.out; have := G3.out; omega)
            have N34 := Aside0.mk (show g3 ≠ g4 by have := B4.lt; have := G3.out; omega)
            clear HBn
            replace E := E.below hb.out
            replace HB := HB.step hb.out
            replace HZ := Aside0.mk (Nat.le_trans HZ.out hb.out.size)
            replace RM := Aside0.mk (row_below RM.out hb.out)
            replace RI := Aside0.mk (row_below RI.out hb.out)
            replace B4 := B4.below hb.out
            refine hK.out _ _ E (fun hS => ?_)
            clear hK K hb G3
            try simp only [Act.put, List.setIfInBounds_toArray, List.set_cons_zero, List.set_cons_succ]
            refine wpAnyLast_ready (rs := [6]) (by kernel_rfl) (by simp) ?_
            refine AllReadyL.cons_last (o := Oper.mk _ _ _ _ _ _) rfl (by decide) (fun K hK => ?_) ?_
            · refine rg_store HB (by rfl) B3 GE_g3 34 _ _ rfl rfl rfl (by kernel_rfl) rfl (by simp [Value.oneCell']) ?_
              intro w6 B3n HBn K6
              replace E := E.other K6 (Nat.ne_of_lt N1g3.out)
              replace B4 := B4.other K6 (Ne.symm N34.out)
              replace RM := Aside0.mk (row_other RM.out B3 (by decide) K6)
              replace RI := Aside0.mk (row_other RI.out B3 (by decide) K6)
              replace B3 := B3n
              replace HB := HBn
              clear B3n HBn K6 HZ
              have HZ := Aside0.mk (Nat.le_refl 0)
              refine hK.out _ _ ?_
              clear hK K
              try simp only [Act.put, List.setIfInBounds_toArray, List.set_cons_zero, List.set_cons_succ]
              refine wpAnyLast_ready (rs := [7]) (by kernel_rfl) (by simp) ?_
              refine AllReadyL.cons_last (o := Oper.mk _ _ _ _ _ _) rfl (by decide) (fun K hK => ?_) ?_
              · refine rg_store HB (by rfl) B4 GE_g4 34 _ _ rfl rfl rfl (by kernel_rfl) rfl (by simp [Value.oneCell']) ?_
                intro w7 B4n HBn K7
                replace E := E.other K7 (Nat.ne_of_lt N1g4.out)
                replace B3 := B3.other K7 N34.out
                replace RM := Aside0.mk (row_other RM.out B4 (by decide) K7)
                replace RI := Aside0.mk (row_other RI.out B4 (by decide) K7)
                replace B4 := B4n
                replace HB := HBn
                clear B4n HBn K7 HZ
                have HZ := Aside0.mk (Nat.le_refl 0)
                refine hK.out _ _ ?_
                clear hK K
                try simp only [Act.put, List.setIfInBounds_toArray, List.set_cons_zero, List.set_cons_succ]
                refine wpAnyLast_done (by kernel_rfl) ?_ _
                refine NoPanic.normal ?_
                go_step
                go_step
                gi_meet
                case rel => exact ⟨g3, g4, c1, c2, A1, A2, rfl, rfl, GE_g3, GE_g4, ⟨N1g3.out, N1g4.out, N34.out⟩, E, B3, B4, RM, RI, HB⟩
              exact AllReadyL.nil
            exact AllReadyL.nil
          exact AllReadyL.nil
        refine AllReadyL.cons (o := Oper.mk _ _ _ _ _ _) rfl (by decide) (fun K hK => ?_) ?_
        · refine rg_alloc HB (by rfl) (#[.int .i64 0, .slice none 0 0]) 34 (by first | (go_simp; done) | (go_simp; rfl)) ?_
          intro g3 W' G3 GE_g3 B3 HBn hb
          have N1g3 := Aside0.mk (show g1 < g3 by have := L1.out.1; have := HZ.out; have := G3.out; omega)
          have N34 := Aside0.mk (show g3 ≠ g4 by have := B4.lt; have := G3.out; omega)
          clear HBn
          replace E := E.below hb.out
          replace HB := HB.step hb.out
          replace HZ := Aside0.mk (Nat.le_trans HZ.out hb.out.size)
          replace RM := Aside0.mk (row_below RM.out hb.out)
          replace B4 := B4.below hb.out
          refine hK.out _ _ E (fun hS => ?_)
          clear hK K hb G3
          try simp only [Act.put, List.setIfInBounds_toArray, List.set_cons_zero, List.set_cons_succ]
          refine wpAnyLast_ready (rs := [3]) (by kernel_rfl) (by simp) ?_
          refine AllReadyL.cons (o := Oper.mk _ _ _ _ _ _) rfl (by decide) (fun K hK => ?_) ?_
          · refine call_ 19 #[.string s] (by rfl) rfl (by first | (go_simp; done) | (go_simp; rfl)) ((quotes_Inside.walk s _ HS.out).mono ?_)
            rintro e W' ⟨v, rfl, hrow, hb'⟩
            obtain ⟨A2, c2, rfl⟩ := own_slice hrow
            rw [← HNW.out] at hrow ⊢
            have hb := Aside0.mk hb'
            have RI := Aside0.mk (row_mono hrow HB.le)
            have V2 := Aside0.mk (row_one hrow)
            clear hrow hb'
            replace E := E.below hb.out
            replace HB := HB.step hb.out
            replace HZ := Aside0.mk (Nat.le_trans HZ.out hb.out.size)
            replace RM := Aside0.mk (row_below RM.out hb.out)
            replace B3 := B3.below hb.out
            replace B4 := B4.below hb.out
            refine ⟨_, rfl, ?_⟩
            refine hK.out _ _ E (fun hS => ?_)
            clear hK K hb
            try simp only [Act.put, List.setIfInBounds_toArray, List.set_cons_zero, List.set_cons_succ]
            refine wpAnyLast_ready (rs := [6]) (by kernel_rfl) (by simp) ?_
            refine AllReadyL.cons_last (o := Oper.mk _ _ _ _ _ _) rfl (by decide) (fun K hK => ?_) ?_
            · refine rg_store HB (by rfl) B3 GE_g3 34 _ _ rfl rfl rfl (by kernel_rfl) rfl (by simp [Value.oneCell']) ?_
              intro w6 B3n HBn K6
              replace E := E.other K6 (Nat.ne_of_lt N1g3.out)
              replace B4 := B4.other K6 (Ne.symm N34.out)
              replace RM := Aside0.mk (row_other RM.out B3 (by decide) K6)
              replace RI := Aside0.mk (row_other RI.out B3 (by decide) K6)
              replace B3 := B3n
              replace HB := HBn
              clear B3n HBn K6 HZ
              have HZ := Aside0.mk (Nat.le_refl 0)
              refine hK.out _ _ ?_
              clear hK K
              try simp only [Act.put, List.setIfInBounds_toArray, List.set_cons_zero, List.set_cons_succ]
              refine wpAnyLast_ready (rs := [7]) (by kernel_rfl) (by simp) ?_
              refine AllReadyL.cons_last (o := Oper.mk _ _ _ _ _ _) rfl (by decide) (fun K hK => ?_) ?_
              · refine rg_store HB (by rfl) B4 GE_g4 34 _ _ rfl rfl rfl (by kernel_rfl) rfl (by simp [Value.oneCell']) ?_
                intro w7 B4n HBn K7
                replace E := E.other K7 (Nat.ne_of_lt N1g4.out)
                replace B3 := B3.other K7 N34.out
                replace RM := Aside0.mk (row_other RM.out B4 (by decide) K7)
                replace RI := Aside0.mk (row_other RI.out B4 (by decide) K7)
                replace B4 := B4n
                replace HB := HBn
                clear B4n HBn K7 HZ
                have HZ := Aside0.mk (Nat.le_refl 0)
                refine hK.out _ _ ?_
                clear hK K
                try simp only [Act.put, List.setIfInBounds_toArray, List.set_cons_zero, List.set_cons_succ]
                refine wpAnyLast_done (by kernel_rfl) ?_ _
                refine NoPanic.normal ?_
                go_step
                go_step
                gi_meet
                case rel => exact ⟨g3, g4, c1, c2, A1, A2, rfl, rfl, GE_g3, GE_g4, ⟨N1g3.out, N1g4.out, N34.out⟩, E, B3, B4, RM, RI, HB⟩
              exact AllReadyL.nil
            exact AllReadyL.nil
          exact AllReadyL.nil
        exact AllReadyL.nil
      exact AllReadyL.nil
    refine AllReadyL.cons (o := Oper.mk _ _ _ _ _ _) rfl (by decide) (fun K hK => ?_) ?_
    · refine rg_alloc HB (by rfl) (#[.int .i64 0, .slice none 0 0]) 34 (by first | (go_simp; done) | (go_simp; rfl)) ?_
      intro g3 W' G3 GE_g3 B3 HBn hb
      have N1g3 := Aside0.mk (show g1 < g3 by have := L1.out.1; have := HZ.out; have := G3.out; omega)
      clear HBn
      replace E := E.below hb.out
      replace HB := HB.step hb.out
      replace HZ := Aside0.mk (Nat.le_trans HZ.out hb.out.size)
      refine hK.out _ _ E (fun hS => ?_)
      clear hK K hb G3
      try simp only [Act.put, List.setIfInBounds_toArray, List.set_cons_zero, List.set_cons_succ]
      refine wpAnyLast_ready (rs := [1, 5]) (by kernel_rfl) (by simp) ?_
      refine AllReadyL.cons (o := Oper.mk _ _ _ _ _ _) rfl (by decide) (fun K hK => ?_) ?_
      · refine call_ 18 #[.string s] (by rfl) rfl (by first | (go_simp; done) | (go_simp; rfl)) ((quotes_Marks.walk s _ HS.out).mono ?_)
        rintro e W' ⟨v, rfl, hrow, hb'⟩
        obtain ⟨A1, c1, rfl⟩ := own_slice hrow
        rw [← HNW.out] at hrow ⊢
        have hb := Aside0.mk hb'
        have RM := Aside0.mk (row_mono hrow HB.le)
        have V1 := Aside0.mk (row_one hrow)
        clear hrow hb'
        replace E := E.below hb.out
        replace HB := HB.step hb.out
        replace HZ := Aside0.mk (Nat.le_trans HZ.out hb.out.size)
        replace B3 := B3.below hb.out
        refine ⟨_, rfl, ?_⟩
        refine hK.out _ _ E (fun hS => ?_)
        clear hK K hb
        try simp only [Act.put, List.setIfInBounds_toArray, List.set_cons_zero, List.set_cons_succ]
        refine wpAnyLast_ready (rs := [3, 5]) (by kernel_rfl) (by simp) ?_
        refine AllReadyL.cons (o := Oper.mk _ _ _ _ _ _) rfl (by decide) (fun K hK => ?_) ?_
        · refine call_ 19 #[.string s] (by rfl) rfl (by first | (go_simp; done) | (go_simp; rfl)) ((quotes_Inside.walk s _ HS.out).mono ?_)
          rintro e W' ⟨v, rfl, hrow, hb'⟩
          obtain ⟨A2, c2, rfl⟩ := own_slice hrow
          rw [← HNW.out] at hrow ⊢
          have hb := Aside0.mk hb'
          have RI := Aside0.mk (row_mono hrow HB.le)
          have V2 := Aside0.mk (row_one hrow)
          clear hrow hb'
          replace E := E.below hb.out
          replace HB := HB.step hb.out
          replace HZ := Aside0.mk (Nat.le_trans HZ.out hb.out.size)
          replace RM := Aside0.mk (row_below RM.out hb.out)
          replace B3 := B3.below hb.out
          refine ⟨_, rfl, ?_⟩
          refine hK.out _ _ E (fun hS => ?_)
          clear hK K hb
          try simp only [Act.put, List.setIfInBounds_toArray, List.set_cons_zero, List.set_cons_succ]
          refine wpAnyLast_ready (rs := [5]) (by kernel_rfl) (by simp) ?_
          refine AllReadyL.cons (o := Oper.mk _ _ _ _ _ _) rfl (by decide) (fun K hK => ?_) ?_
          · refine rg_alloc HB (by rfl) (#[.int .i64 0, .slice none 0 0]) 34 (by first | (go_simp; done) | (go_simp; rfl)) ?_
            intro g4 W' G4 GE_g4 B4 HBn hb
            have N1g4 := Aside0.mk (show g1 < g4 by have := L1.out.1; have := HZ.out; have := G4.out; omega)
            have N34 := Aside0.mk (show g3 ≠ g4 by have := B3.lt; have := G4.out; omega)
            clear HBn
            replace E := E.below hb.out
            replace HB := HB.step hb.out
            replace HZ := Aside0.mk (Nat.le_trans HZ.out hb.out.size)
            replace RM := Aside0.mk (row_below RM.out hb.out)
            replace RI := Aside0.mk (row_below RI.out hb.out)
            replace B3 := B3.below hb.out
            refine hK.out _ _ E (fun hS => ?_)
            clear hK K hb G4
            try simp only [Act.put, List.setIfInBounds_toArray, List.set_cons_zero, List.set_cons_succ]
            refine wpAnyLast_ready (rs := [6]) (by kernel_rfl) (by simp) ?_
            refine AllReadyL.cons_last (o := Oper.mk _ _ _ _ _ _) rfl (by decide) (fun K hK => ?_) ?_
            · refine rg_store HB (by rfl) B3 GE_g3 34 _ _ rfl rfl rfl (by kernel_rfl) rfl (by simp [Value.oneCell']) ?_
              intro w6 B3n HBn K6
              replace E := E.other K6 (Nat.ne_of_lt N1g3.out)
              replace B4 := B4.other K6 (Ne.symm N34.out)
              replace RM := Aside0.mk (row_other RM.out B3 (by decide) K6)
              replace RI := Aside0.mk (row_other RI.out B3 (by decide) K6)
              replace B3 := B3n
              replace HB := HBn
              clear B3n HBn K6 HZ
              have HZ := Aside0.mk (Nat.le_refl 0)
              refine hK.out _ _ ?_
              clear hK K
              try simp only [Act.put, List.setIfInBounds_toArray, List.set_cons_zero, List.set_cons_succ]
              refine wpAnyLast_ready (rs := [7]) (by kernel_rfl) (by simp) ?_
              refine AllReadyL.cons_last (o := Oper.mk _ _ _ _ _ _) rfl (by decide) (fun K hK => ?_) ?_
              · refine rg_store HB (by rfl) B4 GE_g4 34 _ _ rfl rfl rfl (by kernel_rfl) rfl (by simp [Value.oneCell']) ?_
                intro w7 B4n HBn K7
                replace E := E.other K7 (Nat.ne_of_lt N1g4.out)
                replace B3 := B3.other K7 N34.out
                replace RM := Aside0.mk (row_other RM.out B4 (by decide) K7)
                replace RI := Aside0.mk (row_other RI.out B4 (by decide) K7)
                replace B4 := B4n
                replace HB := HBn
                clear B4n HBn K7 HZ
                have HZ := Aside0.mk (Nat.le_refl 0)
                refine hK.out _ _ ?_
                clear hK K
                try simp only [Act.put, List.setIfInBounds_toArray, List.set_cons_zero, List.set_cons_succ]
                refine wpAnyLast_done (by kernel_rfl) ?_ _
                refine NoPanic.normal ?_
                go_step
                go_step
                gi_meet
                case rel => exact ⟨g3, g4, c1, c2, A1, A2, rfl, rfl, GE_g3, GE_g4, ⟨N1g3.out, N1g4.out, N34.out⟩, E, B3, B4, RM, RI, HB⟩
              exact AllReadyL.nil
            exact AllReadyL.nil
          exact AllReadyL.nil
        refine AllReadyL.cons (o := Oper.mk _ _ _ _ _ _) rfl (by decide) (fun K hK => ?_) ?_
        · refine rg_alloc HB (by rfl) (#[.int .i64 0, .slice none 0 0]) 34 (by first | (go_simp; done) | (go_simp; rfl)) ?_
          intro g4 W' G4 GE_g4 B4 HBn hb
          have N1g4 := Aside0.mk (show g1 < g4 by have := L1.out.1; have := HZ.out; have := G4.out; omega)
          have N34 := Aside0.mk (show g3 ≠ g4 by have := B3.lt; have := G4.out; omega)
          clear HBn
          replace E := E.below hb.out
          replace HB := HB.step hb.out
          replace HZ := Aside0.mk (Nat.le_trans HZ.out hb.out.size)
          replace RM := Aside0.mk (row_below RM.out hb.out)
          replace B3 := B3.below hb.out
          refine hK.out _ _ E (fun hS => ?_)
          clear hK K hb G4
          try simp only [Act.put, List.setIfInBounds_toArray, List.set_cons_zero, List.set_cons_succ]
          refine wpAnyLast_ready (rs := [3]) (by kernel_rfl) (by simp) ?_
          refine AllReadyL.cons (o := Oper.mk _ _ _ _ _ _) rfl (by decide) (fun K hK => ?_) ?_
          · refine call_ 19 #[.string s] (by rfl) rfl (by first | (go_simp; done) | (go_simp; rfl)) ((quotes_Inside.walk s _ HS.out).mono ?_)
            rintro e W' ⟨v, rfl, hrow, hb'⟩
            obtain ⟨A2, c2, rfl⟩ := own_slice hrow
            rw [← HNW.out] at hrow ⊢
            have hb := Aside0.mk hb'
            have RI := Aside0.mk (row_mono hrow HB.le)
            have V2 := Aside0.mk (row_one hrow)
            clear hrow hb'
            replace E := E.below hb.out
            replace HB := HB.step hb.out
            replace HZ := Aside0.mk (Nat.le_trans HZ.out hb.out.size)
            replace RM := Aside0.mk (row_below RM.out hb.out)
            replace B3 := B3.below hb.out
            replace B4 := B4.below hb.out
            refine ⟨_, rfl, ?_⟩
            refine hK.out _ _ E (fun hS => ?_)
            clear hK K hb
            try simp only [Act.put, List.setIfInBounds_toArray, List.set_cons_zero, List.set_cons_succ]
            refine wpAnyLast_ready (rs := [6]) (by kernel_rfl) (by simp) ?_
            refine AllReadyL.cons_last (o := Oper.mk _ _ _ _ _ _) rfl (by decide) (fun K hK => ?_) ?_
            · refine rg_store HB (by rfl) B3 GE_g3 34 _ _ rfl rfl rfl (by kernel_rfl) rfl (by simp [Value.oneCell']) ?_
              intro w6 B3n HBn K6
              replace E := E.other K6 (Nat.ne_of_lt N1g3.out)
              replace B4 := B4.other K6 (Ne.symm N34.out)
              replace RM := Aside0.mk (row_other RM.out B3 (by decide) K6)
              replace RI := Aside0.mk (row_other RI.out B3 (by decide) K6)
              replace B3 := B3n
              replace HB := HBn
              clear B3n HBn K6 HZ
              have HZ := Aside0.mk (Nat.le_refl 0)
              refine hK.out _ _ ?_
              clear hK K
              try simp only [Act.put, List.setIfInBounds_toArray, List.set_cons_zero, List.set_cons_succ]
              refine wpAnyLast_ready (rs := [7]) (by kernel_rfl) (by simp) ?_
              refine AllReadyL.cons_last (o := Oper.mk _ _ _ _ _ _) rfl (by decide) (fun K hK => ?_) ?_
              · refine rg_store HB (by rfl) B4 GE_g4 34 _ _ rfl rfl rfl (by kernel_rfl) rfl (by simp [Value.oneCell']) ?_
                intro w7 B4n HBn K7
                replace E := E.other K7 (Nat.ne_of_lt N1g4.out)
                replace B3 := B3.other K7 N34.out
                replace RM := Aside0.mk (row_other RM.out B4 (by decide) K7)
                replace RI := Aside0.mk (row_other RI.out B4 (by decide) K7)
                replace B4 := B4n
                replace HB := HBn
                clear B4n HBn K7 HZ
                have HZ := Aside0.mk (Nat.le_refl 0)
                refine hK.out _ _ ?_
                clear hK K
                try simp only [Act.put, List.setIfInBounds_toArray, List.set_cons_zero, List.set_cons_succ]
                refine wpAnyLast_done (by kernel_rfl) ?_ _
                refine NoPanic.normal ?_
                go_step
                go_step
                gi_meet
                case rel => exact ⟨g3, g4, c1, c2, A1, A2, rfl, rfl, GE_g3, GE_g4, ⟨N1g3.out, N1g4.out, N34.out⟩, E, B3, B4, RM, RI, HB⟩
              exact AllReadyL.nil
            exact AllReadyL.nil
          exact AllReadyL.nil
        exact AllReadyL.nil
      refine AllReadyL.cons (o := Oper.mk _ _ _ _ _ _) rfl (by decide) (fun K hK => ?_) ?_
      · refine rg_alloc HB (by rfl) (#[.int .i64 0, .slice none 0 0]) 34 (by first | (go_simp; done) | (go_simp; rfl)) ?_
        intro g4 W' G4 GE_g4 B4 HBn hb
        have N1g4 := Aside0.mk (show g1 < g4 by have := L1.out.1; have := HZ.out; have := G4.out; omega)
        have N34 := Aside0.mk (show g3 ≠ g4 by have := B3.lt; have := G4.out; omega)
        clear HBn
        replace E := E.below hb.out
        replace HB := HB.step hb.out
        replace HZ := Aside0.mk (Nat.le_trans HZ.out hb.out.size)
        replace B3 := B3.below hb.out
        refine hK.out _ _ E (fun hS => ?_)
        clear hK K hb G4
        try simp only [Act.put, List.setIfInBounds_toArray, List.set_cons_zero, List.set_cons_succ]
        refine wpAnyLast_ready (rs := [1]) (by kernel_rfl) (by simp) ?_
        refine AllReadyL.cons (o := Oper.mk _ _ _ _ _ _) rfl (by decide) (fun K hK => ?_) ?_
        · refine call_ 18 #[.string s] (by rfl) rfl (by first | (go_simp; done) | (go_simp; rfl)) ((quotes_Marks.walk s _ HS.out).mono ?_)
          rintro e W' ⟨v, rfl, hrow, hb'⟩
          obtain ⟨A1, c1, rfl⟩ := own_slice hrow
          rw [← HNW.out] at hrow ⊢
          have hb := Aside0.mk hb'
          have RM := Aside0.mk (row_mono hrow HB.le)
          have V1 := Aside0.mk (row_one hrow)
          clear hrow hb'
          replace E := E.below hb.out
          replace HB := HB.step hb.out
          replace HZ := Aside0.mk (Nat.le_trans HZ.out hb.out.size)
          replace B3 := B3.below hb.out
          replace B4 := B4.below hb.out
          refine ⟨_, rfl, ?_⟩
          refine hK.out _ _ E (fun hS => ?_)
          clear hK K hb
          try simp only [Act.put, List.setIfInBounds_toArray, List.set_cons_zero, List.set_cons_succ]
          refine wpAnyLast_ready (rs := [3]) (by kernel_rfl) (by simp) ?_
          refine AllReadyL.cons (o := Oper.mk _ _ _ _ _ _) rfl (by decide) (fun K hK => ?_) ?_
          · refine call_ 19 #[.string s] (by rfl) rfl (by first | (go_simp; done) | (go_simp; rfl)) ((quotes_Inside.walk s _ HS.out).mono ?_)
            rintro e W' ⟨v, rfl, hrow, hb'⟩
            obtain ⟨A2, c2, rfl⟩ := own_slice hrow
            rw [← HNW.out] at hrow ⊢
            have hb := Aside0.mk hb'
            have RI := Aside0.mk (row_mono hrow HB.le)
            have V2 := Aside0.mk (row_one hrow)
            clear hrow hb'
            replace E := E.below hb.out
            replace HB := HB.step hb.out
            replace HZ := Aside0.mk (Nat.le_trans HZ.out hb.out.size)
            replace RM := Aside0.mk (row_below RM.out hb.out)
            replace B3 := B3.below hb.out
            replace B4 := B4.below hb.out
            refine ⟨_, rfl, ?_⟩
            refine hK.out _ _ E (fun hS => ?_)
            clear hK K hb
            try simp only [Act.put, List.setIfInBounds_toArray, List.set_cons_zero, List.set_cons_succ]
            refine wpAnyLast_ready (rs := [6]) (by kernel_rfl) (by simp) ?_
            refine AllReadyL.cons_last (o := Oper.mk _ _ _ _ _ _) rfl (by decide) (fun K hK => ?_) ?_
            · refine rg_store HB (by rfl) B3 GE_g3 34 _ _ rfl rfl rfl (by kernel_rfl) rfl (by simp [Value.oneCell']) ?_
              intro w6 B3n HBn K6
              replace E := E.other K6 (Nat.ne_of_lt N1g3.out)
              replace B4 := B4.other K6 (Ne.symm N34.out)
              replace RM := Aside0.mk (row_other RM.out B3 (by decide) K6)
              replace RI := Aside0.mk (row_other RI.out B3 (by decide) K6)
              replace B3 := B3n
              replace HB := HBn
              clear B3n HBn K6 HZ
              have HZ := Aside0.mk (Nat.le_refl 0)
              refine hK.out _ _ ?_
              clear hK K
              try simp only [Act.put, List.setIfInBounds_toArray, List.set_cons_zero, List.set_cons_succ]
              refine wpAnyLast_ready (rs := [7]) (by kernel_rfl) (by simp) ?_
              refine AllReadyL.cons_last (o := Oper.mk _ _ _ _ _ _) rfl (by decide) (fun K hK => ?_) ?_
              · refine rg_store HB (by rfl) B4 GE_g4 34 _ _ rfl rfl rfl (by kernel_rfl) rfl (by simp [Value.oneCell']) ?_
                intro w7 B4n HBn K7
                replace E := E.other K7 (Nat.ne_of_lt N1g4.out)
                replace B3 := B3.other K7 N34.out
                replace RM := Aside0.mk (row_other RM.out B4 (by decide) K7)
                replace RI := Aside0.mk (row_other RI.out B4 (by decide) K7)
                replace B4 := B4n
                replace HB := HBn
                clear B4n HBn K7 HZ
                have HZ := Aside0.mk (Nat.le_refl 0)
                refine hK.out _ _ ?_
                clear hK K
                try simp only [Act.put, List.setIfInBounds_toArray, List.set_cons_zero, List.set_cons_succ]
                refine wpAnyLast_done (by kernel_rfl) ?_ _
                refine NoPanic.normal ?_
                go_step
                go_step
                gi_meet
                case rel => exact ⟨g3, g4, c1, c2, A1, A2, rfl, rfl, GE_g3, GE_g4, ⟨N1g3.out, N1g4.out, N34.out⟩, E, B3, B4, RM, RI, HB⟩
              exact AllReadyL.nil
            exact AllReadyL.nil
          exact AllReadyL.nil
        exact AllReadyL.nil
      exact AllReadyL.nil
    refine AllReadyL.cons (o := Oper.mk _ _ _ _ _ _) rfl (by decide) (fun K hK => ?_) ?_
    · refine rg_alloc HB (by rfl) (#[.int .i64 0, .slice none 0 0]) 34 (by first | (go_simp; done) | (go_simp; rfl)) ?_
      intro g4 W' G4 GE_g4 B4 HBn hb
      have N1g4 := Aside0.mk (show g1 < g4 by have := L1.out.1; have := HZ.out; have := G4.out; omega)
      clear HBn
      replace E := E.below hb.out
      replace HB := HB.step hb.out
      replace HZ := Aside0.mk (Nat.le_trans HZ.out hb.out.size)
      refine hK.out _ _ E (fun hS => ?_)
      clear hK K hb G4
      try simp only [Act.put, List.setIfInBounds_toArray, List.set_cons_zero, List.set_cons_succ]
      refine wpAnyLast_ready (rs := [1, 4]) (by kernel_rfl) (by simp) ?_
      refine AllReadyL.cons (o := Oper.mk _ _ _ _ _ _) rfl (by decide) (fun K hK => ?_) ?_
      · refine call_ 18 #[.string s] (by rfl) rfl (by first | (go_simp; done) | (go_simp; rfl)) ((quotes_Marks.walk s _ HS.out).mono ?_)
        rintro e W' ⟨v, rfl, hrow, hb'⟩
        obtain ⟨A1, c1, rfl⟩ := own_slice hrow
        rw [← HNW.out] at hrow ⊢
        have hb := Aside0.mk hb'
        have RM := Aside0.mk (row_mono hrow HB.le)
        have V1 := Aside0.mk (row_one hrow)
        clear hrow hb'
        replace E := E.below hb.out
        replace HB := HB.step hb.out
        replace HZ := Aside0.mk (Nat.le_trans HZ.out hb.out.size)
        replace B4 := B4.below hb.out
        refine ⟨_, rfl, ?_⟩
        refine hK.out _ _ E (fun hS => ?_)
        clear hK K hb
        try simp only [Act.put, List.setIfInBounds_toArray, List.set_cons_zero, List.set_cons_succ]
        refine wpAnyLast_ready (rs := [3, 4]) (by kernel_rfl) (by simp) ?_
        refine AllReadyL.cons (o := Oper.mk _ _ _ _ _ _) rfl (by decide) (fun K hK => ?_) ?_
        · refine call_ 19 #[.string s] (by rfl) rfl (by first | (go_simp; done) | (go_simp; rfl)) ((quotes_Inside.walk s _ HS.out).mono ?_)
          rintro e W' ⟨v, rfl, hrow, hb'⟩
          obtain ⟨A2, c2, rfl⟩ := own_slice hrow
          rw [← HNW.out] at hrow ⊢
          have hb := Aside0.mk hb'
          have RI := Aside0.mk (row_mono hrow HB.le)
          have V2 := Aside0.mk (row_one hrow)
          clear hrow hb'
          replace E := E.below hb.out
          replace HB := HB.step hb.out
          replace HZ := Aside0.mk (Nat.le_trans HZ.out hb.out.size)
          replace RM := Aside0.mk (row_below RM.out hb.out)
          replace B4 := B4.below hb.out
          refine ⟨_, rfl, ?_⟩
          refine hK.out _ _ E (fun hS => ?_)
          clear hK K hb
          try simp only [Act.put, List.setIfInBounds_toArray, List.set_cons_zero, List.set_cons_succ]
          refine wpAnyLast_ready (rs := [4]) (by kernel_rfl) (by simp) ?_
          refine AllReadyL.cons (o := Oper.mk _ _ _ _ _ _) rfl (by decide) (fun K hK => ?_) ?_
          · refine rg_alloc HB (by rfl) (#[.int .i64 0, .slice none 0 0]) 34 (by first | (go_simp; done) | (go_simp; rfl)) ?_
            intro g3 W' G3 GE_g3 B3 HBn hb
            have N1g3 := Aside0.mk (show g1 < g3 by have := L1.out.1; have := HZ.out; have := G3.out; omega)
            have N34 := Aside0.mk (show g3 ≠ g4 by have := B4.lt; have := G3.out; omega)
            clear HBn
            replace E := E.below hb.out
            replace HB := HB.step hb.out
            replace HZ := Aside0.mk (Nat.le_trans HZ.out hb.out.size)
            replace RM := Aside0.mk (row_below RM.out hb.out)
            replace RI := Aside0.mk (row_below RI.out hb.out)
            replace B4 := B4.below hb.out
            refine hK.out _ _ E (fun hS => ?_)
            clear hK K hb G3
            try simp only [Act.put, List.setIfInBounds_toArray, List.set_cons_zero, List.set_cons_succ]
            refine wpAnyLast_ready (rs := [6]) (by kernel_rfl) (by simp) ?_
            refine AllReadyL.cons_last (o := Oper.mk _ _ _ _ _ _) rfl (by decide) (fun K hK => ?_) ?_
            · refine rg_store HB (by rfl) B3 GE_g3 34 _ _ rfl rfl rfl (by kernel_rfl) rfl (by simp [Value.oneCell']) ?_
              intro w6 B3n HBn K6
              replace E := E.other K6 (Nat.ne_of_lt N1g3.out)
              replace B4 := B4.other K6 (Ne.symm N34.out)
              replace RM := Aside0.mk (row_other RM.out B3 (by decide) K6)
              replace RI := Aside0.mk (row_other RI.out B3 (by decide) K6)
              replace B3 := B3n
              replace HB := HBn
              clear B3n HBn K6 HZ
              have HZ := Aside0.mk (Nat.le_refl 0)
              refine hK.out _ _ ?_
              clear hK K
              try simp only [Act.put, List.setIfInBounds_toArray, List.set_cons_zero, List.set_cons_succ]
              refine wpAnyLast_ready (rs := [7]) (by kernel_rfl) (by simp) ?_
              refine AllReadyL.cons_last (o := Oper.mk _ _ _ _ _ _) rfl (by decide) (fun K hK => ?_) ?_
              · refine rg_store HB (by rfl) B4 GE_g4 34 _ _ rfl rfl rfl (by kernel_rfl) rfl (by simp [Value.oneCell']) ?_
                intro w7 B4n HBn K7
                replace E := E.other K7 (Nat.ne_of_lt N1g4.out)
                replace B3 := B3.other K7 N34.out
                replace RM := Aside0.mk (row_other RM.out B4 (by decide) K7)
                replace RI := Aside0.mk (row_other RI.out B4 (by decide) K7)
                replace B4 := B4n
                replace HB := HBn
                clear B4n HBn K7 HZ
                have HZ := Aside0.mk (Nat.le_refl 0)
                refine hK.out _ _ ?_
                clear hK K
                try simp only [Act.put, List.setIfInBounds_toArray, List.set_cons_zero, List.set_cons_succ]
                refine wpAnyLast_done (by kernel_rfl) ?_ _
                refine NoPanic.normal ?_
                go_step
                go_step
                gi_meet
                case rel => exact ⟨g3, g4, c1, c2, A1, A2, rfl, rfl, GE_g3, GE_g4, ⟨N1g3.out, N1g4.out, N34.out⟩, E, B3, B4, RM, RI, HB⟩
              exact AllReadyL.nil
            exact AllReadyL.nil
          exact AllReadyL.nil
        refine AllReadyL.cons (o := Oper.mk _ _ _ _ _ _) rfl (by decide) (fun K hK => ?_) ?_
        · refine rg_alloc HB (by rfl) (#[.int .i64 0, .slice none 0 0]) 34 (by first | (go_simp; done) | (go_simp; rfl)) ?_
          intro g3 W' G3 GE_g3 B3 HBn hb
          have N1g3 := Aside0.mk (show g1 < g3 by have := L1.out.1; have := HZ.out; have := G3.out; omega)
          have N34 := Aside0.mk (show g3 ≠ g4 by have := B4.lt; have := G3.out; omega)
          clear HBn
          replace E := E.below hb.out
          replace HB := HB.step hb.out
          replace HZ := Aside0.mk (Nat.le_trans HZ.out hb.out.size)
          replace RM := Aside0.mk (row_below RM.out hb.out)
          replace B4 := B4.below hb.out
          refine hK.out _ _ E (fun hS => ?_)
          clear hK K hb G3
          try simp only [Act.put, List.setIfInBounds_toArray, List.set_cons_zero, List.set_cons_succ]
          refine wpAnyLast_ready (rs := [3]) (by kernel_rfl) (by simp) ?_
          refine AllReadyL.cons (o := Oper.mk _ _ _ _ _ _) rfl (by decide) (fun K hK => ?_) ?_
          · refine call_ 19 #[.string s] (by rfl) rfl (by first | (go_simp; done) | (go_simp; rfl)) ((quotes_Inside.walk s _ HS.out).mono ?_)
            rintro e W' ⟨v, rfl, hrow, hb'⟩
            obtain ⟨A2, c2, rfl⟩ := own_slice hrow
            rw [← HNW.out] at hrow ⊢
            have hb := Aside0.mk hb'
            have RI := Aside0.mk (row_mono hrow HB.le)
            have V2 := Aside0.mk (row_one hrow)
            clear hrow hb'
            replace E := E.below hb.out
            replace HB := HB.step hb.out
            replace HZ := Aside0.mk (Nat.le_trans HZ.out hb.out.size)
            replace RM := Aside0.mk (row_below RM.out hb.out)
            replace B3 := B3.below hb.out
            replace B4 := B4.below hb.out
            refine ⟨_, rfl, ?_⟩
            refine hK.out _ _ E (fun hS => ?_)
            clear hK K hb
            try simp only [Act.put, List.setIfInBounds_toArray, List.set_cons_zero, List.set_cons_succ]
            refine wpAnyLast_ready (rs := [6]) (by kernel_rfl) (by simp) ?_
            refine AllReadyL.cons_last (o := Oper.mk _ _ _ _ _ _) rfl (by decide) (fun K hK => ?_) ?_
            · refine rg_store HB (by rfl) B3 GE_g3 34 _ _ rfl rfl rfl (by kernel_rfl) rfl (by simp [Value.oneCell']) ?_
              intro w6 B3n HBn K6
              replace E := E.other K6 (Nat.ne_of_lt N1g3.out)
              replace B4 := B4.other K6 (Ne.symm N34.out)
              replace RM := Aside0.mk (row_other RM.out B3 (by decide) K6)
              replace RI := Aside0.mk (row_other RI.out B3 (by decide) K6)
              replace B3 := B3n
              replace HB := HBn
              clear B3n HBn K6 HZ
              have HZ := Aside0.mk (Nat.le_refl 0)
              refine hK.out _ _ ?_
              clear hK K
              try simp only [Act.put, List.setIfInBounds_toArray, List.set_cons_zero, List.set_cons_succ]
              refine wpAnyLast_ready (rs := [7]) (by kernel_rfl) (by simp) ?_
              refine AllReadyL.cons_last (o := Oper.mk _ _ _ _ _ _) rfl (by decide) (fun K hK => ?_) ?_
              · refine rg_store HB (by rfl) B4 GE_g4 34 _ _ rfl rfl rfl (by kernel_rfl) rfl (by simp [Value.oneCell']) ?_
                intro w7 B4n HBn K7
                replace E := E.other K7 (Nat.ne_of_lt N1g4.out)
                replace B3 := B3.other K7 N34.out
                replace RM := Aside0.mk (row_other RM.out B4 (by decide) K7)
                replace RI := Aside0.mk (row_other RI.out B4 (by decide) K7)
                replace B4 := B4n
                replace HB := HBn
                clear B4n HBn K7 HZ
                have HZ := Aside0.mk (Nat.le_refl 0)
                refine hK.out _ _ ?_
                clear hK K
                try simp only [Act.put, List.setIfInBounds_toArray, List.set_cons_zero, List.set_cons_succ]
                refine wpAnyLast_done (by kernel_rfl) ?_ _
                refine NoPanic.normal ?_
                go_step
                go_step
                gi_meet
                case rel => exact ⟨g3, g4, c1, c2, A1, A2, rfl, rfl, GE_g3, GE_g4, ⟨N1g3.out, N1g4.out, N34.out⟩, E, B3, B4, RM, RI, HB⟩
              exact AllReadyL.nil
            exact AllReadyL.nil
          exact AllReadyL.nil
        exact AllReadyL.nil
      refine AllReadyL.cons (o := Oper.mk _ _ _ _ _ _) rfl (by decide) (fun K hK => ?_) ?_
      · refine rg_alloc HB (by rfl) (#[.int .i64 0, .slice none 0 0]) 34 (by first | (go_simp; done) | (go_simp; rfl)) ?_
        intro g3 W' G3 GE_g3 B3 HBn hb
        have N1g3 := Aside0.mk (show g1 < g3 by have := L1.out.1; have := HZ.out; have := G3.out; omega)
        have N34 := Aside0.mk (show g3 ≠ g4 by have := B4.lt; have := G3.out; omega)
        clear HBn
        replace E := E.below hb.out
        replace HB := HB.step hb.out
        replace HZ := Aside0.mk (Nat.le_trans HZ.out hb.out.size)
        replace B4 := B4.below hb.out
        refine hK.out _ _ E (fun hS => ?_)
        clear hK K hb G3
        try simp only [Act.put, List.setIfInBounds_toArray, List.set_cons_zero, List.set_cons_succ]
        refine wpAnyLast_ready (rs := [1]) (by kernel_rfl) (by simp) ?_
        refine AllReadyL.cons (o := Oper.mk _ _ _ _ _ _) rfl (by decide) (fun K hK => ?_) ?_
        · refine call_ 18 #[.string s] (by rfl) rfl (by first | (go_simp; done) | (go_simp; rfl)) ((quotes_Marks.walk s _ HS.out).mono ?_)
          rintro e W' ⟨v, rfl, hrow, hb'⟩
          obtain ⟨A1, c1, rfl⟩ := own_slice hrow
          rw [← HNW.out] at hrow ⊢
          have hb := Aside0.mk hb'
          have RM := Aside0.mk (row_mono hrow HB.le)
          have V1 := Aside0.mk (row_one hrow)
          clear hrow hb'
          replace E := E.below hb.out
          replace HB := HB.step hb.out
          replace HZ := Aside0.mk (Nat.le_trans HZ.out hb.out.size)
          replace B3 := B3.below hb.out
          replace B4 := B4.below hb.out
          refine ⟨_, rfl, ?_⟩
          refine hK.out _ _ E (fun hS => ?_)
          clear hK K hb
          try simp only [Act.put, List.setIfInBounds_toArray, List.set_cons_zero, List.set_cons_succ]
          refine wpAnyLast_ready (rs := [3]) (by kernel_rfl) (by simp) ?_
          refine AllReadyL.cons (o := Oper.mk _ _ _ _ _ _) rfl (by decide) (fun K hK => ?_) ?_
          · refine call_ 19 #[.string s] (by rfl) rfl (by first | (go_simp; done) | (go_simp; rfl)) ((quotes_Inside.walk s _ HS.out).mono ?_)
            rintro e W' ⟨v, rfl, hrow, hb'⟩
            obtain ⟨A2, c2, rfl⟩ := own_slice hrow
            rw [← HNW.out] at hrow ⊢
            have hb := Aside0.mk hb'
            have RI := Aside0.mk (row_mono hrow HB.le)
            have V2 := Aside0.mk (row_one hrow)
            clear hrow hb'
            replace E := E.below hb.out
            replace HB := HB.step hb.out
            replace HZ := Aside0.mk (Nat.le_trans HZ.out hb.out.size)
            replace RM := Aside0.mk (row_below RM.out hb.out)
            replace B3 := B3.below hb.out
            replace B4 := B4.below hb.out
            refine ⟨_, rfl, ?_⟩
            refine hK.out _ _ E (fun hS => ?_)
            clear hK K hb
            try simp only [Act.put, List.setIfInBounds_toArray, List.set_cons_zero, List.set_cons_succ]
            refine wpAnyLast_ready (rs := [6]) (by kernel_rfl) (by simp) ?_
            refine AllReadyL.cons_last (o := Oper.mk _ _ _ _ _ _) rfl (by decide) (fun K hK => ?_) ?_
            · refine rg_store HB (by rfl) B3 GE_g3 34 _ _ rfl rfl rfl (by kernel_rfl) rfl (by simp [Value.oneCell']) ?_
              intro w6 B3n HBn K6
              replace E := E.other K6 (Nat.ne_of_lt N1g3.out)
              replace B4 := B4.other K6 (Ne.symm N34.out)
              replace RM := Aside0.mk (row_other RM.out B3 (by decide) K6)
              replace RI := Aside0.mk (row_other RI.out B3 (by decide) K6)
              replace B3 := B3n
              replace HB := HBn
              clear B3n HBn K6 HZ
              have HZ := Aside0.mk (Nat.le_refl 0)
              refine hK.out _ _ ?_
              clear hK K
              try simp only [Act.put, List.setIfInBounds_toArray, List.set_cons_zero, List.set_cons_succ]
              refine wpAnyLast_ready (rs := [7]) (by kernel_rfl) (by simp) ?_
              refine AllReadyL.cons_last (o := Oper.mk _ _ _ _ _ _) rfl (by decide) (fun K hK => ?_) ?_
              · refine rg_store HB (by rfl) B4 GE_g4 34 _ _ rfl rfl rfl (by kernel_rfl) rfl (by simp [Value.oneCell']) ?_
                intro w7 B4n HBn K7
                replace E := E.other K7 (Nat.ne_of_lt N1g4.out)
                replace B3 := B3.other K7 N34.out
                replace RM := Aside0.mk (row_other RM.out B4 (by decide) K7)
                replace RI := Aside0.mk (row_other RI.out B4 (by decide) K7)
                replace B4 := B4n
                replace HB := HBn
                clear B4n HBn K7 HZ
                have HZ := Aside0.mk (Nat.le_refl 0)
                refine hK.out _ _ ?_
                clear hK K
                try simp only [Act.put, List.setIfInBounds_toArray, List.set_cons_zero, List.set_cons_succ]
                refine wpAnyLast_done (by kernel_rfl) ?_ _
                refine NoPanic.normal ?_
                go_step
                go_step
                gi_meet
                case rel => exact ⟨g3, g4, c1, c2, A1, A2, rfl, rfl, GE_g3, GE_g4, ⟨N1g3.out, N1g4.out, N34.out⟩, E, B3, B4, RM, RI, HB⟩
              exact AllReadyL.nil
            exact AllReadyL.nil
          exact AllReadyL.nil
        exact AllReadyL.nil
      exact AllReadyL.nil
    exact AllReadyL.nil
  case rest =>
    obtain ⟨g3, g4, c1, c2, A1, A2, rfl, rfl, GE_g3, GE_g4, N134, E1, B3, B4, RM, RI, HB⟩ := hcut
    gi_upto_region 3 with (first
      | (gi_at_call 84; refine (callsIn_of HF (marks_classes.tells _)).mono ?_; rintro e w2 ⟨rfl, hb2⟩; have HK2 := Aside0.mk hb2; have HBn := HB.step hb2; clear HB hb2; have HB := HBn; clear HBn)
      | ((with_reducible refine gate_dstIn (N := 5) rfl ?_); refine ev_allocIn HB rfl rfl (clsA fun _ => false) 111 ?hr ?_; (case hr => (rw [← clsA_zero]; go_simp; rfl)); intro g5 w3 G_g5 GE_g5 B_g5 HBn K_g5 KO_w3; clear HB; have HB := HBn; clear HBn)
      | ((with_reducible refine gate_dstIn (N := 6) rfl ?_); refine ev_allocIn HB rfl rfl (clsA fun _ => false) 111 ?hr ?_; (case hr => (rw [← clsA_zero]; go_simp; rfl)); intro g6 w4 G_g6 GE_g6 B_g6 HBn K_g6 KO_w4; clear HB; have HB := HBn; clear HBn)
      | ((with_reducible refine gate_In (Op.store 111 (.tmp 5) (.tmp 22)) rfl ?_); refine ev_storeIn HB (B_g5.below K_g6.out) GE_g5 rfl 111 _ _ rfl rfl rfl (sizeC' _) (by simp only [clsA_size]) (clsA_one _) ?_; intro w5 B5 HBn K5 KO5; clear HB; have HB := HBn; clear HBn)
      | ((with_reducible refine gate_In (Op.store 111 (.tmp 6) (.tmp 23)) rfl ?_); refine ev_storeIn HB (B_g6.other K5 (Nat.ne_of_gt (Nat.lt_of_lt_of_le B_g5.lt G_g6.out))) GE_g6 rfl 111 _ _ rfl rfl rfl (sizeC' _) (by simp only [clsA_size]) (clsA_one _) ?_; intro w6 B6 HBn K6 KO6; clear HB; have HB := HBn; clear HBn))
    have N0 := Aside0.mk (show g1 < g5 ∧ g3 < g5 ∧ g4 < g5 ∧ g5 < g6 by have := E1.lt; have := B3.lt; have := B4.lt; have := HK2.out.size; have := G_g5.out; have := B_g5.lt; have := G_g6.out; omega)
    have k56 := below_step K_g5.out K_g6.out
    have k26 := below_step HK2.out k56
    have n1 := N0.out
    have E1' := ((E1.below k26).other K5 (by omega)).other K6 (by omega)
    have B3' := ((B3.below k26).other K5 (by omega)).other K6 (by omega)
    have B4' := ((B4.below k26).other K5 (by omega)).other K6 (by omega)
    have B5' := B5.other K6 (by omega)
    have RM' := Aside0.mk (row_other (row_other (row_below RM.out k26) (B_g5.below K_g6.out) (by decide) K5) (B_g6.other K5 (by omega)) (by decide) K6)
    have RI' := Aside0.mk (row_other (row_other (row_below RI.out k26) (B_g5.below K_g6.out) (by decide) K5) (B_g6.other K5 (by omega)) (by decide) K6)
    have c31 := B3'.cell (i := 1) rfl
    clear E1 B3 B4 B5 RM RI k56 k26 n1 K_g5 K_g6 HK2 K5 K6 B_g5 B_g6 G_g5 G_g6 KO_w3 KO_w4 KO5 KO6
    gi_upto_region 4 with (first
      | ((with_reducible refine gate_dstIn (N := 27) rfl ?_); refine ev_makeIn HB rfl 73 77 _ _ (.agg #[.int .u64 0, .int .u64 0, .int .u64 0, .int .u64 0]) 4 32 nw rfl rfl rfl Tryd.underlying73 (by kernel_rfl) (by omega) (by unfold maxLen; omega) ?_; intro gr w7 GR RO HBn K_gr KO7; clear HB; have HB := HBn; clear HBn)
      | ((with_reducible refine gate_dstIn (N := 7) rfl ?_); refine ev_allocIn HB rfl rfl (#[.slice none 0 0]) 73 ?hr ?_; (case hr => first | (go_simp; done) | (go_simp; rfl)); intro g7 w8 G_g7 GE_g7 B_g7 HBn K_g7 KO_w8; clear HB; have HB := HBn; clear HBn)
      | ((with_reducible refine gate_In (Op.store 73 (.tmp 7) (.tmp 27)) rfl ?_); refine ev_store1In (i := 0) HB B_g7 GE_g7 rfl 73 _ _ rfl rfl (.slice (some ⟨gr, 0, none⟩) 0 nw) rfl (by simp) (by kernel_rfl) rfl ?_; intro w9 B7 HBn K_w9 KO_w9; clear HB; have HB := HBn; clear HBn))
    have N7 := Aside0.mk (show g6 < g7 by have := B6.lt; have := K_gr.out.size; have := G_g7.out; omega)
    have k78 := below_step K_gr.out K_g7.out
    have n1 := N0.out
    have n2 := N7.out
    have RO' := row_other (row_below RO K_g7.out) B_g7 (by decide) K_w9
    have E1 := (E1'.below k78).other K_w9 (by omega)
    have B3 := (B3'.below k78).other K_w9 (by omega)
    have B4 := (B4'.below k78).other K_w9 (by omega)
    have B5 := (B5'.below k78).other K_w9 (by omega)
    have B6n := (B6.below k78).other K_w9 (by omega)
    have RM := Aside0.mk (row_other (row_below RM'.out k78) B_g7 (by decide) K_w9)
    have RI := Aside0.mk (row_other (row_below RI'.out k78) B_g7 (by decide) K_w9)
    have c10 := E1.cell (i := 0) rfl
    clear E1' B3' B4' B5' B6 RM' RI' c31 k78 n1 n2 K_gr K_g7 K_w9 B_g7 RO G_g7 GR KO7 KO_w8 KO_w9
    gi_wp2_with (first
      | (gi_at_call 55; refine (callsIn_of HF (block_Blocks.calls s 32 _)).mono ?_; rintro e w10 ⟨h1, h2, rfl, GE1, GE2, A_1, A_2, HB7⟩))
    obtain ⟨v1, hv1⟩ : ∃ v1, v1 = Value.slice A1 nw c1 := ⟨_, rfl⟩
    obtain ⟨v2, hv2⟩ : ∃ v2, v2 = Value.slice A2 nw c2 := ⟨_, rfl⟩
    obtain ⟨L, hL⟩ : ∃ L : List (Nat × Array Value × Nat), L = [(g1, #[.string s], 9), (g3, #[.int .i64 s.size, .slice A1 nw c1], 34), (g4, #[.int .i64 s.size, .slice A2 nw c2], 34), (g5, clsA sgx, 111), (g6, clsA blx, 111), (h1, #[.string s], 9), (h2, #[.int .u8 32], 5)] := ⟨_, rfl⟩
    have CL : Blks L w10 := ⟨by
      rw [hL]
      intro b m
      simp at m
      rcases m with rfl | rfl | rfl | rfl | rfl | rfl | rfl
      · exact E1.below HB7.out
      · exact B3.below HB7.out
      · exact B4.below HB7.out
      · exact B5.below HB7.out
      · exact B6n.below HB7.out
      · exact A_1
      · exact A_2⟩
    have C7 := B7.below HB7.out
    have L7 := C7.lt
    have CO := row_below RO' HB7.out
    have CM := row_below RM.out HB7.out
    have CI := row_below RI.out HB7.out
    have LL : ∀ b ∈ L, b.1 < w10.heap.size := fun b m => (CL.out b m).lt
    have LT : ∀ b ∈ L, b.2.2 ≠ 77 := by
      rw [hL]
      intro b m
      simp at m
      rcases m with rfl | rfl | rfl | rfl | rfl | rfl | rfl <;> (dsimp only; decide)
    have LN : ∀ b ∈ L, b.1 ≠ g7 := by
      have := N0.out
      have := N7.out
      have := B7.lt
      rw [hL]
      intro b m
      simp at m
      rcases m with rfl | rfl | rfl | rfl | rfl | rfl | rfl <;> (dsimp only; omega)
    have M1 : (g1, #[.string s], 9) ∈ L := by rw [hL]; simp
    have M3 : (g3, #[.int .i64 s.size, .slice A1 nw c1], 34) ∈ L := by rw [hL]; simp
    have M4 : (g4, #[.int .i64 s.size, .slice A2 nw c2], 34) ∈ L := by rw [hL]; simp
    have M5 : (g5, clsA sgx, 111) ∈ L := by rw [hL]; simp
    have M6 : (g6, clsA blx, 111) ∈ L := by rw [hL]; simp
    have M7 : (h1, #[.string s], 9) ∈ L := by rw [hL]; simp
    have M8 : (h2, #[.int .u8 32], 5) ∈ L := by rw [hL]; simp
    have HBW := HB.step HB7.out
    have LH1 := A_1.lt
    have LH2 := A_2.lt
    have PL := Aside0.mk (And.intro LL (And.intro LT LN))
    have PM := Aside0.mk (And.intro M1 (And.intro M3 (And.intro M4 (And.intro M5 (And.intro M6 (And.intro M7 M8))))))
    clear E1 B3 B4 B5 B6n B7 RO' RM RI HB7 HB c10 hL LL LT LN M1 M3 M4 M5 M6 M7 M8 N0 N7 hv1 hv2 v1 v2
    refine wpIn_rangeFunc_ownH hro (by decide) (gf := 92) (lb := #[.pointer (some ⟨h1, 0, none⟩), .pointer (some ⟨h2, 0, none⟩)]) rfl f2 (enters_of Tryd.func92 (by kernel_rfl) rfl)
      (block_Blocks_1.stops F HF (9 - 1) (by decide) h1 h2 s 32 HS.out w10 A_1 A_2) Keep2.trans (fun W l o o' hl ho hc hw => Keep2.putObj LH1 LH2 W l o o' hl ho hc hw) (Below.refl _ _) (fun _ => rfl)
      (LookI s nw w L w10.heap.size g7 (.slice A1 nw c1) (.slice A2 nw c2)) (fun _ _ _ => False)
      (fun pre A B row hs hg hr => hs.kept HBW.le hg hr)
      (fun _ _ _ _ _ hs _ _ => hs)
      ⟨CL, CM, CI, ⟨_, C7, CO⟩, HBW, Nat.le_refl _⟩
      (fun x a' W => ∃ gb, w10.heap.size ≤ gb ∧ Blk W gb (blkA (cutF s (64 * ((x.val : Nat) : Int)) 32)) 85 ∧ a' = { tmps := #[.string s, .pointer (some ⟨g1, 0, none⟩), .slice none 0 0, .pointer (some ⟨g3, 0, none⟩), .pointer (some ⟨g4, 0, none⟩), .pointer (some ⟨g5, 0, none⟩), .pointer (some ⟨g6, 0, none⟩), .pointer (some ⟨g7, 0, none⟩), .int .i64 (64 * ((x.val : Nat) : Int)), .pointer (some ⟨gb, 0, none⟩), undef, undef, undef, undef, undef, undef, u16, u17, u18, u19, .tuple #[.agg (clsA sgx), .agg (clsA blx)], .tuple #[.agg (clsA sgx), .agg (clsA blx)], .agg (clsA sgx), .agg (clsA blx), .pointer (some ⟨g3, 1, none⟩), .slice A1 nw c1, .int .i64 (nw : Int), .slice (some ⟨gr, 0, none⟩) 0 nw, .string s, .func (.func 92) #[] #[.pointer (some ⟨h1, 0, none⟩), .pointer (some ⟨h2, 0, none⟩)], .int .i64 (64 * ((x.val : Nat) : Int)), .agg (blkA (cutF s (64 * ((x.val : Nat) : Int)) 32)), u32, u33, u34, u35, u36, u37, u38, u39, u40, u41, u42, u43, u44, u45, u46, u47, u48, u49, u50, u51, u52, u53, u54, u55, u56, u57, u58, u59, u60, u61, u62, u63, u64, u65, u66, u67, u68, u69, u70, u71, u72, u73, u74, u75, u76, u77, u78, u79, u80, u81, u82, u83, u84, u85], defers := [] })
      (fun x a' pre A B row hs hg hr => by
        obtain ⟨gb, h1, h2, h3⟩ := hs
        exact ⟨gb, h1, h2.kept hg (fun r e => (hr r e).2), h3⟩)
      ?assign ?body ?done ?stop
    case assign =>
      intro l pre x W K hI hK
      have HB := hI.hb
      have SZ := Aside0.mk hI.sz
      dsimp only [blkEnc]
      gi_wp2_with (first
        | ((with_reducible refine gate_dstIn (N := 9) rfl ?_); refine ev_allocIn HB rfl rfl (blkA fun _ => 0) 85 ?hr ?_; (case hr => (rw [← blkA_zero]; go_simp; rfl)); intro gb w15 G_gb GE_gb B_gb HBn K_gb KO_w15; clear HB; have HB := HBn; clear HBn)
        | ((with_reducible refine gate_In (Op.store 85 (.tmp 9) (.tmp 31)) rfl ?_); refine ev_storeIn HB B_gb GE_gb rfl 85 _ _ rfl rfl rfl (size64' _) (by rw [blkA_size, blkA_size]) (blkA_one _) ?_; intro w16 B16 HBn K_w16 KO_w16; clear HB; have HB := HBn; clear HBn))
      have hKO := KO_w15.out.trans KO_w16.out
      refine hK _ _ (hKO.from _) ?_ ?_ ⟨gb, Nat.le_trans SZ.out G_gb.out, B16, rfl⟩
      · exact (Keep2.below K_gb.out (by have := SZ.out; omega) (by have := SZ.out; omega)).trans (Keep2.other K_w16 (by have := SZ.out; have := G_gb.out; omega) (by have := SZ.out; have := G_gb.out; omega))
      · have N : ∀ g, g < w10.heap.size → g ≠ gb := fun g h => by have := SZ.out; have := G_gb.out; omega
        exact (hI.below K_gb.out).other B_gb (by decide) (by decide) (fun b m => N _ (PL.out.1 b m)) (N _ L7) HB K_w16
    case body =>
      rintro l pre x a' W hl ⟨r, hr⟩ hI ⟨gb, hgb, BX, rfl⟩ hlt
      clear hr
      have hxn : x.val < nw := by rw [HNW.out]; exact x.isLt
      have hx : 64 * x.val < s.size := by have := x.isLt; unfold nwords at this; omega
      obtain ⟨hrl1, (⟨_, hn0⟩ | ⟨gm, cap1, cur1, he, hbg1, BM, hnc1, hcm1, hcs1, HA1⟩)⟩ := row_open hI.r1
      · omega
      injection he with he1 he2 he3
      subst he1
      subst he3
      clear he2
      obtain ⟨hrl2, (⟨_, hn0⟩ | ⟨gi, cap2, cur2, he, hbg2, BI, hnc2, hcm2, hcs2, HA2⟩)⟩ := row_open hI.r2
      · omega
      injection he with he1 he2 he3
      subst he1
      subst he3
      clear he2
      have word_get : ∀ q : Nat → Bool, ((wordsOf s.size q).map (Value.int .u64))[x.val]? = some (.int .u64 (iv (wordAt s.size q x.val))) := fun q => by
        rw [List.getElem?_map, wordsOf, List.getElem?_map, List.getElem?_range x.isLt]
        rfl
      obtain ⟨MK, hMK⟩ : ∃ MK, MK = iv (wordAt s.size (mkq s) x.val) := ⟨_, rfl⟩
      obtain ⟨IN, hIN⟩ : ∃ IN, IN = iv (wordAt s.size (insS s) x.val) := ⟨_, rfl⟩
      obtain ⟨O, hO⟩ : ∃ O, O = iv (wordAt s.size (outq s) x.val) := ⟨_, rfl⟩
      obtain ⟨SG, hSG⟩ : ∃ SG, SG = iv (word fun j => sgx (cutF s (64 * ((x.val : Nat) : Int)) 32 j).toNat) := ⟨_, rfl⟩
      obtain ⟨BL, hBL⟩ : ∃ BL, BL = iv (word fun j => blx (cutF s (64 * ((x.val : Nat) : Int)) 32 j).toNat) := ⟨_, rfl⟩
      obtain ⟨SW, hSW⟩ : ∃ SW, SW = iv (wordAt s.size (sgq s) x.val) := ⟨_, rfl⟩
      obtain ⟨BW, hBW⟩ : ∃ BW, BW = iv (wordAt s.size (blq s) x.val) := ⟨_, rfl⟩
      obtain ⟨PW, hPW⟩ : ∃ PW, PW = iv (wordAt s.size (opq s) x.val) := ⟨_, rfl⟩
      obtain ⟨O2, hO2⟩ : ∃ O2, O2 = iv (wordAt s.size (fun i => outq s i && !sgq s i) x.val) := ⟨_, rfl⟩
      obtain ⟨WW, hWW⟩ : ∃ WW, WW = iv (wordAt s.size (wdq s) x.val) := ⟨_, rfl⟩
      have HGM := Aside0.mk (HA1.get (hMK ▸ word_get (mkq s)))
      have HGI := Aside0.mk (HA2.get (hIN ▸ word_get (insS s)))
      have OFF : Aside0 (64 * x.val + 64 ≤ s.size → bits .xor .u64 (if IntKind.u64.signed = true then -1 else IntKind.u64.max) (bits .or .u64 MK IN) = O) := ⟨fun h => by rw [show (if IntKind.u64.signed = true then -1 else IntKind.u64.max) = 18446744073709551615 from rfl, hMK, hIN, hO]; exact out_full s x.val h⟩
      have OFP : Aside0 (s.size < 64 * x.val + 64 → bits .and .u64 (bits .xor .u64 (if IntKind.u64.signed = true then -1 else IntKind.u64.max) (bits .or .u64 MK IN)) (IntKind.u64.wrap (IntKind.u64.wrap (2 ^ (s.size - 64 * x.val)) - 1)) = O) := ⟨fun h => by rw [show (if IntKind.u64.signed = true then -1 else IntKind.u64.max) = 18446744073709551615 from rfl, hMK, hIN, hO]; exact out_part s x.val hx h⟩
      have Q1 : Aside0 (bits .and .u64 SG O = SW) := ⟨by rw [hSG, hO, hSW]; exact class_out s x.val sgx⟩
      have Q2 : Aside0 (bits .and .u64 BL O = BW) := ⟨by rw [hBL, hO, hBW]; exact class_out s x.val blx⟩
      have Q3 : Aside0 (bits .and .u64 MK IN = PW) := ⟨by rw [hMK, hIN, hPW]; exact opens_out s x.val⟩
      have Q4 : Aside0 (bits .andNot .u64 O SW = O2) := ⟨by rw [hO, hSW, hO2]; exact word_minus s.size (outq s) (sgq s) x.val⟩
      have Q5 : Aside0 (bits .andNot .u64 O2 BW = WW) := ⟨by rw [hO2, hBW, hWW]; exact word_minus s.size _ (blq s) x.val⟩
      have MSK : Aside0 (∀ (p : Nat → Bool) (w : World), Calls Tryd.prog 85 #[.agg (blkA (cutF s (64 * ((x.val : Nat) : Int)) 32)), .agg (clsA p)] w fun e w' => e = .returned (.int .u64 (iv (word fun j => p (cutF s (64 * ((x.val : Nat) : Int)) 32 j).toNat))) ∧ Below w.heap.size w w') := ⟨fun p w => block_Mask.calls _ (fun i => cutF_range s _ 32 (by decide) i) p w⟩
      have MS1 : Aside0 (∀ w, Calls Tryd.prog 85 #[.agg (blkA (cutF s (64 * ((x.val : Nat) : Int)) 32)), .agg (clsA sgx)] w fun e w' => e = .returned (.int .u64 SG) ∧ Below w.heap.size w w') := ⟨fun w => by rw [hSG]; exact MSK.out sgx w⟩
      have MS2 : Aside0 (∀ w, Calls Tryd.prog 85 #[.agg (blkA (cutF s (64 * ((x.val : Nat) : Int)) 32)), .agg (clsA blx)] w fun e w' => e = .returned (.int .u64 BL) ∧ Below w.heap.size w w') := ⟨fun w => by rw [hBL]; exact MSK.out blx w⟩
      have ROW : Aside0 (rowN s x.val = [.int .u64 SW, .int .u64 BW, .int .u64 PW, .int .u64 WW]) := ⟨by rw [hSW, hBW, hPW, hWW]; rfl⟩
      have HX := Aside0.mk hx
      have HL : Aside0 ((pre.length + 1) * 32 ≤ 140737488355328) := ⟨by have h0 : pre.length < nwords s.size := hlt; have h1 : nwords s.size = (s.size + 63) / 64 := rfl; have := HS.out; omega⟩
      have hq1 : 64 * ((x.val : Nat) : Int) / 64 = ((x.val : Nat) : Int) := by omega
      have hq2 : Int.tdiv (64 * ((x.val : Nat) : Int)) 64 = ((x.val : Nat) : Int) := by rw [Int.tdiv_eq_ediv_of_nonneg (by omega)]; omega
      have hq3 : (0 : Int) ≤ ((x.val : Nat) : Int) := by omega
      have hq4 : ((x.val : Nat) : Int) < (nw : Int) := by omega
      have hq5 : ((x.val : Nat) : Int) ≤ 4398046511104 := by omega
      have hq6 : IntKind.i64.wrap ((x.val : Nat) : Int) = ((x.val : Nat) : Int) := by rw [i64_w]; unfold wrap64; omega
      have hbd : Aside0 (Below W.heap.size W W.drew) := ⟨below_drew (Below.refl _ _)⟩
      have HI := Aside0.mk hI
      obtain ⟨v, b7, ho⟩ := hI.out
      have VB : Aside0 (∀ k, v.ownBlock = some k → k < W.heap.size) := ⟨fun k ek => (ho.lt k ek).2⟩
      have E := hI.bs.below hbd.out
      have R1 := Aside0.mk (row_below hI.r1 hbd.out)
      have R2 := Aside0.mk (row_below hI.r2 hbd.out)
      have B7 := b7.below hbd.out
      have RO := Aside0.mk (row_below ho hbd.out)
      have HB := hI.hb.step hbd.out
      clear b7 ho
      have BX' := BX.below hbd.out
      have BM' := BM.below hbd.out
      have BI' := BI.below hbd.out
      have KO' := Aside0.mk (keepsOthers_below hbd.out)
      have HZ' := Aside0.mk hbd.out.size
      clear hMK hIN hO hSG hBL hSW hBW hPW hO2 hWW MSK word_get hrl1 hbg1 BM hnc1 hcm1 hcs1 HA1 hrl2 hbg2 BI hnc2 hcm2 hcs2 HA2 BX hI hlt hxn hx
      gi_upto_region 8 with (fail)
      refine wpIn_region_last_drew HF (S := fun W' => Blk W' g3 #[.int .i64 s.size, .slice (some ⟨gm, 0, none⟩) nw c1] 34 ∧ Blk W' g4 #[.int .i64 s.size, .slice (some ⟨gi, 0, none⟩) nw c2] 34 ∧ Blk W' gm cur1 75 ∧ Blk W' gi cur2 75) (ds := []) (by kernel_rfl) (by kernel_rfl) ⟨E.out _ PM.out.2.1, E.out _ PM.out.2.2.1, BM', BI'⟩ (fun hS => ?_)
      refine' wpAnyLast_take (i := 0) (oi := Oper.mk _ _ _ _ _ _) rfl (by kernel_rfl) (by kernel_rfl) (by kernel_rfl) (by kernel_rfl) (by kernel_rfl) (fun _ _ _ h => h) (Or.inl ⟨by rfl, ?hy27⟩) hS ?rest27
      case hy27 => (intro w hSw; (try dsimp only at hSw); first | (go_simp; done) | (go_simp; with_reducible rfl))
      try simp only [Act.put, List.setIfInBounds_toArray, List.set_cons_zero, List.set_cons_succ]
      refine wpAnyLast_take (i := 1) (oi := Oper.mk _ _ _ _ _ _) rfl (by kernel_rfl) (by kernel_rfl) (by kernel_rfl) (by kernel_rfl) (by kernel_rfl) (fun _ _ _ h => h) (rg_load1 (by rfl) (fun _ hS => hS.1.cell (i := 1) rfl) 32 _ rfl rfl (fun _ => by simp [isAgg, run_underlying Tryd.underlying32])) hS ?_
      try simp only [Act.put, List.setIfInBounds_toArray, List.set_cons_zero, List.set_cons_succ]
      refine' wpAnyLast_take (i := 2) (oi := Oper.mk _ _ _ _ _ _) rfl (by kernel_rfl) (by kernel_rfl) (by kernel_rfl) (by kernel_rfl) (by kernel_rfl) (fun _ _ _ h => h) (Or.inl ⟨by rfl, ?hy28⟩) hS ?rest28
      case hy28 => (intro w hSw; (try dsimp only at hSw); first | (go_simp; done) | (go_simp; with_reducible rfl))
      try simp only [Act.put, List.setIfInBounds_toArray, List.set_cons_zero, List.set_cons_succ]
      refine' wpAnyLast_take (i := 3) (oi := Oper.mk _ _ _ _ _ _) rfl (by kernel_rfl) (by kernel_rfl) (by kernel_rfl) (by kernel_rfl) (by kernel_rfl) (fun _ _ _ h => h) (Or.inl ⟨by rfl, ?hy29⟩) hS ?rest29
      case hy29 => (intro w hSw; (try dsimp only at hSw); first | (go_simp; done) | (go_simp; with_reducible rfl))
      try simp only [Act.put, List.setIfInBounds_toArray, List.set_cons_zero, List.set_cons_succ]
      refine wpAnyLast_take (i := 4) (oi := Oper.mk _ _ _ _ _ _) rfl (by kernel_rfl) (by kernel_rfl) (by kernel_rfl) (by kernel_rfl) (by kernel_rfl) (fun _ _ _ h => h) (rg_load1 (by rfl) (fun _ hS => hS.2.2.1.cell HGM.out) 75 _ rfl rfl (fun _ => by simp [isAgg, run_underlying Tryd.underlying75])) hS ?_
      try simp only [Act.put, List.setIfInBounds_toArray, List.set_cons_zero, List.set_cons_succ]
      refine' wpAnyLast_take (i := 5) (oi := Oper.mk _ _ _ _ _ _) rfl (by kernel_rfl) (by kernel_rfl) (by kernel_rfl) (by kernel_rfl) (by kernel_rfl) (fun _ _ _ h => h) (Or.inl ⟨by rfl, ?hy30⟩) hS ?rest30
      case hy30 => (intro w hSw; (try dsimp only at hSw); first | (go_simp; done) | (go_simp; with_reducible rfl))
      try simp only [Act.put, List.setIfInBounds_toArray, List.set_cons_zero, List.set_cons_succ]
      refine wpAnyLast_take (i := 6) (oi := Oper.mk _ _ _ _ _ _) rfl (by kernel_rfl) (by kernel_rfl) (by kernel_rfl) (by kernel_rfl) (by kernel_rfl) (fun _ _ _ h => h) (rg_load1 (by rfl) (fun _ hS => hS.2.1.cell (i := 1) rfl) 32 _ rfl rfl (fun _ => by simp [isAgg, run_underlying Tryd.underlying32])) hS ?_
      try simp only [Act.put, List.setIfInBounds_toArray, List.set_cons_zero, List.set_cons_succ]
      refine' wpAnyLast_take (i := 7) (oi := Oper.mk _ _ _ _ _ _) rfl (by kernel_rfl) (by kernel_rfl) (by kernel_rfl) (by kernel_rfl) (by kernel_rfl) (fun _ _ _ h => h) (Or.inl ⟨by rfl, ?hy31⟩) hS ?rest31
      case hy31 => (intro w hSw; (try dsimp only at hSw); first | (go_simp; done) | (go_simp; with_reducible rfl))
      try simp only [Act.put, List.setIfInBounds_toArray, List.set_cons_zero, List.set_cons_succ]
      refine' wpAnyLast_take (i := 8) (oi := Oper.mk _ _ _ _ _ _) rfl (by kernel_rfl) (by kernel_rfl) (by kernel_rfl) (by kernel_rfl) (by kernel_rfl) (fun _ _ _ h => h) (Or.inl ⟨by rfl, ?hy32⟩) hS ?rest32
      case hy32 => (intro w hSw; (try dsimp only at hSw); first | (go_simp; done) | (go_simp; with_reducible rfl))
      try simp only [Act.put, List.setIfInBounds_toArray, List.set_cons_zero, List.set_cons_succ]
      refine wpAnyLast_take (i := 9) (oi := Oper.mk _ _ _ _ _ _) rfl (by kernel_rfl) (by kernel_rfl) (by kernel_rfl) (by kernel_rfl) (by kernel_rfl) (fun _ _ _ h => h) (rg_load1 (by rfl) (fun _ hS => hS.2.2.2.cell HGI.out) 75 _ rfl rfl (fun _ => by simp [isAgg, run_underlying Tryd.underlying75])) hS ?_
      try simp only [Act.put, List.setIfInBounds_toArray, List.set_cons_zero, List.set_cons_succ]
      refine' wpAnyLast_take (i := 10) (oi := Oper.mk _ _ _ _ _ _) rfl (by kernel_rfl) (by kernel_rfl) (by kernel_rfl) (by kernel_rfl) (by kernel_rfl) (fun _ _ _ h => h) (Or.inl ⟨by rfl, ?hy33⟩) hS ?rest33
      case hy33 => (intro w hSw; (try dsimp only at hSw); first | (go_simp; done) | (go_simp; with_reducible rfl))
      try simp only [Act.put, List.setIfInBounds_toArray, List.set_cons_zero, List.set_cons_succ]
      refine' wpAnyLast_take (i := 11) (oi := Oper.mk _ _ _ _ _ _) rfl (by kernel_rfl) (by kernel_rfl) (by kernel_rfl) (by kernel_rfl) (by kernel_rfl) (fun _ _ _ h => h) (Or.inl ⟨by rfl, ?hy34⟩) hS ?rest34
      case hy34 => (intro w hSw; (try dsimp only at hSw); first | (go_simp; done) | (go_simp; with_reducible rfl))
      try simp only [Act.put, List.setIfInBounds_toArray, List.set_cons_zero, List.set_cons_succ]
      refine wpAnyLast_done (by kernel_rfl) ?_ _
      refine Straight.normal ?_
      have c1s := (E.out _ PM.out.1).cell (i := 0) rfl
      have hs1 : (s.size : Int) ≤ 281474976702464 := by have := HS.out; omega
      have hx1 : 64 * ((x.val : Nat) : Int) < s.size := by have := HX.out; omega
      clear BM' BI' hS hq1 hq2 hq4 hq6
      by_cases hfull : (s.size : Int) - 64 * ((x.val : Nat) : Int) < 64
      · gi_upto_region 13 with (fail)
        rw [OFP.out (by omega)]
        have q1 := Q1.out
        have q2 := Q2.out
        have q3 := Q3.out
        have hbd2 : Aside0 (Below W.drew.heap.size W.drew W.drew.drew) := ⟨below_drew (Below.refl _ _)⟩
        have hb := hbd2
        replace E := E.below hb.out
        replace R1 := Aside0.mk (row_below R1.out hb.out)
        replace R2 := Aside0.mk (row_below R2.out hb.out)
        replace B7 := B7.below hb.out
        replace RO := Aside0.mk (row_below RO.out hb.out)
        replace HB := HB.step hb.out
        replace BX' := BX'.below hb.out
        replace KO' := Aside0.mk (KO'.out.trans (keepsOthers_below hb.out))
        replace HZ' := Aside0.mk (Nat.le_trans HZ'.out hb.out.size)
        clear hb c1s hbd2 hfull
        refine wpIn_region_last_drew HF (S := fun W' => Blk W' gb (blkA (cutF s (64 * ((x.val : Nat) : Int)) 32)) 85 ∧ Blk W' g5 (clsA sgx) 111 ∧ Blk W' g6 (clsA blx) 111) (ds := [15]) (by kernel_rfl) (by kernel_rfl) ⟨BX', E.out _ PM.out.2.2.2.1, E.out _ PM.out.2.2.2.2.1⟩ (fun hS => ?_)
        refine wpAnyLast_take (i := 0) (oi := Oper.mk _ _ _ _ _ _) rfl (by kernel_rfl) (by kernel_rfl) (by kernel_rfl) (by kernel_rfl) (by kernel_rfl) (fun _ _ _ h => h) (rg_load (by rfl) (fun _ hS => hS.1) 85 _ rfl rfl Tryd.underlying85 rfl (size64' _)) hS ?_
        try simp only [Act.put, List.setIfInBounds_toArray, List.set_cons_zero, List.set_cons_succ]
        refine wpAnyLast_take (i := 1) (oi := Oper.mk _ _ _ _ _ _) rfl (by kernel_rfl) (by kernel_rfl) (by kernel_rfl) (by kernel_rfl) (by kernel_rfl) (fun _ _ _ h => h) (rg_load (by rfl) (fun _ hS => hS.2.1) 111 _ rfl rfl Tryd.underlying111 rfl (sizeC' _)) hS ?_
        try simp only [Act.put, List.setIfInBounds_toArray, List.set_cons_zero, List.set_cons_succ]
        refine' wpAnyLast_take (i := 3) (oi := Oper.mk _ _ _ _ _ _) rfl (by kernel_rfl) (by kernel_rfl) (by kernel_rfl) (by kernel_rfl) (by kernel_rfl) (fun _ _ _ h => h) (Or.inl ⟨by rfl, ?hy1⟩) hS ?rest1
        case hy1 => (intro w hSw; (try dsimp only at hSw); first | (go_simp; done) | (go_simp; with_reducible rfl))
        try simp only [Act.put, List.setIfInBounds_toArray, List.set_cons_zero, List.set_cons_succ]
        refine wpAnyLast_take (i := 5) (oi := Oper.mk _ _ _ _ _ _) rfl (by kernel_rfl) (by kernel_rfl) (by kernel_rfl) (by kernel_rfl) (by kernel_rfl) (fun _ _ _ h => h) (rg_load (by rfl) (fun _ hS => hS.1) 85 _ rfl rfl Tryd.underlying85 rfl (size64' _)) hS ?_
        try simp only [Act.put, List.setIfInBounds_toArray, List.set_cons_zero, List.set_cons_succ]
        refine wpAnyLast_take (i := 6) (oi := Oper.mk _ _ _ _ _ _) rfl (by kernel_rfl) (by kernel_rfl) (by kernel_rfl) (by kernel_rfl) (by kernel_rfl) (fun _ _ _ h => h) (rg_load (by rfl) (fun _ hS => hS.2.2) 111 _ rfl rfl Tryd.underlying111 rfl (sizeC' _)) hS ?_
        try simp only [Act.put, List.setIfInBounds_toArray, List.set_cons_zero, List.set_cons_succ]
        refine' wpAnyLast_take (i := 8) (oi := Oper.mk _ _ _ _ _ _) rfl (by kernel_rfl) (by kernel_rfl) (by kernel_rfl) (by kernel_rfl) (by kernel_rfl) (fun _ _ _ h => h) (Or.inl ⟨by rfl, ?hy2⟩) hS ?rest2
        case hy2 => (intro w hSw; (try dsimp only at hSw); first | (go_simp; done) | (go_simp; with_reducible rfl))
        try simp only [Act.put, List.setIfInBounds_toArray, List.set_cons_zero, List.set_cons_succ]
        refine' wpAnyLast_take (i := 10) (oi := Oper.mk _ _ _ _ _ _) rfl (by kernel_rfl) (by kernel_rfl) (by kernel_rfl) (by kernel_rfl) (by kernel_rfl) (fun _ _ _ h => h) (Or.inl ⟨by rfl, ?hy3⟩) hS ?rest3
        case hy3 => (intro w hSw; (try dsimp only at hSw); first | (go_simp; done) | (go_simp; with_reducible rfl))
        try simp only [Act.put, List.setIfInBounds_toArray, List.set_cons_zero, List.set_cons_succ]
        refine' wpAnyLast_take (i := 11) (oi := Oper.mk _ _ _ _ _ _) rfl (by kernel_rfl) (by kernel_rfl) (by kernel_rfl) (by kernel_rfl) (by kernel_rfl) (fun _ _ _ h => h) (Or.inl ⟨by rfl, ?hy4⟩) hS ?rest4
        case hy4 => (intro w hSw; (try dsimp only at hSw); first | (go_simp; done) | (go_simp; with_reducible rfl))
        try simp only [Act.put, List.setIfInBounds_toArray, List.set_cons_zero, List.set_cons_succ]
        refine' wpAnyLast_take (i := 12) (oi := Oper.mk _ _ _ _ _ _) rfl (by kernel_rfl) (by kernel_rfl) (by kernel_rfl) (by kernel_rfl) (by kernel_rfl) (fun _ _ _ h => h) (Or.inl ⟨by rfl, ?hy5⟩) hS ?rest5
        case hy5 => (intro w hSw; (try dsimp only at hSw); first | (go_simp; done) | (go_simp; with_reducible rfl))
        try simp only [Act.put, List.setIfInBounds_toArray, List.set_cons_zero, List.set_cons_succ]
        refine wpAnyLast_ready (rs := [2, 14]) (by kernel_rfl) (by simp) ?_
        refine AllReadyL.cons (o := Oper.mk _ _ _ _ _ _) rfl (by decide) (fun K hK => ?_) ?_
        · refine rg_call (by rfl) _ _ (.int .u64 SG) (by first | (go_simp; done) | (go_simp; rfl)) (MS1.out _) ?_
          intro W' hb
          replace E := E.below hb.out
          replace R1 := Aside0.mk (row_below R1.out hb.out)
          replace R2 := Aside0.mk (row_below R2.out hb.out)
          replace B7 := B7.below hb.out
          replace RO := Aside0.mk (row_below RO.out hb.out)
          replace HB := HB.step hb.out
          replace BX' := BX'.below hb.out
          replace KO' := Aside0.mk (KO'.out.trans (keepsOthers_below hb.out))
          replace HZ' := Aside0.mk (Nat.le_trans HZ'.out hb.out.size)
          refine hK.out _ _ ⟨BX', E.out _ PM.out.2.2.2.1, E.out _ PM.out.2.2.2.2.1⟩ (fun hS => ?_)
          clear hK K hb
          try simp only [Act.put, List.setIfInBounds_toArray, List.set_cons_zero, List.set_cons_succ]
          refine' wpAnyLast_take (i := 4) (oi := Oper.mk _ _ _ _ _ _) rfl (by kernel_rfl) (by kernel_rfl) (by kernel_rfl) (by kernel_rfl) (by kernel_rfl) (fun _ _ _ h => h) (Or.inl ⟨by rfl, ?hy6⟩) hS ?rest6
          case hy6 => (intro w hSw; (try dsimp only at hSw); first | (go_simp; done) | (go_simp; with_reducible rfl))
          try simp only [Act.put, List.setIfInBounds_toArray, List.set_cons_zero, List.set_cons_succ]
          refine wpAnyLast_ready (rs := [7, 14]) (by kernel_rfl) (by simp) ?_
          refine AllReadyL.cons (o := Oper.mk _ _ _ _ _ _) rfl (by decide) (fun K hK => ?_) ?_
          · refine rg_call (by rfl) _ _ (.int .u64 BL) (by first | (go_simp; done) | (go_simp; rfl)) (MS2.out _) ?_
            intro W' hb
            replace E := E.below hb.out
            replace R1 := Aside0.mk (row_below R1.out hb.out)
            replace R2 := Aside0.mk (row_below R2.out hb.out)
            replace B7 := B7.below hb.out
            replace RO := Aside0.mk (row_below RO.out hb.out)
            replace HB := HB.step hb.out
            replace BX' := BX'.below hb.out
            replace KO' := Aside0.mk (KO'.out.trans (keepsOthers_below hb.out))
            replace HZ' := Aside0.mk (Nat.le_trans HZ'.out hb.out.size)
            refine hK.out _ _ ⟨BX', E.out _ PM.out.2.2.2.1, E.out _ PM.out.2.2.2.2.1⟩ (fun hS => ?_)
            clear hK K hb
            try simp only [Act.put, List.setIfInBounds_toArray, List.set_cons_zero, List.set_cons_succ]
            refine' wpAnyLast_take (i := 9) (oi := Oper.mk _ _ _ _ _ _) rfl (by kernel_rfl) (by kernel_rfl) (by kernel_rfl) (by kernel_rfl) (by kernel_rfl) (fun _ _ _ h => h) (Or.inl ⟨by rfl, ?hy7⟩) hS ?rest7
            case hy7 => (intro w hSw; (try dsimp only at hSw); first | (go_simp; done) | (go_simp; with_reducible rfl))
            try simp only [Act.put, List.setIfInBounds_toArray, List.set_cons_zero, List.set_cons_succ]
            refine' wpAnyLast_take (i := 13) (oi := Oper.mk _ _ _ _ _ _) rfl (by kernel_rfl) (by kernel_rfl) (by kernel_rfl) (by kernel_rfl) (by kernel_rfl) (fun _ _ _ h => h) (Or.inl ⟨by rfl, ?hy8⟩) hS ?rest8
            case hy8 => (intro w hSw; (try dsimp only at hSw); first | (go_simp; done) | (go_simp; with_reducible rfl))
            try simp only [Act.put, List.setIfInBounds_toArray, List.set_cons_zero, List.set_cons_succ]
            refine wpAnyLast_ready (rs := [14]) (by kernel_rfl) (by simp) ?_
            refine AllReadyL.cons (o := Oper.mk _ _ _ _ _ _) rfl (by decide) (fun K hK => ?_) ?_
            · refine rg_alloc HB (by rfl) (#[.int .u64 0, .int .u64 0, .int .u64 0, .int .u64 0]) 77 (by first | (go_simp; done) | (go_simp; rfl)) ?_
              intro g15 W' G15 GE15 B15 HBn hb
              have N15 := Aside0.mk (show w10.heap.size ≤ g15 ∧ gb < g15 ∧ W.heap.size ≤ g15 by have := HI.out.sz; have := HZ'.out; have := BX'.lt; have := G15.out; omega)
              clear HBn G15
              replace E := E.below hb.out
              replace R1 := Aside0.mk (row_below R1.out hb.out)
              replace R2 := Aside0.mk (row_below R2.out hb.out)
              replace B7 := B7.below hb.out
              replace RO := Aside0.mk (row_below RO.out hb.out)
              replace HB := HB.step hb.out
              replace BX' := BX'.below hb.out
              replace KO' := Aside0.mk (KO'.out.trans (keepsOthers_below hb.out))
              replace HZ' := Aside0.mk (Nat.le_trans HZ'.out hb.out.size)
              refine hK.out _ _ ⟨BX', E.out _ PM.out.2.2.2.1, E.out _ PM.out.2.2.2.2.1⟩ (fun hS => ?_)
              clear hK K hb
              try simp only [Act.put, List.setIfInBounds_toArray, List.set_cons_zero, List.set_cons_succ]
              refine wpAnyLast_ready (rs := [15]) (by kernel_rfl) (by simp) ?_
              refine AllReadyL.cons_last (o := Oper.mk _ _ _ _ _ _) rfl (by decide) (fun K hK => ?_) ?_
              · refine rg_store HB (by rfl) B15 GE15 77 _ _ rfl rfl rfl (by kernel_rfl) rfl (by simp [Value.oneCell']) ?_
                intro w16 B16 HB16 K16
                replace E := E.other K16 (fun b m => by have := PL.out.1 b m; have := N15.out; omega)
                replace R1 := Aside0.mk (row_other R1.out B15 (by decide) K16)
                replace R2 := Aside0.mk (row_other R2.out B15 (by decide) K16)
                replace B7 := B7.other K16 (by have := L7; have := N15.out; omega)
                replace RO := Aside0.mk (own_move RO.out (fun k ek => K16.out.2 k (by have := VB.out k ek; have := N15.out; omega)))
                replace HB := HB16
                replace BX' := BX'.other K16 (by have := N15.out; omega)
                replace KO' := Aside0.mk (KO'.out.trans (keepsOthers_other B15 K16))
                replace HZ' := Aside0.mk (Nat.le_trans HZ'.out K16.out.1)
                refine hK.out _ _ ?_
                clear hK K HB16 K16 B15
                try simp only [Act.put, List.setIfInBounds_toArray, List.set_cons_zero, List.set_cons_succ]
                refine wpAnyLast_done (by kernel_rfl) ?_ _
                refine Straight.normal ?_
                have hq4' := Q4.out
                have hq5' := Q5.out
                have d0 := B16.cell (i := 0) rfl
                have d1 := B16.cell (i := 1) rfl
                gi_upto_region 15 with (first
                  | ((with_reducible refine gate_In (Op.store 75 (.tmp 80) (.tmp 79)) rfl ?_); refine ev_store1In (i := 3) HB B16 GE15 rfl 75 _ _ rfl rfl (.int .u64 WW) rfl (by simp) (by kernel_rfl) rfl ?_; intro w17 B17 HB17 K17 KO17))
                clear d0 d1 hq4' hq5'
                replace E := E.other K17 (fun b m => by have := PL.out.1 b m; have := N15.out; omega)
                replace R1 := Aside0.mk (row_other R1.out B16 (by decide) K17)
                replace R2 := Aside0.mk (row_other R2.out B16 (by decide) K17)
                replace B7 := B7.other K17 (by have := L7; have := N15.out; omega)
                replace RO := Aside0.mk (own_move RO.out (fun k ek => K17.out.2 k (by have := VB.out k ek; have := N15.out; omega)))
                replace HB := HB17
                have c7 := B7.cell (i := 0) rfl
                gi_wp2_with (first
                  | ((with_reducible refine gate_dstIn (N := 82) rfl ?_); refine ev_loadSIn B17 rfl 77 _ rfl rfl Tryd.underlying77 rfl (by kernel_rfl) ?_)
                  | ((with_reducible refine gate_dstIn (N := 83) rfl ?_); refine ev_litNIn HB rfl rfl #[.int .u64 SW, .int .u64 BW, .int .u64 PW, .int .u64 WW] 77 ?hr ?_; (case hr => first | (go_simp; done) | (go_simp; rfl)); intro gl w18 G_gl B_gl HB18 K_gl KO18; have ho18 := row_below RO.out K_gl.out; have b718 := B7.below K_gl.out)
                  | ((with_reducible refine gate_dstIn (N := 84) rfl ?_); refine ev_appendNIn HB18 rfl _ _ 73 77 (.agg #[.int .u64 0, .int .u64 0, .int .u64 0, .int .u64 0]) 4 32 rfl Tryd.underlying73 (by kernel_rfl) rfl (by decide) (by decide) v pre.length _ rfl ho18 gl [.int .u64 SW, .int .u64 BW, .int .u64 PW, .int .u64 WW] rfl B_gl rfl (by intro u hu; simp at hu; rcases hu with rfl | rfl | rfl | rfl <;> rfl) HL.out ?_; intro v8 w19 ho19 HB19 K19 KO19 FV; obtain ⟨g', cap', rfl⟩ := FV.out; have b719 := b718.appendedN (by decide) ho18 K19)
                  | ((with_reducible refine gate_In (Op.store 73 (.tmp 7) (.tmp 84)) rfl ?_); refine ev_store1In (i := 0) HB19 b719 GE_g7 rfl 73 _ _ rfl rfl _ rfl (by simp) (by kernel_rfl) rfl ?_; intro w20 B20 HB20 K20 KO20))
                have E20 := ((E.below K_gl.out).appendedN PL.out.2.1 ho18 K19).other K20 PL.out.2.2
                have R120 := row_other (row_appended (row_below R1.out K_gl.out) (by decide) ho18 K19) b719 (by decide) K20
                have R220 := row_other (row_appended (row_below R2.out K_gl.out) (by decide) ho18 K19) b719 (by decide) K20
                have O20 := row_other ho19 b719 (by decide) K20
                have hszF : W.heap.size ≤ w20.heap.size := Nat.le_trans HZ'.out (Nat.le_trans K17.out.1 (Nat.le_trans K_gl.out.size (Nat.le_trans K19.out.1 K20.out.1)))
                refine ⟨(((((KO'.out.trans KO17.out).trans KO18.out).trans KO19.out).trans KO20.out)).from _, Keep2.of_blk (HI.out.bs.out _ PM.out.2.2.2.2.2.1) (HI.out.bs.out _ PM.out.2.2.2.2.2.2) (E20.out _ PM.out.2.2.2.2.2.1) (E20.out _ PM.out.2.2.2.2.2.2) hszF, E20, R120, R220, ⟨_, B20, ?_⟩, HB20, Nat.le_trans HI.out.sz hszF⟩
                rw [flatR_snoc, ROW.out, List.length_append]
                exact O20
              exact AllReadyL.nil
            exact AllReadyL.nil
          refine AllReadyL.cons (o := Oper.mk _ _ _ _ _ _) rfl (by decide) (fun K hK => ?_) ?_
          · refine rg_alloc HB (by rfl) (#[.int .u64 0, .int .u64 0, .int .u64 0, .int .u64 0]) 77 (by first | (go_simp; done) | (go_simp; rfl)) ?_
            intro g15 W' G15 GE15 B15 HBn hb
            have N15 := Aside0.mk (show w10.heap.size ≤ g15 ∧ gb < g15 ∧ W.heap.size ≤ g15 by have := HI.out.sz; have := HZ'.out; have := BX'.lt; have := G15.out; omega)
            clear HBn G15
            replace E := E.below hb.out
            replace R1 := Aside0.mk (row_below R1.out hb.out)
            replace R2 := Aside0.mk (row_below R2.out hb.out)
            replace B7 := B7.below hb.out
            replace RO := Aside0.mk (row_below RO.out hb.out)
            replace HB := HB.step hb.out
            replace BX' := BX'.below hb.out
            replace KO' := Aside0.mk (KO'.out.trans (keepsOthers_below hb.out))
            replace HZ' := Aside0.mk (Nat.le_trans HZ'.out hb.out.size)
            refine hK.out _ _ ⟨BX', E.out _ PM.out.2.2.2.1, E.out _ PM.out.2.2.2.2.1⟩ (fun hS => ?_)
            clear hK K hb
            try simp only [Act.put, List.setIfInBounds_toArray, List.set_cons_zero, List.set_cons_succ]
            refine wpAnyLast_ready (rs := [7]) (by kernel_rfl) (by simp) ?_
            refine AllReadyL.cons (o := Oper.mk _ _ _ _ _ _) rfl (by decide) (fun K hK => ?_) ?_
            · refine rg_call (by rfl) _ _ (.int .u64 BL) (by first | (go_simp; done) | (go_simp; rfl)) (MS2.out _) ?_
              intro W' hb
              replace E := E.below hb.out
              replace R1 := Aside0.mk (row_below R1.out hb.out)
              replace R2 := Aside0.mk (row_below R2.out hb.out)
              replace B7 := B7.below hb.out
              replace RO := Aside0.mk (row_below RO.out hb.out)
              replace HB := HB.step hb.out
              replace BX' := BX'.below hb.out
              replace KO' := Aside0.mk (KO'.out.trans (keepsOthers_below hb.out))
              replace HZ' := Aside0.mk (Nat.le_trans HZ'.out hb.out.size)
              replace B15 := B15.below hb.out
              refine hK.out _ _ ⟨BX', E.out _ PM.out.2.2.2.1, E.out _ PM.out.2.2.2.2.1⟩ (fun hS => ?_)
              clear hK K hb
              try simp only [Act.put, List.setIfInBounds_toArray, List.set_cons_zero, List.set_cons_succ]
              refine' wpAnyLast_take (i := 9) (oi := Oper.mk _ _ _ _ _ _) rfl (by kernel_rfl) (by kernel_rfl) (by kernel_rfl) (by kernel_rfl) (by kernel_rfl) (fun _ _ _ h => h) (Or.inl ⟨by rfl, ?hy9⟩) hS ?rest9
              case hy9 => (intro w hSw; (try dsimp only at hSw); first | (go_simp; done) | (go_simp; with_reducible rfl))
              try simp only [Act.put, List.setIfInBounds_toArray, List.set_cons_zero, List.set_cons_succ]
              refine' wpAnyLast_take (i := 13) (oi := Oper.mk _ _ _ _ _ _) rfl (by kernel_rfl) (by kernel_rfl) (by kernel_rfl) (by kernel_rfl) (by kernel_rfl) (fun _ _ _ h => h) (Or.inl ⟨by rfl, ?hy10⟩) hS ?rest10
              case hy10 => (intro w hSw; (try dsimp only at hSw); first | (go_simp; done) | (go_simp; with_reducible rfl))
              try simp only [Act.put, List.setIfInBounds_toArray, List.set_cons_zero, List.set_cons_succ]
              refine wpAnyLast_ready (rs := [15]) (by kernel_rfl) (by simp) ?_
              refine AllReadyL.cons_last (o := Oper.mk _ _ _ _ _ _) rfl (by decide) (fun K hK => ?_) ?_
              · refine rg_store HB (by rfl) B15 GE15 77 _ _ rfl rfl rfl (by kernel_rfl) rfl (by simp [Value.oneCell']) ?_
                intro w16 B16 HB16 K16
                replace E := E.other K16 (fun b m => by have := PL.out.1 b m; have := N15.out; omega)
                replace R1 := Aside0.mk (row_other R1.out B15 (by decide) K16)
                replace R2 := Aside0.mk (row_other R2.out B15 (by decide) K16)
                replace B7 := B7.other K16 (by have := L7; have := N15.out; omega)
                replace RO := Aside0.mk (own_move RO.out (fun k ek => K16.out.2 k (by have := VB.out k ek; have := N15.out; omega)))
                replace HB := HB16
                replace BX' := BX'.other K16 (by have := N15.out; omega)
                replace KO' := Aside0.mk (KO'.out.trans (keepsOthers_other B15 K16))
                replace HZ' := Aside0.mk (Nat.le_trans HZ'.out K16.out.1)
                refine hK.out _ _ ?_
                clear hK K HB16 K16 B15
                try simp only [Act.put, List.setIfInBounds_toArray, List.set_cons_zero, List.set_cons_succ]
                refine wpAnyLast_done (by kernel_rfl) ?_ _
                refine Straight.normal ?_
                have hq4' := Q4.out
                have hq5' := Q5.out
                have d0 := B16.cell (i := 0) rfl
                have d1 := B16.cell (i := 1) rfl
                gi_upto_region 15 with (first
                  | ((with_reducible refine gate_In (Op.store 75 (.tmp 80) (.tmp 79)) rfl ?_); refine ev_store1In (i := 3) HB B16 GE15 rfl 75 _ _ rfl rfl (.int .u64 WW) rfl (by simp) (by kernel_rfl) rfl ?_; intro w17 B17 HB17 K17 KO17))
                clear d0 d1 hq4' hq5'
                replace E := E.other K17 (fun b m => by have := PL.out.1 b m; have := N15.out; omega)
                replace R1 := Aside0.mk (row_other R1.out B16 (by decide) K17)
                replace R2 := Aside0.mk (row_other R2.out B16 (by decide) K17)
                replace B7 := B7.other K17 (by have := L7; have := N15.out; omega)
                replace RO := Aside0.mk (own_move RO.out (fun k ek => K17.out.2 k (by have := VB.out k ek; have := N15.out; omega)))
                replace HB := HB17
                have c7 := B7.cell (i := 0) rfl
                gi_wp2_with (first
                  | ((with_reducible refine gate_dstIn (N := 82) rfl ?_); refine ev_loadSIn B17 rfl 77 _ rfl rfl Tryd.underlying77 rfl (by kernel_rfl) ?_)
                  | ((with_reducible refine gate_dstIn (N := 83) rfl ?_); refine ev_litNIn HB rfl rfl #[.int .u64 SW, .int .u64 BW, .int .u64 PW, .int .u64 WW] 77 ?hr ?_; (case hr => first | (go_simp; done) | (go_simp; rfl)); intro gl w18 G_gl B_gl HB18 K_gl KO18; have ho18 := row_below RO.out K_gl.out; have b718 := B7.below K_gl.out)
                  | ((with_reducible refine gate_dstIn (N := 84) rfl ?_); refine ev_appendNIn HB18 rfl _ _ 73 77 (.agg #[.int .u64 0, .int .u64 0, .int .u64 0, .int .u64 0]) 4 32 rfl Tryd.underlying73 (by kernel_rfl) rfl (by decide) (by decide) v pre.length _ rfl ho18 gl [.int .u64 SW, .int .u64 BW, .int .u64 PW, .int .u64 WW] rfl B_gl rfl (by intro u hu; simp at hu; rcases hu with rfl | rfl | rfl | rfl <;> rfl) HL.out ?_; intro v8 w19 ho19 HB19 K19 KO19 FV; obtain ⟨g', cap', rfl⟩ := FV.out; have b719 := b718.appendedN (by decide) ho18 K19)
                  | ((with_reducible refine gate_In (Op.store 73 (.tmp 7) (.tmp 84)) rfl ?_); refine ev_store1In (i := 0) HB19 b719 GE_g7 rfl 73 _ _ rfl rfl _ rfl (by simp) (by kernel_rfl) rfl ?_; intro w20 B20 HB20 K20 KO20))
                have E20 := ((E.below K_gl.out).appendedN PL.out.2.1 ho18 K19).other K20 PL.out.2.2
                have R120 := row_other (row_appended (row_below R1.out K_gl.out) (by decide) ho18 K19) b719 (by decide) K20
                have R220 := row_other (row_appended (row_below R2.out K_gl.out) (by decide) ho18 K19) b719 (by decide) K20
                have O20 := row_other ho19 b719 (by decide) K20
                have hszF : W.heap.size ≤ w20.heap.size := Nat.le_trans HZ'.out (Nat.le_trans K17.out.1 (Nat.le_trans K_gl.out.size (Nat.le_trans K19.out.1 K20.out.1)))
                refine ⟨(((((KO'.out.trans KO17.out).trans KO18.out).trans KO19.out).trans KO20.out)).from _, Keep2.of_blk (HI.out.bs.out _ PM.out.2.2.2.2.2.1) (HI.out.bs.out _ PM.out.2.2.2.2.2.2) (E20.out _ PM.out.2.2.2.2.2.1) (E20.out _ PM.out.2.2.2.2.2.2) hszF, E20, R120, R220, ⟨_, B20, ?_⟩, HB20, Nat.le_trans HI.out.sz hszF⟩
                rw [flatR_snoc, ROW.out, List.length_append]
                exact O20
              exact AllReadyL.nil
            exact AllReadyL.nil
          exact AllReadyL.nil
        refine AllReadyL.cons (o := Oper.mk _ _ _ _ _ _) rfl (by decide) (fun K hK => ?_) ?_
        · refine rg_alloc HB (by rfl) (#[.int .u64 0, .int .u64 0, .int .u64 0, .int .u64 0]) 77 (by first | (go_simp; done) | (go_simp; rfl)) ?_
          intro g15 W' G15 GE15 B15 HBn hb
          have N15 := Aside0.mk (show w10.heap.size ≤ g15 ∧ gb < g15 ∧ W.heap.size ≤ g15 by have := HI.out.sz; have := HZ'.out; have := BX'.lt; have := G15.out; omega)
          clear HBn G15
          replace E := E.below hb.out
          replace R1 := Aside0.mk (row_below R1.out hb.out)
          replace R2 := Aside0.mk (row_below R2.out hb.out)
          replace B7 := B7.below hb.out
          replace RO := Aside0.mk (row_below RO.out hb.out)
          replace HB := HB.step hb.out
          replace BX' := BX'.below hb.out
          replace KO' := Aside0.mk (KO'.out.trans (keepsOthers_below hb.out))
          replace HZ' := Aside0.mk (Nat.le_trans HZ'.out hb.out.size)
          refine hK.out _ _ ⟨BX', E.out _ PM.out.2.2.2.1, E.out _ PM.out.2.2.2.2.1⟩ (fun hS => ?_)
          clear hK K hb
          try simp only [Act.put, List.setIfInBounds_toArray, List.set_cons_zero, List.set_cons_succ]
          refine wpAnyLast_ready (rs := [2]) (by kernel_rfl) (by simp) ?_
          refine AllReadyL.cons (o := Oper.mk _ _ _ _ _ _) rfl (by decide) (fun K hK => ?_) ?_
          · refine rg_call (by rfl) _ _ (.int .u64 SG) (by first | (go_simp; done) | (go_simp; rfl)) (MS1.out _) ?_
            intro W' hb
            replace E := E.below hb.out
            replace R1 := Aside0.mk (row_below R1.out hb.out)
            replace R2 := Aside0.mk (row_below R2.out hb.out)
            replace B7 := B7.below hb.out
            replace RO := Aside0.mk (row_below RO.out hb.out)
            replace HB := HB.step hb.out
            replace BX' := BX'.below hb.out
            replace KO' := Aside0.mk (KO'.out.trans (keepsOthers_below hb.out))
            replace HZ' := Aside0.mk (Nat.le_trans HZ'.out hb.out.size)
            replace B15 := B15.below hb.out
            refine hK.out _ _ ⟨BX', E.out _ PM.out.2.2.2.1, E.out _ PM.out.2.2.2.2.1⟩ (fun hS => ?_)
            clear hK K hb
            try simp only [Act.put, List.setIfInBounds_toArray, List.set_cons_zero, List.set_cons_succ]
            refine' wpAnyLast_take (i := 4) (oi := Oper.mk _ _ _ _ _ _) rfl (by kernel_rfl) (by kernel_rfl) (by kernel_rfl) (by kernel_rfl) (by kernel_rfl) (fun _ _ _ h => h) (Or.inl ⟨by rfl, ?hy11⟩) hS ?rest11
            case hy11 => (intro w hSw; (try dsimp only at hSw); first | (go_simp; done) | (go_simp; with_reducible rfl))
            try simp only [Act.put, List.setIfInBounds_toArray, List.set_cons_zero, List.set_cons_succ]
            refine wpAnyLast_ready (rs := [7]) (by kernel_rfl) (by simp) ?_
            refine AllReadyL.cons (o := Oper.mk _ _ _ _ _ _) rfl (by decide) (fun K hK => ?_) ?_
            · refine rg_call (by rfl) _ _ (.int .u64 BL) (by first | (go_simp; done) | (go_simp; rfl)) (MS2.out _) ?_
              intro W' hb
              replace E := E.below hb.out
              replace R1 := Aside0.mk (row_below R1.out hb.out)
              replace R2 := Aside0.mk (row_below R2.out hb.out)
              replace B7 := B7.below hb.out
              replace RO := Aside0.mk (row_below RO.out hb.out)
              replace HB := HB.step hb.out
              replace BX' := BX'.below hb.out
              replace KO' := Aside0.mk (KO'.out.trans (keepsOthers_below hb.out))
              replace HZ' := Aside0.mk (Nat.le_trans HZ'.out hb.out.size)
              replace B15 := B15.below hb.out
              refine hK.out _ _ ⟨BX', E.out _ PM.out.2.2.2.1, E.out _ PM.out.2.2.2.2.1⟩ (fun hS => ?_)
              clear hK K hb
              try simp only [Act.put, List.setIfInBounds_toArray, List.set_cons_zero, List.set_cons_succ]
              refine' wpAnyLast_take (i := 9) (oi := Oper.mk _ _ _ _ _ _) rfl (by kernel_rfl) (by kernel_rfl) (by kernel_rfl) (by kernel_rfl) (by kernel_rfl) (fun _ _ _ h => h) (Or.inl ⟨by rfl, ?hy12⟩) hS ?rest12
              case hy12 => (intro w hSw; (try dsimp only at hSw); first | (go_simp; done) | (go_simp; with_reducible rfl))
              try simp only [Act.put, List.setIfInBounds_toArray, List.set_cons_zero, List.set_cons_succ]
              refine' wpAnyLast_take (i := 13) (oi := Oper.mk _ _ _ _ _ _) rfl (by kernel_rfl) (by kernel_rfl) (by kernel_rfl) (by kernel_rfl) (by kernel_rfl) (fun _ _ _ h => h) (Or.inl ⟨by rfl, ?hy13⟩) hS ?rest13
              case hy13 => (intro w hSw; (try dsimp only at hSw); first | (go_simp; done) | (go_simp; with_reducible rfl))
              try simp only [Act.put, List.setIfInBounds_toArray, List.set_cons_zero, List.set_cons_succ]
              refine wpAnyLast_ready (rs := [15]) (by kernel_rfl) (by simp) ?_
              refine AllReadyL.cons_last (o := Oper.mk _ _ _ _ _ _) rfl (by decide) (fun K hK => ?_) ?_
              · refine rg_store HB (by rfl) B15 GE15 77 _ _ rfl rfl rfl (by kernel_rfl) rfl (by simp [Value.oneCell']) ?_
                intro w16 B16 HB16 K16
                replace E := E.other K16 (fun b m => by have := PL.out.1 b m; have := N15.out; omega)
                replace R1 := Aside0.mk (row_other R1.out B15 (by decide) K16)
                replace R2 := Aside0.mk (row_other R2.out B15 (by decide) K16)
                replace B7 := B7.other K16 (by have := L7; have := N15.out; omega)
                replace RO := Aside0.mk (own_move RO.out (fun k ek => K16.out.2 k (by have := VB.out k ek; have := N15.out; omega)))
                replace HB := HB16
                replace BX' := BX'.other K16 (by have := N15.out; omega)
                replace KO' := Aside0.mk (KO'.out.trans (keepsOthers_other B15 K16))
                replace HZ' := Aside0.mk (Nat.le_trans HZ'.out K16.out.1)
                refine hK.out _ _ ?_
                clear hK K HB16 K16 B15
                try simp only [Act.put, List.setIfInBounds_toArray, List.set_cons_zero, List.set_cons_succ]
                refine wpAnyLast_done (by kernel_rfl) ?_ _
                refine Straight.normal ?_
                have hq4' := Q4.out
                have hq5' := Q5.out
                have d0 := B16.cell (i := 0) rfl
                have d1 := B16.cell (i := 1) rfl
                gi_upto_region 15 with (first
                  | ((with_reducible refine gate_In (Op.store 75 (.tmp 80) (.tmp 79)) rfl ?_); refine ev_store1In (i := 3) HB B16 GE15 rfl 75 _ _ rfl rfl (.int .u64 WW) rfl (by simp) (by kernel_rfl) rfl ?_; intro w17 B17 HB17 K17 KO17))
                clear d0 d1 hq4' hq5'
                replace E := E.other K17 (fun b m => by have := PL.out.1 b m; have := N15.out; omega)
                replace R1 := Aside0.mk (row_other R1.out B16 (by decide) K17)
                replace R2 := Aside0.mk (row_other R2.out B16 (by decide) K17)
                replace B7 := B7.other K17 (by have := L7; have := N15.out; omega)
                replace RO := Aside0.mk (own_move RO.out (fun k ek => K17.out.2 k (by have := VB.out k ek; have := N15.out; omega)))
                replace HB := HB17
                have c7 := B7.cell (i := 0) rfl
                gi_wp2_with (first
                  | ((with_reducible refine gate_dstIn (N := 82) rfl ?_); refine ev_loadSIn B17 rfl 77 _ rfl rfl Tryd.underlying77 rfl (by kernel_rfl) ?_)
                  | ((with_reducible refine gate_dstIn (N := 83) rfl ?_); refine ev_litNIn HB rfl rfl #[.int .u64 SW, .int .u64 BW, .int .u64 PW, .int .u64 WW] 77 ?hr ?_; (case hr => first | (go_simp; done) | (go_simp; rfl)); intro gl w18 G_gl B_gl HB18 K_gl KO18; have ho18 := row_below RO.out K_gl.out; have b718 := B7.below K_gl.out)
                  | ((with_reducible refine gate_dstIn (N := 84) rfl ?_); refine ev_appendNIn HB18 rfl _ _ 73 77 (.agg #[.int .u64 0, .int .u64 0, .int .u64 0, .int .u64 0]) 4 32 rfl Tryd.underlying73 (by kernel_rfl) rfl (by decide) (by decide) v pre.length _ rfl ho18 gl [.int .u64 SW, .int .u64 BW, .int .u64 PW, .int .u64 WW] rfl B_gl rfl (by intro u hu; simp at hu; rcases hu with rfl | rfl | rfl | rfl <;> rfl) HL.out ?_; intro v8 w19 ho19 HB19 K19 KO19 FV; obtain ⟨g', cap', rfl⟩ := FV.out; have b719 := b718.appendedN (by decide) ho18 K19)
                  | ((with_reducible refine gate_In (Op.store 73 (.tmp 7) (.tmp 84)) rfl ?_); refine ev_store1In (i := 0) HB19 b719 GE_g7 rfl 73 _ _ rfl rfl _ rfl (by simp) (by kernel_rfl) rfl ?_; intro w20 B20 HB20 K20 KO20))
                have E20 := ((E.below K_gl.out).appendedN PL.out.2.1 ho18 K19).other K20 PL.out.2.2
                have R120 := row_other (row_appended (row_below R1.out K_gl.out) (by decide) ho18 K19) b719 (by decide) K20
                have R220 := row_other (row_appended (row_below R2.out K_gl.out) (by decide) ho18 K19) b719 (by decide) K20
                have O20 := row_other ho19 b719 (by decide) K20
                have hszF : W.heap.size ≤ w20.heap.size := Nat.le_trans HZ'.out (Nat.le_trans K17.out.1 (Nat.le_trans K_gl.out.size (Nat.le_trans K19.out.1 K20.out.1)))
                refine ⟨(((((KO'.out.trans KO17.out).trans KO18.out).trans KO19.out).trans KO20.out)).from _, Keep2.of_blk (HI.out.bs.out _ PM.out.2.2.2.2.2.1) (HI.out.bs.out _ PM.out.2.2.2.2.2.2) (E20.out _ PM.out.2.2.2.2.2.1) (E20.out _ PM.out.2.2.2.2.2.2) hszF, E20, R120, R220, ⟨_, B20, ?_⟩, HB20, Nat.le_trans HI.out.sz hszF⟩
                rw [flatR_snoc, ROW.out, List.length_append]
                exact O20
              exact AllReadyL.nil
            exact AllReadyL.nil
          exact AllReadyL.nil
        exact AllReadyL.nil
      · gi_upto_region 13 with (fail)
        rw [OFF.out (by omega)]
        have q1 := Q1.out
        have q2 := Q2.out
        have q3 := Q3.out
        have hbd2 : Aside0 (Below W.drew.heap.size W.drew W.drew.drew) := ⟨below_drew (Below.refl _ _)⟩
        have hb := hbd2
        replace E := E.below hb.out
        replace R1 := Aside0.mk (row_below R1.out hb.out)
        replace R2 := Aside0.mk (row_below R2.out hb.out)
        replace B7 := B7.below hb.out
        replace RO := Aside0.mk (row_below RO.out hb.out)
        replace HB := HB.step hb.out
        replace BX' := BX'.below hb.out
        replace KO' := Aside0.mk (KO'.out.trans (keepsOthers_below hb.out))
        replace HZ' := Aside0.mk (Nat.le_trans HZ'.out hb.out.size)
        clear hb c1s hbd2 hfull
        refine wpIn_region_last_drew HF (S := fun W' => Blk W' gb (blkA (cutF s (64 * ((x.val : Nat) : Int)) 32)) 85 ∧ Blk W' g5 (clsA sgx) 111 ∧ Blk W' g6 (clsA blx) 111) (ds := [15]) (by kernel_rfl) (by kernel_rfl) ⟨BX', E.out _ PM.out.2.2.2.1, E.out _ PM.out.2.2.2.2.1⟩ (fun hS => ?_)
        refine wpAnyLast_take (i := 0) (oi := Oper.mk _ _ _ _ _ _) rfl (by kernel_rfl) (by kernel_rfl) (by kernel_rfl) (by kernel_rfl) (by kernel_rfl) (fun _ _ _ h => h) (rg_load (by rfl) (fun _ hS => hS.1) 85 _ rfl rfl Tryd.underlying85 rfl (size64' _)) hS ?_
        try simp only [Act.put, List.setIfInBounds_toArray, List.set_cons_zero, List.set_cons_succ]
        refine wpAnyLast_take (i := 1) (oi := Oper.mk _ _ _ _ _ _) rfl (by kernel_rfl) (by kernel_rfl) (by kernel_rfl) (by kernel_rfl) (by kernel_rfl) (fun _ _ _ h => h) (rg_load (by rfl) (fun _ hS => hS.2.1) 111 _ rfl rfl Tryd.underlying111 rfl (sizeC' _)) hS ?_
        try simp only [Act.put, List.setIfInBounds_toArray, List.set_cons_zero, List.set_cons_succ]
        refine' wpAnyLast_take (i := 3) (oi := Oper.mk _ _ _ _ _ _) rfl (by kernel_rfl) (by kernel_rfl) (by kernel_rfl) (by kernel_rfl) (by kernel_rfl) (fun _ _ _ h => h) (Or.inl ⟨by rfl, ?hy14⟩) hS ?rest14
        case hy14 => (intro w hSw; (try dsimp only at hSw); first | (go_simp; done) | (go_simp; with_reducible rfl))
        try simp only [Act.put, List.setIfInBounds_toArray, List.set_cons_zero, List.set_cons_succ]
        refine wpAnyLast_take (i := 5) (oi := Oper.mk _ _ _ _ _ _) rfl (by kernel_rfl) (by kernel_rfl) (by kernel_rfl) (by kernel_rfl) (by kernel_rfl) (fun _ _ _ h => h) (rg_load (by rfl) (fun _ hS => hS.1) 85 _ rfl rfl Tryd.underlying85 rfl (size64' _)) hS ?_
        try simp only [Act.put, List.setIfInBounds_toArray, List.set_cons_zero, List.set_cons_succ]
        refine wpAnyLast_take (i := 6) (oi := Oper.mk _ _ _ _ _ _) rfl (by kernel_rfl) (by kernel_rfl) (by kernel_rfl) (by kernel_rfl) (by kernel_rfl) (fun _ _ _ h => h) (rg_load (by rfl) (fun _ hS => hS.2.2) 111 _ rfl rfl Tryd.underlying111 rfl (sizeC' _)) hS ?_
        try simp only [Act.put, List.setIfInBounds_toArray, List.set_cons_zero, List.set_cons_succ]
        refine' wpAnyLast_take (i := 8) (oi := Oper.mk _ _ _ _ _ _) rfl (by kernel_rfl) (by kernel_rfl) (by kernel_rfl) (by kernel_rfl) (by kernel_rfl) (fun _ _ _ h => h) (Or.inl ⟨by rfl, ?hy15⟩) hS ?rest15
        case hy15 => (intro w hSw; (try dsimp only at hSw); first | (go_simp; done) | (go_simp; with_reducible rfl))
        try simp only [Act.put, List.setIfInBounds_toArray, List.set_cons_zero, List.set_cons_succ]
        refine' wpAnyLast_take (i := 10) (oi := Oper.mk _ _ _ _ _ _) rfl (by kernel_rfl) (by kernel_rfl) (by kernel_rfl) (by kernel_rfl) (by kernel_rfl) (fun _ _ _ h => h) (Or.inl ⟨by rfl, ?hy16⟩) hS ?rest16
        case hy16 => (intro w hSw; (try dsimp only at hSw); first | (go_simp; done) | (go_simp; with_reducible rfl))
        try simp only [Act.put, List.setIfInBounds_toArray, List.set_cons_zero, List.set_cons_succ]
        refine' wpAnyLast_take (i := 11) (oi := Oper.mk _ _ _ _ _ _) rfl (by kernel_rfl) (by kernel_rfl) (by kernel_rfl) (by kernel_rfl) (by kernel_rfl) (fun _ _ _ h => h) (Or.inl ⟨by rfl, ?hy17⟩) hS ?rest17
        case hy17 => (intro w hSw; (try dsimp only at hSw); first | (go_simp; done) | (go_simp; with_reducible rfl))
        try simp only [Act.put, List.setIfInBounds_toArray, List.set_cons_zero, List.set_cons_succ]
        refine' wpAnyLast_take (i := 12) (oi := Oper.mk _ _ _ _ _ _) rfl (by kernel_rfl) (by kernel_rfl) (by kernel_rfl) (by kernel_rfl) (by kernel_rfl) (fun _ _ _ h => h) (Or.inl ⟨by rfl, ?hy18⟩) hS ?rest18
        case hy18 => (intro w hSw; (try dsimp only at hSw); first | (go_simp; done) | (go_simp; with_reducible rfl))
        try simp only [Act.put, List.setIfInBounds_toArray, List.set_cons_zero, List.set_cons_succ]
        refine wpAnyLast_ready (rs := [2, 14]) (by kernel_rfl) (by simp) ?_
        refine AllReadyL.cons (o := Oper.mk _ _ _ _ _ _) rfl (by decide) (fun K hK => ?_) ?_
        · refine rg_call (by rfl) _ _ (.int .u64 SG) (by first | (go_simp; done) | (go_simp; rfl)) (MS1.out _) ?_
          intro W' hb
          replace E := E.below hb.out
          replace R1 := Aside0.mk (row_below R1.out hb.out)
          replace R2 := Aside0.mk (row_below R2.out hb.out)
          replace B7 := B7.below hb.out
          replace RO := Aside0.mk (row_below RO.out hb.out)
          replace HB := HB.step hb.out
          replace BX' := BX'.below hb.out
          replace KO' := Aside0.mk (KO'.out.trans (keepsOthers_below hb.out))
          replace HZ' := Aside0.mk (Nat.le_trans HZ'.out hb.out.size)
          refine hK.out _ _ ⟨BX', E.out _ PM.out.2.2.2.1, E.out _ PM.out.2.2.2.2.1⟩ (fun hS => ?_)
          clear hK K hb
          try simp only [Act.put, List.setIfInBounds_toArray, List.set_cons_zero, List.set_cons_succ]
          refine' wpAnyLast_take (i := 4) (oi := Oper.mk _ _ _ _ _ _) rfl (by kernel_rfl) (by kernel_rfl) (by kernel_rfl) (by kernel_rfl) (by kernel_rfl) (fun _ _ _ h => h) (Or.inl ⟨by rfl, ?hy19⟩) hS ?rest19
          case hy19 => (intro w hSw; (try dsimp only at hSw); first | (go_simp; done) | (go_simp; with_reducible rfl))
          try simp only [Act.put, List.setIfInBounds_toArray, List.set_cons_zero, List.set_cons_succ]
          refine wpAnyLast_ready (rs := [7, 14]) (by kernel_rfl) (by simp) ?_
          refine AllReadyL.cons (o := Oper.mk _ _ _ _ _ _) rfl (by decide) (fun K hK => ?_) ?_
          · refine rg_call (by rfl) _ _ (.int .u64 BL) (by first | (go_simp; done) | (go_simp; rfl)) (MS2.out _) ?_
            intro W' hb
            replace E := E.below hb.out
            replace R1 := Aside0.mk (row_below R1.out hb.out)
            replace R2 := Aside0.mk (row_below R2.out hb.out)
            replace B7 := B7.below hb.out
            replace RO := Aside0.mk (row_below RO.out hb.out)
            replace HB := HB.step hb.out
            replace BX' := BX'.below hb.out
            replace KO' := Aside0.mk (KO'.out.trans (keepsOthers_below hb.out))
            replace HZ' := Aside0.mk (Nat.le_trans HZ'.out hb.out.size)
            refine hK.out _ _ ⟨BX', E.out _ PM.out.2.2.2.1, E.out _ PM.out.2.2.2.2.1⟩ (fun hS => ?_)
            clear hK K hb
            try simp only [Act.put, List.setIfInBounds_toArray, List.set_cons_zero, List.set_cons_succ]
            refine' wpAnyLast_take (i := 9) (oi := Oper.mk _ _ _ _ _ _) rfl (by kernel_rfl) (by kernel_rfl) (by kernel_rfl) (by kernel_rfl) (by kernel_rfl) (fun _ _ _ h => h) (Or.inl ⟨by rfl, ?hy20⟩) hS ?rest20
            case hy20 => (intro w hSw; (try dsimp only at hSw); first | (go_simp; done) | (go_simp; with_reducible rfl))
            try simp only [Act.put, List.setIfInBounds_toArray, List.set_cons_zero, List.set_cons_succ]
            refine' wpAnyLast_take (i := 13) (oi := Oper.mk _ _ _ _ _ _) rfl (by kernel_rfl) (by kernel_rfl) (by kernel_rfl) (by kernel_rfl) (by kernel_rfl) (fun _ _ _ h => h) (Or.inl ⟨by rfl, ?hy21⟩) hS ?rest21
            case hy21 => (intro w hSw; (try dsimp only at hSw); first | (go_simp; done) | (go_simp; with_reducible rfl))
            try simp only [Act.put, List.setIfInBounds_toArray, List.set_cons_zero, List.set_cons_succ]
            refine wpAnyLast_ready (rs := [14]) (by kernel_rfl) (by simp) ?_
            refine AllReadyL.cons (o := Oper.mk _ _ _ _ _ _) rfl (by decide) (fun K hK => ?_) ?_
            · refine rg_alloc HB (by rfl) (#[.int .u64 0, .int .u64 0, .int .u64 0, .int .u64 0]) 77 (by first | (go_simp; done) | (go_simp; rfl)) ?_
              intro g15 W' G15 GE15 B15 HBn hb
              have N15 := Aside0.mk (show w10.heap.size ≤ g15 ∧ gb < g15 ∧ W.heap.size ≤ g15 by have := HI.out.sz; have := HZ'.out; have := BX'.lt; have := G15.out; omega)
              clear HBn G15
              replace E := E.below hb.out
              replace R1 := Aside0.mk (row_below R1.out hb.out)
              replace R2 := Aside0.mk (row_below R2.out hb.out)
              replace B7 := B7.below hb.out
              replace RO := Aside0.mk (row_below RO.out hb.out)
              replace HB := HB.step hb.out
              replace BX' := BX'.below hb.out
              replace KO' := Aside0.mk (KO'.out.trans (keepsOthers_below hb.out))
              replace HZ' := Aside0.mk (Nat.le_trans HZ'.out hb.out.size)
              refine hK.out _ _ ⟨BX', E.out _ PM.out.2.2.2.1, E.out _ PM.out.2.2.2.2.1⟩ (fun hS => ?_)
              clear hK K hb
              try simp only [Act.put, List.setIfInBounds_toArray, List.set_cons_zero, List.set_cons_succ]
              refine wpAnyLast_ready (rs := [15]) (by kernel_rfl) (by simp) ?_
              refine AllReadyL.cons_last (o := Oper.mk _ _ _ _ _ _) rfl (by decide) (fun K hK => ?_) ?_
              · refine rg_store HB (by rfl) B15 GE15 77 _ _ rfl rfl rfl (by kernel_rfl) rfl (by simp [Value.oneCell']) ?_
                intro w16 B16 HB16 K16
                replace E := E.other K16 (fun b m => by have := PL.out.1 b m; have := N15.out; omega)
                replace R1 := Aside0.mk (row_other R1.out B15 (by decide) K16)
                replace R2 := Aside0.mk (row_other R2.out B15 (by decide) K16)
                replace B7 := B7.other K16 (by have := L7; have := N15.out; omega)
                replace RO := Aside0.mk (own_move RO.out (fun k ek => K16.out.2 k (by have := VB.out k ek; have := N15.out; omega)))
                replace HB := HB16
                replace BX' := BX'.other K16 (by have := N15.out; omega)
                replace KO' := Aside0.mk (KO'.out.trans (keepsOthers_other B15 K16))
                replace HZ' := Aside0.mk (Nat.le_trans HZ'.out K16.out.1)
                refine hK.out _ _ ?_
                clear hK K HB16 K16 B15
                try simp only [Act.put, List.setIfInBounds_toArray, List.set_cons_zero, List.set_cons_succ]
                refine wpAnyLast_done (by kernel_rfl) ?_ _
                refine Straight.normal ?_
                have hq4' := Q4.out
                have hq5' := Q5.out
                have d0 := B16.cell (i := 0) rfl
                have d1 := B16.cell (i := 1) rfl
                gi_upto_region 15 with (first
                  | ((with_reducible refine gate_In (Op.store 75 (.tmp 80) (.tmp 79)) rfl ?_); refine ev_store1In (i := 3) HB B16 GE15 rfl 75 _ _ rfl rfl (.int .u64 WW) rfl (by simp) (by kernel_rfl) rfl ?_; intro w17 B17 HB17 K17 KO17))
                clear d0 d1 hq4' hq5'
                replace E := E.other K17 (fun b m => by have := PL.out.1 b m; have := N15.out; omega)
                replace R1 := Aside0.mk (row_other R1.out B16 (by decide) K17)
                replace R2 := Aside0.mk (row_other R2.out B16 (by decide) K17)
                replace B7 := B7.other K17 (by have := L7; have := N15.out; omega)
                replace RO := Aside0.mk (own_move RO.out (fun k ek => K17.out.2 k (by have := VB.out k ek; have := N15.out; omega)))
                replace HB := HB17
                have c7 := B7.cell (i := 0) rfl
                gi_wp2_with (first
                  | ((with_reducible refine gate_dstIn (N := 82) rfl ?_); refine ev_loadSIn B17 rfl 77 _ rfl rfl Tryd.underlying77 rfl (by kernel_rfl) ?_)
                  | ((with_reducible refine gate_dstIn (N := 83) rfl ?_); refine ev_litNIn HB rfl rfl #[.int .u64 SW, .int .u64 BW, .int .u64 PW, .int .u64 WW] 77 ?hr ?_; (case hr => first | (go_simp; done) | (go_simp; rfl)); intro gl w18 G_gl B_gl HB18 K_gl KO18; have ho18 := row_below RO.out K_gl.out; have b718 := B7.below K_gl.out)
                  | ((with_reducible refine gate_dstIn (N := 84) rfl ?_); refine ev_appendNIn HB18 rfl _ _ 73 77 (.agg #[.int .u64 0, .int .u64 0, .int .u64 0, .int .u64 0]) 4 32 rfl Tryd.underlying73 (by kernel_rfl) rfl (by decide) (by decide) v pre.length _ rfl ho18 gl [.int .u64 SW, .int .u64 BW, .int .u64 PW, .int .u64 WW] rfl B_gl rfl (by intro u hu; simp at hu; rcases hu with rfl | rfl | rfl | rfl <;> rfl) HL.out ?_; intro v8 w19 ho19 HB19 K19 KO19 FV; obtain ⟨g', cap', rfl⟩ := FV.out; have b719 := b718.appendedN (by decide) ho18 K19)
                  | ((with_reducible refine gate_In (Op.store 73 (.tmp 7) (.tmp 84)) rfl ?_); refine ev_store1In (i := 0) HB19 b719 GE_g7 rfl 73 _ _ rfl rfl _ rfl (by simp) (by kernel_rfl) rfl ?_; intro w20 B20 HB20 K20 KO20))
                have E20 := ((E.below K_gl.out).appendedN PL.out.2.1 ho18 K19).other K20 PL.out.2.2
                have R120 := row_other (row_appended (row_below R1.out K_gl.out) (by decide) ho18 K19) b719 (by decide) K20
                have R220 := row_other (row_appended (row_below R2.out K_gl.out) (by decide) ho18 K19) b719 (by decide) K20
                have O20 := row_other ho19 b719 (by decide) K20
                have hszF : W.heap.size ≤ w20.heap.size := Nat.le_trans HZ'.out (Nat.le_trans K17.out.1 (Nat.le_trans K_gl.out.size (Nat.le_trans K19.out.1 K20.out.1)))
                refine ⟨(((((KO'.out.trans KO17.out).trans KO18.out).trans KO19.out).trans KO20.out)).from _, Keep2.of_blk (HI.out.bs.out _ PM.out.2.2.2.2.2.1) (HI.out.bs.out _ PM.out.2.2.2.2.2.2) (E20.out _ PM.out.2.2.2.2.2.1) (E20.out _ PM.out.2.2.2.2.2.2) hszF, E20, R120, R220, ⟨_, B20, ?_⟩, HB20, Nat.le_trans HI.out.sz hszF⟩
                rw [flatR_snoc, ROW.out, List.length_append]
                exact O20
              exact AllReadyL.nil
            exact AllReadyL.nil
          refine AllReadyL.cons (o := Oper.mk _ _ _ _ _ _) rfl (by decide) (fun K hK => ?_) ?_
          · refine rg_alloc HB (by rfl) (#[.int .u64 0, .int .u64 0, .int .u64 0, .int .u64 0]) 77 (by first | (go_simp; done) | (go_simp; rfl)) ?_
            intro g15 W' G15 GE15 B15 HBn hb
            have N15 := Aside0.mk (show w10.heap.size ≤ g15 ∧ gb < g15 ∧ W.heap.size ≤ g15 by have := HI.out.sz; have := HZ'.out; have := BX'.lt; have := G15.out; omega)
            clear HBn G15
            replace E := E.below hb.out
            replace R1 := Aside0.mk (row_below R1.out hb.out)
            replace R2 := Aside0.mk (row_below R2.out hb.out)
            replace B7 := B7.below hb.out
            replace RO := Aside0.mk (row_below RO.out hb.out)
            replace HB := HB.step hb.out
            replace BX' := BX'.below hb.out
            replace KO' := Aside0.mk (KO'.out.trans (keepsOthers_below hb.out))
            replace HZ' := Aside0.mk (Nat.le_trans HZ'.out hb.out.size)
            refine hK.out _ _ ⟨BX', E.out _ PM.out.2.2.2.1, E.out _ PM.out.2.2.2.2.1⟩ (fun hS => ?_)
            clear hK K hb
            try simp only [Act.put, List.setIfInBounds_toArray, List.set_cons_zero, List.set_cons_succ]
            refine wpAnyLast_ready (rs := [7]) (by kernel_rfl) (by simp) ?_
            refine AllReadyL.cons (o := Oper.mk _ _ _ _ _ _) rfl (by decide) (fun K hK => ?_) ?_
            · refine rg_call (by rfl) _ _ (.int .u64 BL) (by first | (go_simp; done) | (go_simp; rfl)) (MS2.out _) ?_
              intro W' hb
              replace E := E.below hb.out
              replace R1 := Aside0.mk (row_below R1.out hb.out)
              replace R2 := Aside0.mk (row_below R2.out hb.out)
              replace B7 := B7.below hb.out
              replace RO := Aside0.mk (row_below RO.out hb.out)
              replace HB := HB.step hb.out
              replace BX' := BX'.below hb.out
              replace KO' := Aside0.mk (KO'.out.trans (keepsOthers_below hb.out))
              replace HZ' := Aside0.mk (Nat.le_trans HZ'.out hb.out.size)
              replace B15 := B15.below hb.out
              refine hK.out _ _ ⟨BX', E.out _ PM.out.2.2.2.1, E.out _ PM.out.2.2.2.2.1⟩ (fun hS => ?_)
              clear hK K hb
              try simp only [Act.put, List.setIfInBounds_toArray, List.set_cons_zero, List.set_cons_succ]
              refine' wpAnyLast_take (i := 9) (oi := Oper.mk _ _ _ _ _ _) rfl (by kernel_rfl) (by kernel_rfl) (by kernel_rfl) (by kernel_rfl) (by kernel_rfl) (fun _ _ _ h => h) (Or.inl ⟨by rfl, ?hy22⟩) hS ?rest22
              case hy22 => (intro w hSw; (try dsimp only at hSw); first | (go_simp; done) | (go_simp; with_reducible rfl))
              try simp only [Act.put, List.setIfInBounds_toArray, List.set_cons_zero, List.set_cons_succ]
              refine' wpAnyLast_take (i := 13) (oi := Oper.mk _ _ _ _ _ _) rfl (by kernel_rfl) (by kernel_rfl) (by kernel_rfl) (by kernel_rfl) (by kernel_rfl) (fun _ _ _ h => h) (Or.inl ⟨by rfl, ?hy23⟩) hS ?rest23
              case hy23 => (intro w hSw; (try dsimp only at hSw); first | (go_simp; done) | (go_simp; with_reducible rfl))
              try simp only [Act.put, List.setIfInBounds_toArray, List.set_cons_zero, List.set_cons_succ]
              refine wpAnyLast_ready (rs := [15]) (by kernel_rfl) (by simp) ?_
              refine AllReadyL.cons_last (o := Oper.mk _ _ _ _ _ _) rfl (by decide) (fun K hK => ?_) ?_
              · refine rg_store HB (by rfl) B15 GE15 77 _ _ rfl rfl rfl (by kernel_rfl) rfl (by simp [Value.oneCell']) ?_
                intro w16 B16 HB16 K16
                replace E := E.other K16 (fun b m => by have := PL.out.1 b m; have := N15.out; omega)
                replace R1 := Aside0.mk (row_other R1.out B15 (by decide) K16)
                replace R2 := Aside0.mk (row_other R2.out B15 (by decide) K16)
                replace B7 := B7.other K16 (by have := L7; have := N15.out; omega)
                replace RO := Aside0.mk (own_move RO.out (fun k ek => K16.out.2 k (by have := VB.out k ek; have := N15.out; omega)))
                replace HB := HB16
                replace BX' := BX'.other K16 (by have := N15.out; omega)
                replace KO' := Aside0.mk (KO'.out.trans (keepsOthers_other B15 K16))
                replace HZ' := Aside0.mk (Nat.le_trans HZ'.out K16.out.1)
                refine hK.out _ _ ?_
                clear hK K HB16 K16 B15
                try simp only [Act.put, List.setIfInBounds_toArray, List.set_cons_zero, List.set_cons_succ]
                refine wpAnyLast_done (by kernel_rfl) ?_ _
                refine Straight.normal ?_
                have hq4' := Q4.out
                have hq5' := Q5.out
                have d0 := B16.cell (i := 0) rfl
                have d1 := B16.cell (i := 1) rfl
                gi_upto_region 15 with (first
                  | ((with_reducible refine gate_In (Op.store 75 (.tmp 80) (.tmp 79)) rfl ?_); refine ev_store1In (i := 3) HB B16 GE15 rfl 75 _ _ rfl rfl (.int .u64 WW) rfl (by simp) (by kernel_rfl) rfl ?_; intro w17 B17 HB17 K17 KO17))
                clear d0 d1 hq4' hq5'
                replace E := E.other K17 (fun b m => by have := PL.out.1 b m; have := N15.out; omega)
                replace R1 := Aside0.mk (row_other R1.out B16 (by decide) K17)
                replace R2 := Aside0.mk (row_other R2.out B16 (by decide) K17)
                replace B7 := B7.other K17 (by have := L7; have := N15.out; omega)
                replace RO := Aside0.mk (own_move RO.out (fun k ek => K17.out.2 k (by have := VB.out k ek; have := N15.out; omega)))
                replace HB := HB17
                have c7 := B7.cell (i := 0) rfl
                gi_wp2_with (first
                  | ((with_reducible refine gate_dstIn (N := 82) rfl ?_); refine ev_loadSIn B17 rfl 77 _ rfl rfl Tryd.underlying77 rfl (by kernel_rfl) ?_)
                  | ((with_reducible refine gate_dstIn (N := 83) rfl ?_); refine ev_litNIn HB rfl rfl #[.int .u64 SW, .int .u64 BW, .int .u64 PW, .int .u64 WW] 77 ?hr ?_; (case hr => first | (go_simp; done) | (go_simp; rfl)); intro gl w18 G_gl B_gl HB18 K_gl KO18; have ho18 := row_below RO.out K_gl.out; have b718 := B7.below K_gl.out)
                  | ((with_reducible refine gate_dstIn (N := 84) rfl ?_); refine ev_appendNIn HB18 rfl _ _ 73 77 (.agg #[.int .u64 0, .int .u64 0, .int .u64 0, .int .u64 0]) 4 32 rfl Tryd.underlying73 (by kernel_rfl) rfl (by decide) (by decide) v pre.length _ rfl ho18 gl [.int .u64 SW, .int .u64 BW, .int .u64 PW, .int .u64 WW] rfl B_gl rfl (by intro u hu; simp at hu; rcases hu with rfl | rfl | rfl | rfl <;> rfl) HL.out ?_; intro v8 w19 ho19 HB19 K19 KO19 FV; obtain ⟨g', cap', rfl⟩ := FV.out; have b719 := b718.appendedN (by decide) ho18 K19)
                  | ((with_reducible refine gate_In (Op.store 73 (.tmp 7) (.tmp 84)) rfl ?_); refine ev_store1In (i := 0) HB19 b719 GE_g7 rfl 73 _ _ rfl rfl _ rfl (by simp) (by kernel_rfl) rfl ?_; intro w20 B20 HB20 K20 KO20))
                have E20 := ((E.below K_gl.out).appendedN PL.out.2.1 ho18 K19).other K20 PL.out.2.2
                have R120 := row_other (row_appended (row_below R1.out K_gl.out) (by decide) ho18 K19) b719 (by decide) K20
                have R220 := row_other (row_appended (row_below R2.out K_gl.out) (by decide) ho18 K19) b719 (by decide) K20
                have O20 := row_other ho19 b719 (by decide) K20
                have hszF : W.heap.size ≤ w20.heap.size := Nat.le_trans HZ'.out (Nat.le_trans K17.out.1 (Nat.le_trans K_gl.out.size (Nat.le_trans K19.out.1 K20.out.1)))
                refine ⟨(((((KO'.out.trans KO17.out).trans KO18.out).trans KO19.out).trans KO20.out)).from _, Keep2.of_blk (HI.out.bs.out _ PM.out.2.2.2.2.2.1) (HI.out.bs.out _ PM.out.2.2.2.2.2.2) (E20.out _ PM.out.2.2.2.2.2.1) (E20.out _ PM.out.2.2.2.2.2.2) hszF, E20, R120, R220, ⟨_, B20, ?_⟩, HB20, Nat.le_trans HI.out.sz hszF⟩
                rw [flatR_snoc, ROW.out, List.length_append]
                exact O20
              exact AllReadyL.nil
            exact AllReadyL.nil
          exact AllReadyL.nil
        refine AllReadyL.cons (o := Oper.mk _ _ _ _ _ _) rfl (by decide) (fun K hK => ?_) ?_
        · refine rg_alloc HB (by rfl) (#[.int .u64 0, .int .u64 0, .int .u64 0, .int .u64 0]) 77 (by first | (go_simp; done) | (go_simp; rfl)) ?_
          intro g15 W' G15 GE15 B15 HBn hb
          have N15 := Aside0.mk (show w10.heap.size ≤ g15 ∧ gb < g15 ∧ W.heap.size ≤ g15 by have := HI.out.sz; have := HZ'.out; have := BX'.lt; have := G15.out; omega)
          clear HBn G15
          replace E := E.below hb.out
          replace R1 := Aside0.mk (row_below R1.out hb.out)
          replace R2 := Aside0.mk (row_below R2.out hb.out)
          replace B7 := B7.below hb.out
          replace RO := Aside0.mk (row_below RO.out hb.out)
          replace HB := HB.step hb.out
          replace BX' := BX'.below hb.out
          replace KO' := Aside0.mk (KO'.out.trans (keepsOthers_below hb.out))
          replace HZ' := Aside0.mk (Nat.le_trans HZ'.out hb.out.size)
          refine hK.out _ _ ⟨BX', E.out _ PM.out.2.2.2.1, E.out _ PM.out.2.2.2.2.1⟩ (fun hS => ?_)
          clear hK K hb
          try simp only [Act.put, List.setIfInBounds_toArray, List.set_cons_zero, List.set_cons_succ]
          refine wpAnyLast_ready (rs := [2]) (by kernel_rfl) (by simp) ?_
          refine AllReadyL.cons (o := Oper.mk _ _ _ _ _ _) rfl (by decide) (fun K hK => ?_) ?_
          · refine rg_call (by rfl) _ _ (.int .u64 SG) (by first | (go_simp; done) | (go_simp; rfl)) (MS1.out _) ?_
            intro W' hb
            replace E := E.below hb.out
            replace R1 := Aside0.mk (row_below R1.out hb.out)
            replace R2 := Aside0.mk (row_below R2.out hb.out)
            replace B7 := B7.below hb.out
            replace RO := Aside0.mk (row_below RO.out hb.out)
            replace HB := HB.step hb.out
            replace BX' := BX'.below hb.out
            replace KO' := Aside0.mk (KO'.out.trans (keepsOthers_below hb.out))
            replace HZ' := Aside0.mk (Nat.le_trans HZ'.out hb.out.size)
            replace B15 := B15.below hb.out
            refine hK.out _ _ ⟨BX', E.out _ PM.out.2.2.2.1, E.out _ PM.out.2.2.2.2.1⟩ (fun hS => ?_)
            clear hK K hb
            try simp only [Act.put, List.setIfInBounds_toArray, List.set_cons_zero, List.set_cons_succ]
            refine' wpAnyLast_take (i := 4) (oi := Oper.mk _ _ _ _ _ _) rfl (by kernel_rfl) (by kernel_rfl) (by kernel_rfl) (by kernel_rfl) (by kernel_rfl) (fun _ _ _ h => h) (Or.inl ⟨by rfl, ?hy24⟩) hS ?rest24
            case hy24 => (intro w hSw; (try dsimp only at hSw); first | (go_simp; done) | (go_simp; with_reducible rfl))
            try simp only [Act.put, List.setIfInBounds_toArray, List.set_cons_zero, List.set_cons_succ]
            refine wpAnyLast_ready (rs := [7]) (by kernel_rfl) (by simp) ?_
            refine AllReadyL.cons (o := Oper.mk _ _ _ _ _ _) rfl (by decide) (fun K hK => ?_) ?_
            · refine rg_call (by rfl) _ _ (.int .u64 BL) (by first | (go_simp; done) | (go_simp; rfl)) (MS2.out _) ?_
              intro W' hb
              replace E := E.below hb.out
              replace R1 := Aside0.mk (row_below R1.out hb.out)
              replace R2 := Aside0.mk (row_below R2.out hb.out)
              replace B7 := B7.below hb.out
              replace RO := Aside0.mk (row_below RO.out hb.out)
              replace HB := HB.step hb.out
              replace BX' := BX'.below hb.out
              replace KO' := Aside0.mk (KO'.out.trans (keepsOthers_below hb.out))
              replace HZ' := Aside0.mk (Nat.le_trans HZ'.out hb.out.size)
              replace B15 := B15.below hb.out
              refine hK.out _ _ ⟨BX', E.out _ PM.out.2.2.2.1, E.out _ PM.out.2.2.2.2.1⟩ (fun hS => ?_)
              clear hK K hb
              try simp only [Act.put, List.setIfInBounds_toArray, List.set_cons_zero, List.set_cons_succ]
              refine' wpAnyLast_take (i := 9) (oi := Oper.mk _ _ _ _ _ _) rfl (by kernel_rfl) (by kernel_rfl) (by kernel_rfl) (by kernel_rfl) (by kernel_rfl) (fun _ _ _ h => h) (Or.inl ⟨by rfl, ?hy25⟩) hS ?rest25
              case hy25 => (intro w hSw; (try dsimp only at hSw); first | (go_simp; done) | (go_simp; with_reducible rfl))
              try simp only [Act.put, List.setIfInBounds_toArray, List.set_cons_zero, List.set_cons_succ]
              refine' wpAnyLast_take (i := 13) (oi := Oper.mk _ _ _ _ _ _) rfl (by kernel_rfl) (by kernel_rfl) (by kernel_rfl) (by kernel_rfl) (by kernel_rfl) (fun _ _ _ h => h) (Or.inl ⟨by rfl, ?hy26⟩) hS ?rest26
              case hy26 => (intro w hSw; (try dsimp only at hSw); first | (go_simp; done) | (go_simp; with_reducible rfl))
              try simp only [Act.put, List.setIfInBounds_toArray, List.set_cons_zero, List.set_cons_succ]
              refine wpAnyLast_ready (rs := [15]) (by kernel_rfl) (by simp) ?_
              refine AllReadyL.cons_last (o := Oper.mk _ _ _ _ _ _) rfl (by decide) (fun K hK => ?_) ?_
              · refine rg_store HB (by rfl) B15 GE15 77 _ _ rfl rfl rfl (by kernel_rfl) rfl (by simp [Value.oneCell']) ?_
                intro w16 B16 HB16 K16
                replace E := E.other K16 (fun b m => by have := PL.out.1 b m; have := N15.out; omega)
                replace R1 := Aside0.mk (row_other R1.out B15 (by decide) K16)
                replace R2 := Aside0.mk (row_other R2.out B15 (by decide) K16)
                replace B7 := B7.other K16 (by have := L7; have := N15.out; omega)
                replace RO := Aside0.mk (own_move RO.out (fun k ek => K16.out.2 k (by have := VB.out k ek; have := N15.out; omega)))
                replace HB := HB16
                replace BX' := BX'.other K16 (by have := N15.out; omega)
                replace KO' := Aside0.mk (KO'.out.trans (keepsOthers_other B15 K16))
                replace HZ' := Aside0.mk (Nat.le_trans HZ'.out K16.out.1)
                refine hK.out _ _ ?_
                clear hK K HB16 K16 B15
                try simp only [Act.put, List.setIfInBounds_toArray, List.set_cons_zero, List.set_cons_succ]
                refine wpAnyLast_done (by kernel_rfl) ?_ _
                refine Straight.normal ?_
                have hq4' := Q4.out
                have hq5' := Q5.out
                have d0 := B16.cell (i := 0) rfl
                have d1 := B16.cell (i := 1) rfl
                gi_upto_region 15 with (first
                  | ((with_reducible refine gate_In (Op.store 75 (.tmp 80) (.tmp 79)) rfl ?_); refine ev_store1In (i := 3) HB B16 GE15 rfl 75 _ _ rfl rfl (.int .u64 WW) rfl (by simp) (by kernel_rfl) rfl ?_; intro w17 B17 HB17 K17 KO17))
                clear d0 d1 hq4' hq5'
                replace E := E.other K17 (fun b m => by have := PL.out.1 b m; have := N15.out; omega)
                replace R1 := Aside0.mk (row_other R1.out B16 (by decide) K17)
                replace R2 := Aside0.mk (row_other R2.out B16 (by decide) K17)
                replace B7 := B7.other K17 (by have := L7; have := N15.out; omega)
                replace RO := Aside0.mk (own_move RO.out (fun k ek => K17.out.2 k (by have := VB.out k ek; have := N15.out; omega)))
                replace HB := HB17
                have c7 := B7.cell (i := 0) rfl
                gi_wp2_with (first
                  | ((with_reducible refine gate_dstIn (N := 82) rfl ?_); refine ev_loadSIn B17 rfl 77 _ rfl rfl Tryd.underlying77 rfl (by kernel_rfl) ?_)
                  | ((with_reducible refine gate_dstIn (N := 83) rfl ?_); refine ev_litNIn HB rfl rfl #[.int .u64 SW, .int .u64 BW, .int .u64 PW, .int .u64 WW] 77 ?hr ?_; (case hr => first | (go_simp; done) | (go_simp; rfl)); intro gl w18 G_gl B_gl HB18 K_gl KO18; have ho18 := row_below RO.out K_gl.out; have b718 := B7.below K_gl.out)
                  | ((with_reducible refine gate_dstIn (N := 84) rfl ?_); refine ev_appendNIn HB18 rfl _ _ 73 77 (.agg #[.int .u64 0, .int .u64 0, .int .u64 0, .int .u64 0]) 4 32 rfl Tryd.underlying73 (by kernel_rfl) rfl (by decide) (by decide) v pre.length _ rfl ho18 gl [.int .u64 SW, .int .u64 BW, .int .u64 PW, .int .u64 WW] rfl B_gl rfl (by intro u hu; simp at hu; rcases hu with rfl | rfl | rfl | rfl <;> rfl) HL.out ?_; intro v8 w19 ho19 HB19 K19 KO19 FV; obtain ⟨g', cap', rfl⟩ := FV.out; have b719 := b718.appendedN (by decide) ho18 K19)
                  | ((with_reducible refine gate_In (Op.store 73 (.tmp 7) (.tmp 84)) rfl ?_); refine ev_store1In (i := 0) HB19 b719 GE_g7 rfl 73 _ _ rfl rfl _ rfl (by simp) (by kernel_rfl) rfl ?_; intro w20 B20 HB20 K20 KO20))
                have E20 := ((E.below K_gl.out).appendedN PL.out.2.1 ho18 K19).other K20 PL.out.2.2
                have R120 := row_other (row_appended (row_below R1.out K_gl.out) (by decide) ho18 K19) b719 (by decide) K20
                have R220 := row_other (row_appended (row_below R2.out K_gl.out) (by decide) ho18 K19) b719 (by decide) K20
                have O20 := row_other ho19 b719 (by decide) K20
                have hszF : W.heap.size ≤ w20.heap.size := Nat.le_trans HZ'.out (Nat.le_trans K17.out.1 (Nat.le_trans K_gl.out.size (Nat.le_trans K19.out.1 K20.out.1)))
                refine ⟨(((((KO'.out.trans KO17.out).trans KO18.out).trans KO19.out).trans KO20.out)).from _, Keep2.of_blk (HI.out.bs.out _ PM.out.2.2.2.2.2.1) (HI.out.bs.out _ PM.out.2.2.2.2.2.2) (E20.out _ PM.out.2.2.2.2.2.1) (E20.out _ PM.out.2.2.2.2.2.2) hszF, E20, R120, R220, ⟨_, B20, ?_⟩, HB20, Nat.le_trans HI.out.sz hszF⟩
                rw [flatR_snoc, ROW.out, List.length_append]
                exact O20
              exact AllReadyL.nil
            exact AllReadyL.nil
          exact AllReadyL.nil
        exact AllReadyL.nil
    case done =>
      rintro D ys W hD rfl hI hK
      obtain ⟨v, b7, ho⟩ := hI.out
      have c7 := b7.cell (i := 0) rfl
      have HB := hI.hb
      have HD := Aside0.mk hD
      have HKD := Aside0.mk hK
      clear hK hD
      gi_wp2
      have hg := grownBy_putObj' W D (.deferred none)
      have hr : ∀ r, some D = some r → ∃ o : Obj, W.heap[r]? = some o ∧ o.isCells = false := fun r e => by
        cases e
        exact ⟨_, HKD.out, rfl⟩
      have hle : w.heap.size ≤ D := Nat.le_trans HBW.le HD.out
      refine ⟨by simp, .inl ⟨_, _, rfl, run_takeDeferred HKD.out, ?_⟩⟩
      refine ⟨_, results_tmp rfl _ _ _, v, rfl, ?_, (HB.kept hg hle (fun r e => by cases e; exact Nat.le_refl _)).out⟩
      have h1 := row_kept ho hg hr
      rw [flatR_all, List.length_finRange] at h1
      exact h1
    case stop =>
      rintro D c pre W _ _ h _
      exact h.elim
theorem marks_look.calls (a0 : ByteArray) (r : List S77) (w : World) (h : marks_look.f a0 = some r) :
    Calls Tryd.prog 50 #[.string a0] w fun e w' => ∃ v : Value, e = .returned v ∧ Kd.R k77 77 w' w.heap.size (fun _ => True) v r ∧ Below w.heap.size w w' := by
  unfold marks_look.f at h
  by_cases hs : a0.size ≤ 281474976702464
  case neg => rw [if_neg hs] at h; cases h
  rw [if_pos hs] at h
  simp only [Option.some.injEq] at h
  subst h
  refine (marks_look.walk a0 w hs).mono ?_
  rintro e w' ⟨v, rfl, hrow, hb⟩
  refine ⟨v, rfl, ⟨fun _ _ => trivial, _, ?_, lookL_reps (fun k => k77_mkM _ _ _ (rowS a0 k)) _⟩, hb⟩
  rw [show (lookL a0).length = nwords a0.size by simp [lookL]]
  exact hrow
end


end Go.Proofs.YtgddljealeklkaaDoor.PM
end
-- PMx4
section
namespace Go.Proofs.YtgddljealeklkaaDoor.PM
open Go.RowKit Go.Proofs.YtgddljealeklkaaDoorW.PrintWords Go.Proofs.YtgddljealeklkaaDoorW.PrintLast Go.Proofs.YtgddljealeklkaaDoorW.PrintMore
attribute [local go_sem] max2_int min2_int max_two min_two max_three min_three max_four min_four   -- for this text's walks alone
set_option linter.unusedVariables false
set_option linter.unusedSimpArgs false

section
open Go.Proofs Go.Proofs.YtgddljealeklkaaDoorQ
set_option maxHeartbeats 1000000 in
theorem bits_TrailingZeros64.core (x k idx : Nat) (w : World) (hx0 : ((x : Int) == 0) = false)
    (key : IntKind.u64.wrap (Go.bits BinOp.and IntKind.u64 (x : Int) (IntKind.u64.wrap (-(x : Int))) * 285870213051353865) / 288230376151711744 = (idx : Int))
    (hi : idx < 64) (hk : k < 64) (hcell : w.cell? ⟨0, idx, none⟩ = some (.int .u8 k)) :
    Calls Tryd.prog 87 #[.int .u64 x] w fun e w' => e = .returned (.int .i64 k) ∧ w' = w := by
  go_enter Tryd.func87, Tryd.ntmps87
  go_wp2_with (simp only [key])
  go_ret
  exact ⟨rfl, rfl⟩
/-- The place of the lowest set bit; the table stands in block 0. -/
theorem bits_TrailingZeros64.calls (x : Nat) (hx : x < 18446744073709551616) (hx0 : x ≠ 0) (w : World) (hT : TabAt 0 Lib.deBruijn64tab w) :
    Calls Tryd.prog 87 #[.int .u64 x] w fun e w' => e = .returned (.int .i64 (Lib.ctz 64 x)) ∧ w' = w := by
  obtain ⟨hlow, hk⟩ := Lib.lowest_bit 64 x hx0 hx
  obtain ⟨hi, htab⟩ := Lib.deBruijn64_at _ hk
  have hcell := hT _ hi
  rw [htab] at hcell
  exact bits_TrailingZeros64.core x _ _ w (by simp; omega) (tz64_key x _ hx hx0 hlow) hi hk hcell
/-- Of no set bit. -/
theorem bits_TrailingZeros64.zero (w : World) : Calls Tryd.prog 87 #[.int .u64 0] w fun e w' => e = .returned (.int .i64 64) ∧ w' = w := by
  go_enter Tryd.func87, Tryd.ntmps87
  go_wp2
  go_ret
  exact ⟨rfl, rfl⟩
end


section
open Go.Proofs.YtgddljealeklkaaDoorQ Go.Proofs.YtgddljealeklkaaDoorM Go.Shelf
attribute [local go_sem] Oper.semAt_some
theorem tz_any (x : BitVec 64) (w : World) (hT : TabOk w) :
    Calls Tryd.prog 87 #[.int .u64 (iv x)] w fun e w' => e = .returned (.int .i64 (tzW x : Int)) ∧ w = w' := by
  unfold tzW
  by_cases h : x = 0#64
  · subst h
    exact (bits_TrailingZeros64.zero w).mono fun e w' hw => ⟨by rw [hw.1]; rfl, hw.2.symm⟩
  · have h0 : x.toNat ≠ 0 := fun e => h (BitVec.eq_of_toNat_eq (by rw [e]; rfl))
    rw [if_neg h]
    exact (bits_TrailingZeros64.calls x.toNat x.isLt h0 w hT.out).mono fun e w' hw => ⟨hw.1, hw.2.symm⟩
theorem iv_shr (q : Nat → Bool) (i : Nat) (h : i ≤ 64) : iv (word q) / 2 ^ min i 64 = iv (word q >>> i) := by
  rw [Nat.min_eq_left h]
  unfold iv
  rw [BitVec.toNat_ushiftRight, Nat.shiftRight_eq_div_pow]
  simp
theorem iv_not (x : BitVec 64) : bits .xor .u64 18446744073709551615 (iv x) = iv (~~~ x) := by
  rw [show (18446744073709551615 : Int) = iv (BitVec.allOnes 64) from by decide, bits_xor]
  apply congrArg
  rw [← BitVec.allOnes_xor]
theorem wrap_sum (a b c : Nat) (h : c = a + b) (hc : c ≤ 128) : wrap64 ((a : Int) + (b : Int)) = (c : Int) := by
  subst h
  unfold wrap64
  omega
theorem fuel_next {i a m fu : Nat} (h : i ≤ a ∧ a < 64 ∧ 0 < m ∧ a + m ≤ 64 ∧ 65 - i ≤ fu + 1) : 65 - (a + m) ≤ fu := by omega
theorem less_next {i a m fu : Nat} (h : i ≤ a ∧ a < 64 ∧ 0 < m ∧ a + m ≤ 64 ∧ 65 - i ≤ fu + 1) : 64 - (a + m) < 64 - i := by omega
theorem tz_shr (q : Nat → Bool) (i : Nat) : tzW (word q >>> i) ≤ 64 := by
  rw [word_ushr]
  rcases tzW_word (fun j => decide (i + j < 64) && q (i + j)) with h | h
  · omega
  · omega
set_option maxHeartbeats 4000000 in
set_option maxRecDepth 100000 in
theorem words_Runs_1.walk (F : Fence) (HF : Aside0 (F = Fence.wide)) (n : Nat) (hn : 3 ≤ n) (l g1 : Nat) (q : Nat → Bool) (J Jx : List (Nat × Nat) → World → Prop) (W0 : World)
    (hY : ∀ pre x W, J pre W → pre ++ [x] <+: runsF q 65 0 → YieldAt F (n - 1) Tryd.prog l #[.int .i64 (x.1 : Int), .int .i64 (x.2 : Int)] W fun e W' =>
      (e = .returned (.bool true) ∧ J (pre ++ [x]) W' ∧ Keep2 0 0 W W') ∨ (e = .returned (.bool false) ∧ Jx (pre ++ [x]) W'))
    (hB : ∀ pre W, J pre W → Blk W g1 #[.int .u64 (iv (word q))] 75) (hT : TabOk W0) (h0 : J [] W0) :
    CallsIn F n Tryd.prog 86 #[.func (.yield l) #[] #[], .pointer (some ⟨g1, 0, none⟩)] W0 fun e W' => (∃ v, e = .returned v) ∧
      ((∃ ys, ys = runsF q 65 0 ∧ J ys W') ∨ (∃ pre, pre <+: runsF q 65 0 ∧ Jx pre W')) := by
  have HY := Aside0.mk hY
  have HJ0 := Aside0.mk h0
  have HT := Aside0.mk hT
  have HBB := Aside0.mk hB
  clear hY h0 hT hB
  have f0 := wide_fn HF 87
  have n1 : 1 ≤ n := by omega
  have n2 : 1 ≤ n - 1 := by omega
  have hro := wide_round HF
  refine callsIn_of_wp Tryd.func86 rfl (wide_fn HF _) ?_ (wide_round HF)
  simp only [Tryd.ntmps86, List.size_toArray, List.length_cons, List.length_nil, Nat.reduceAdd, Nat.reduceSub, Array.replicate_succ, Array.replicate_zero, List.push_toArray, List.append_toArray, List.nil_append, List.cons_append]
  gi_wp2
  gi_loopw [3] (fun v wr => ∃ (i fu : Nat) (pre : List (Nat × Nat)), v = .int .i64 (i : Int) ∧ Aside0 (i ≤ 64 ∧ 65 - i ≤ fu ∧ pre ++ runsF q fu i = runsF q 65 0) ∧ Aside0 (J pre wr) ∧ Aside0 (TabOk wr)) (fun v _ => 64 - (intOf v).toNat)
  case atStart => exact ⟨0, 65, [], rfl, ⟨by decide, by decide, rfl⟩, HJ0, HT⟩
  case round =>
    clear HJ0 HT
    obtain ⟨i, fu, pre, rfl, HI, HJi, HT⟩ := hrel
    have B1 := HBB.out _ _ HJi.out
    have c1 := B1.cell (i := 0) rfl
    have HE := HI.out
    by_cases hz : i < 64
    · have hz0 : decide ((i : Int) < 64) = true := decide_eq_true (by omega)
      have RA := Aside0.mk (runs_at q i (by omega))
      obtain ⟨d, hd⟩ : ∃ d, d = tzW (word q >>> i) := ⟨_, rfl⟩
      obtain ⟨a, ha⟩ : ∃ a, a = i + d := ⟨_, rfl⟩
      have hd64 : d ≤ 64 := by rw [hd]; exact tz_shr q i
      have TZ1 : Aside0 (∀ w, TabOk w → Calls Tryd.prog 87 #[.int .u64 (iv (word q) / 2 ^ min i 64)] w fun e w' => e = .returned (.int .i64 (d : Int)) ∧ w = w') := ⟨fun w hw => by
        rw [iv_shr q i (by omega), hd]
        exact tz_any _ w hw⟩
      have hw1 : wrap64 ((i : Int) + (d : Int)) = (a : Int) := wrap_sum i d a ha (by omega)
      obtain ⟨fu, rfl⟩ : ∃ m, fu = m + 1 := ⟨fu - 1, by omega⟩
      by_cases h64 : a < 64
      · have ha0 : decide (64 ≤ (a : Int)) = false := decide_eq_false (by omega)
        have ha1 : (0 : Int) ≤ (a : Int) := by omega
        obtain ⟨m, hm⟩ : ∃ m, m = tzW (~~~ (word q >>> a)) := ⟨_, rfl⟩
        have TZ2 : Aside0 (∀ w, TabOk w → Calls Tryd.prog 87 #[.int .u64 (bits .xor .u64 18446744073709551615 (iv (word q) / 2 ^ min a 64))] w fun e w' => e = .returned (.int .i64 (m : Int)) ∧ w = w') := ⟨fun w hw => by
          rw [iv_shr q a (by omega), iv_not, hm]
          exact tz_any _ w hw⟩
        have hL := HE.2.2
        rw [runsF_succ, ← hd, ← ha, if_neg (by omega), ← hm] at hL
        have hqa : q a = true := by
          rcases RA.out with ⟨h1, _⟩ | ⟨_, h2, _⟩
          · rw [← hd, ← ha] at h1
            omega
          · rw [← hd, ← ha] at h2
            exact h2
        have hlen := runs_len q a h64 hqa
        rw [← hm] at hlen
        have hw2 : wrap64 ((a : Int) + (m : Int)) = ((a + m : Nat) : Int) := wrap_sum a m _ rfl (Nat.le_trans hlen.2.1 (by decide))
        have HN : Aside0 (i ≤ a ∧ a < 64 ∧ 0 < m ∧ a + m ≤ 64 ∧ 65 - i ≤ fu + 1) := ⟨⟨by omega, h64, hlen.1, hlen.2.1, HE.2.1⟩⟩
        have HL2 := Aside0.mk hL
        have hpx : pre ++ [(a, m)] <+: runsF q 65 0 := by
          rw [← hL]
          exact ⟨runsF q fu (a + m), by rw [List.append_assoc]; rfl⟩
        obtain ⟨fn, tmps, assign, body, hy, hR⟩ := HY.out pre (a, m) wr HJi.out hpx
        have HPX := Aside0.mk hpx
        have HR := Aside0.mk hR
        dsimp only at hy
        clear hz HE h64 hL hlen hqa hpx hR ha hd hm hd64 RA
        gi_wp2_with (first
          | (gi_at_call 87; refine (callsIn_of HF (TZ1.out _ HT.out)).mono ?_; rintro e w3 ⟨rfl, rfl⟩; clear TZ1)
          | (gi_at_call 87; refine (callsIn_of HF (TZ2.out _ HT.out)).mono ?_; rintro e w3 ⟨rfl, rfl⟩; clear TZ2))
        refine HR.out.mono ?_
        rintro e W6 (⟨rfl, hJ6, hk6⟩ | ⟨rfl, hJx6⟩)
        · have HT6 := Aside0.mk (HT.out.keep hk6)
          have HJ6 := Aside0.mk hJ6
          clear hJ6 hk6
          gi_wp2
          go_roundw
          case rel => exact ⟨a + m, fu, pre ++ [(a, m)], by rw [hw2], ⟨HN.out.2.2.2.1, fuel_next HN.out, by rw [List.append_assoc]; exact HL2.out⟩, HJ6, HT6⟩
          case measure =>
            rw [hw2]
            show 64 - (a + m) < 64 - i
            exact less_next HN.out
        · have HJ6 := Aside0.mk hJx6
          clear hJx6
          gi_wp2
          refine bodyPost_ret (results_none rfl _ _ _) rfl ?_
          exact ⟨⟨_, rfl⟩, .inr ⟨_, HPX.out, HJ6.out⟩⟩
      · have ha0 : decide (64 ≤ (a : Int)) = true := decide_eq_true (by omega)
        have hr : runsF q (fu + 1) i = [] := by unfold runsF; rw [← hd, ← ha]; exact if_pos (by omega)
        have hL := HE.2.2
        rw [hr, List.append_nil] at hL
        have HL := Aside0.mk hL
        clear hz HE hr hL ha hd h64 hd64 RA
        gi_wp2_with (first
          | (gi_at_call 87; refine (callsIn_of HF (TZ1.out _ HT.out)).mono ?_; rintro e w3 ⟨rfl, rfl⟩))
        refine bodyPost_ret (results_none rfl _ _ _) rfl ?_
        exact ⟨⟨_, rfl⟩, .inl ⟨_, HL.out, HJi.out⟩⟩
    · have hz0 : decide ((i : Int) < 64) = false := decide_eq_false (by omega)
      have e64 : i = 64 := by omega
      subst e64
      obtain ⟨fu, rfl⟩ : ∃ m, fu = m + 1 := ⟨fu - 1, by omega⟩
      have hr : runsF q (fu + 1) 64 = [] := by unfold runsF; rw [if_pos (Nat.le_add_right _ _)]
      have hL := HE.2.2
      rw [hr, List.append_nil] at hL
      have HL := Aside0.mk hL
      clear hz HE hr hL
      gi_wp2
      go_end0
      exact ⟨⟨_, rfl⟩, .inl ⟨_, HL.out, HJi.out⟩⟩
/-- The runs of a word's bits, one by one. -/
theorem words_Runs_1.stopsO (F : Fence) (HF : Aside0 (F = Fence.wide)) (n : Nat) (hn : 3 ≤ n) (g1 : Nat) (q : Nat → Bool) (w : World)
    (B1 : Blk w g1 #[.int .u64 (iv (word q))] 75) (hT : TabOk w) :
    SeqO F n Tryd.prog 86 #[.pointer (some ⟨g1, 0, none⟩)] (fun x : Nat × Nat => #[.int .i64 (x.1 : Int), .int .i64 (x.2 : Int)]) (Keep2 0 g1) (fun ys => ys = runsF q 65 0) (fun pre => pre <+: runsF q 65 0) w := by
  intro l J Jx W hW _ _ _ _ hY h0
  have P0 := hT.pos
  have L1 := B1.lt
  refine (words_Runs_1.walk F HF n hn l g1 q (fun pre A => J [] pre A ∧ Blk A g1 #[.int .u64 (iv (word q))] 75) Jx W (fun pre x A hA hp => (hY [] pre x A (fun k hk => (List.not_mem_nil hk).elim) hA.1 hp).mono fun e A' h => h.2.2.imp (fun h => ⟨h.1, ⟨h.2.1, ⟨h.2.2.2.1.trans hA.2.out⟩⟩, ⟨h.2.2.1, h.2.2.1, h.2.2.2.2⟩⟩) id) (fun pre A h => h.2) (hT.step hW) ⟨h0, B1.below hW⟩).mono ?_
  rintro e W' ⟨hv, (⟨ys, h1, h2⟩ | h)⟩
  · exact ⟨hv, .inl ⟨ys, [], h1, fun k hk => (List.not_mem_nil hk).elim, h2.1⟩⟩
  · exact ⟨hv, .inr h⟩
end


open Go.Proofs.YtgddljealeklkaaDoorQ Go.Proofs.YtgddljealeklkaaDoorM in
set_option maxHeartbeats 4000000 in
set_option maxRecDepth 100000 in
theorem words_Runs.calls (x : Int) (w : World) :
    Calls Tryd.prog 51 #[.int .u64 x] w fun e w' => ∃ g1 : Nat, e = .returned (.func (.func 86) #[] #[.pointer (some ⟨g1, 0, none⟩)]) ∧
      w.heap.size ≤ g1 ∧ Blk w' g1 #[.int .u64 x] 75 ∧ BelowH w w' := by
  have HB := BelowH.refl w
  go_enter Tryd.func51, Tryd.ntmps51
  go_wp2_with (first | ((with_reducible refine gate_dst (N := 1) rfl ?_); refine ev_alloc HB rfl (#[.int .u64 x]) 75 ?hr ?_; (case hr => first | (go_simp; done) | (go_simp; rfl)); intro g1 w1 G_g1 GE_g1 B_g1 HBn K_g1; clear HB; have HB := HBn; clear HBn))
  go_ret
  exact ⟨g1, rfl, GE_g1.out, B_g1, HB⟩


section
open Go.Proofs.YtgddljealeklkaaDoorQ Go.Proofs.YtgddljealeklkaaDoorM Go.Shelf
attribute [local go_sem] Oper.semAt_some
/-- The encoding of a span. -/
def wEnc (x : Nat × Nat) : Array Value := #[.agg #[.int .i64 (x.1 : Int), .int .i64 (x.2 : Int)]]
/-- Between two yields. -/
structure WoS (J : List Nat → List (Nat × Nat) → World → Prop) (X : List Nat) (ts : List (Nat × Nat)) (o : Option Nat) (gy gf g1 gr l nw b : Nat) (cur : Array Value) (s : ByteArray) (Ds : List Nat) (W : World) : Prop where mk ::
  j : J X ts W
  by_ : Blk W gy #[.func (.yield l) #[] #[]] 72
  bf : Blk W gf #[.int .i64 (fromI o)] 3
  bs : Blk W g1 #[.string s] 9
  br : nw ≠ 0 → Blk W gr cur 77
  ht : TabOk W
  mk_ : Marks b Ds W
  mem : gy ∈ X ∧ gf ∈ X ∧ gr ∈ X
  ne : g1 < b ∧ 0 < b ∧ gy ≠ gf ∧ (nw ≠ 0 → gr ≠ gf) ∧ b ≤ gf
  sz : b ≤ W.heap.size
section
variable {J : List Nat → List (Nat × Nat) → World → Prop} {X : List Nat} {ts : List (Nat × Nat)} {o : Option Nat} {gy gf g1 gr l nw b : Nat} {cur : Array Value} {s : ByteArray} {Ds : List Nat} {W W' : World}
theorem WoS.kept (h : WoS J X ts o gy gf g1 gr l nw b cur s Ds W) (hJ : ∀ X, OwnFrom b (J X)) {m : Nat} (hm : b ≤ m) (hD : ∀ D ∈ Ds, D < m) {row : Option Nat} (hg : W.grownBy W' row) (hr : ∀ r, row = some r → m ≤ r ∧ ∃ o : Obj, W.heap[r]? = some o ∧ o.isCells = false) : WoS J X ts o gy gf g1 gr l nw b cur s Ds W' := by
  have hr' : ∀ r, row = some r → ∃ o : Obj, W.heap[r]? = some o ∧ o.isCells = false := fun r e => (hr r e).2
  exact ⟨hJ X _ _ _ _ h.j hg (fun r e => ⟨Nat.le_trans hm (hr r e).1, (hr r e).2⟩), h.by_.kept hg hr', h.bf.kept hg hr', h.bs.kept hg hr', fun h0 => (h.br h0).kept hg hr', h.ht.kept hg hr', h.mk_.grown hg hD (fun r e => (hr r e).1), h.mem, h.ne, Nat.le_trans h.sz hg.size⟩
theorem WoS.below (h : WoS J X ts o gy gf g1 gr l nw b cur s Ds W) (hJ : ∀ X, OwnFrom b (J X)) (hb : Below W.heap.size W W') : WoS J X ts o gy gf g1 gr l nw b cur s Ds W' :=
  h.kept hJ h.sz (fun D hD => h.mk_.lt hD) (row := none) ⟨hb.os, hb.tape, hb.output, hb.size, fun k hk _ => hb.block k hk⟩ (fun r e => by cases e)
theorem WoS.turned {X' : List Nat} (h : WoS J (X' ++ X) ts o gy gf g1 gr l nw b cur s Ds W) (hA : ∀ X pre W1 W2, (∀ k ∈ X, b ≤ k) → J X pre W1 → Turned X W1 W2 → J X pre W2) {m : Nat} (hm : b ≤ m) (hD : ∀ D ∈ Ds, D < m) (hX' : ∀ k ∈ X', m ≤ k) (hXb : ∀ k ∈ X, b ≤ k) (hX : gy < m ∧ gf < m ∧ gr < m) (ht : Turned X' W W') : WoS J (X' ++ X) ts o gy gf g1 gr l nw b cur s Ds W' := by
  have z := h.ne
  exact ⟨hA _ _ _ _ (fun k hk => (List.mem_append.1 hk).elim (fun hk => Nat.le_trans hm (hX' k hk)) (hXb k)) h.j (ht.mono fun k hk => List.mem_append_left _ hk), h.by_.turned ht (not_mem_above hX' hX.1), h.bf.turned ht (not_mem_above hX' hX.2.1), h.bs.turned ht (not_mem_above hX' (by omega)), fun h0 => (h.br h0).turned ht (not_mem_above hX' hX.2.2), h.ht.heap (ht.block 0 h.ht.pos (not_mem_above hX' (by omega))), h.mk_.same (fun D hD' => ht.block D (h.mk_.lt hD') (not_mem_above hX' (hD D hD'))), h.mem, h.ne, Nat.le_trans h.sz ht.size⟩
/-- The beginning of the open one is laid anew. -/
theorem WoS.put (h : WoS J X ts o gy gf g1 gr l nw b cur s Ds W) (hA : ∀ X pre W1 W2, (∀ k ∈ X, b ≤ k) → J X pre W1 → Turned X W1 W2 → J X pre W2) (hXb : ∀ k ∈ X, b ≤ k) {wc : World} (hc : BelowH wc W) (hc' : BelowH wc W') (K : Aside0 (W.heap.size ≤ W'.heap.size ∧ ∀ k, k ≠ gf → W'.heap[k]? = W.heap[k]?)) {o' : Option Nat} (B : Blk W' gf #[.int .i64 (fromI o')] 3) : WoS J X ts o' gy gf g1 gr l nw b cur s Ds W' := by
  have z := h.ne
  have zf := h.ne.2.2.2.2
  have NT : Turned X W W' := ⟨hc'.out.os.trans hc.out.os.symm, hc'.out.tape.trans hc.out.tape.symm, hc'.out.output.trans hc.out.output.symm, K.out.1, fun k hk hn => K.out.2 k fun c => hn (c ▸ h.mem.2.1)⟩
  exact ⟨hA _ _ _ _ hXb h.j NT, h.by_.other K z.2.2.1, B, h.bs.other K (by omega), fun h0 => (h.br h0).other K (z.2.2.2.1 h0), h.ht.other (by omega) K, h.mk_.same (fun D hD => K.out.2 D (fun e => by
    subst e
    have := (h.mk_.at_ D hD).2
    rw [h.bf.out] at this
    cases this)), h.mem, h.ne, Nat.le_trans h.sz K.out.1⟩
/-- Behind a yield. -/
theorem WoS.told (h : WoS J X ts o gy gf g1 gr l nw b cur s Ds W) {ts2 : List (Nat × Nat)} (hkf : KeepsFrom b W W') (hx : ∀ k ∈ X, W'.heap[k]? = W.heap[k]?) (hk2 : Keep2 0 g1 W W') (hJ2 : J X ts2 W') : WoS J X ts2 o gy gf g1 gr l nw b cur s Ds W' :=
  ⟨hJ2, ⟨(hx gy h.mem.1).trans h.by_.out⟩, ⟨(hx gf h.mem.2.1).trans h.bf.out⟩, ⟨hk2.2.1.trans h.bs.out⟩, fun h0 => ⟨(hx gr h.mem.2.2).trans (h.br h0).out⟩, h.ht.keep hk2, h.mk_.keeps hkf (Nat.le_refl _), h.mem, h.ne, Nat.le_trans h.sz hkf.size⟩
theorem WoS.ts_eq {ts2 : List (Nat × Nat)} (h : WoS J X ts o gy gf g1 gr l nw b cur s Ds W) (e : ts = ts2) : WoS J X ts2 o gy gf g1 gr l nw b cur s Ds W := e ▸ h
theorem WoS.mark (h : WoS J X ts o gy gf g1 gr l nw b cur s Ds W) {D : Nat} (h1 : b ≤ D) (h2 : W.heap[D]? = some (.deferred (some []))) (h3 : D ∉ Ds) : WoS J X ts o gy gf g1 gr l nw b cur s (D :: Ds) W :=
  ⟨h.j, h.by_, h.bf, h.bs, h.br, h.ht, h.mk_.cons h1 h2 h3, h.mem, h.ne, h.sz⟩
end
/-- A list of blocks that lie from b on. -/
def InX (b : Nat) (X : List Nat) (W : World) : Prop := ∀ k ∈ X, b ≤ k ∧ k < W.heap.size
theorem InX.grow {b : Nat} {X : List Nat} {W W' : World} (h : InX b X W) (hs : W.heap.size ≤ W'.heap.size) : InX b X W' := fun k hk => ⟨(h k hk).1, Nat.lt_of_lt_of_le (h k hk).2 hs⟩
theorem InX.app {b m : Nat} {X Y : List Nat} {W W1 : World} (hX : ∀ k ∈ X, m ≤ k ∧ k < W.heap.size) (hm : b ≤ m) (hY : InX b Y W1) (hs : W1.heap.size ≤ W.heap.size) : InX b (X ++ Y) W := fun k hk => (List.mem_append.1 hk).elim (fun hk => ⟨Nat.le_trans hm (hX k hk).1, (hX k hk).2⟩) (fun hk => (hY.grow hs) k hk)
/-- Between two runs of one row. -/
structure WoR (J : List Nat → List (Nat × Nat) → World → Prop) (X' Z1 : List Nat) (b64 : Nat) (rs : List (Nat × Nat)) (o1 : Option Nat) (ts1 : List (Nat × Nat)) (gy gf g1 gr l nw b : Nat) (cur : Array Value) (s : ByteArray) (Ds : List Nat) (g4 : Nat) (kk : Int) (m : Nat) (pre : List (Nat × Nat)) (W : World) : Prop where mk ::
  out : ∃ tp op, RowSt b64 rs o1 pre tp op ∧ WoS J (X' ++ Z1) (ts1 ++ tp) op gy gf g1 gr l nw b cur s Ds W
  b4 : Blk W g4 #[.int .i64 kk] 3
  sz : m ≤ W.heap.size
/-- How the row may be left. -/
def WoX (J : List Nat → List (Nat × Nat) → World → Prop) (Jx : List (Nat × Nat) → World → Prop) (b64 : Nat) (rs : List (Nat × Nat)) (o1 : Option Nat) (ts1 : List (Nat × Nat)) (gy gf g1 gr l nw b : Nat) (cur : Array Value) (s : ByteArray) (Ds : List Nat) (c : Code) (W : World) : Prop :=
  (c = .ret ∧ (∃ ts, ts <+: spansW s ∧ Jx ts W) ∧ Marks b Ds W) ∨
  (c = .exit 1 ∧ ∃ X2, InX b X2 W ∧ WoS J X2 (ts1 ++ (rowT b64 rs o1).1) (rowT b64 rs o1).2 gy gf g1 gr l nw b cur s Ds W)
theorem rowsW_get (s : ByteArray) (k j : Nat) (hj : j < 4) : ∀ n, k < n → ((List.range n).flatMap (rowN s))[k * 4 + j]? = (rowN s k)[j]?
  | 0, h => by omega
  | n + 1, h => by
    have hl : ∀ m, ((List.range m).flatMap (rowN s)).length = 4 * m := fun m => by
      induction m with
      | zero => rfl
      | succ m ih =>
        rw [List.range_succ, List.flatMap_append, List.length_append, ih]
        simp [rowN]
        omega
    rw [List.range_succ, List.flatMap_append]
    by_cases e : k = n
    · subst e
      rw [List.getElem?_append_right (by rw [hl]; omega), hl, show k * 4 + j - 4 * k = j by omega]
      simp
    · rw [List.getElem?_append_left (by rw [hl]; omega)]
      exact rowsW_get s k j hj n (by omega)
set_option maxHeartbeats 4000000 in
set_option maxRecDepth 100000 in
theorem marks_Words_1.stops (F : Fence) (HF : Aside0 (F = Fence.wide)) (n : Nat) (hn : 7 ≤ n) (g1 : Nat) (s : ByteArray) (hs : s.size ≤ 1099511627776) (w : World)
    (B1 : Blk w g1 #[.string s] 9) (hT : TabOk w) :
    SeqO F n Tryd.prog 49 #[.pointer (some ⟨g1, 0, none⟩)] wEnc (Keep2 0 g1) (fun ys => ys = spansW s) (fun pre => pre <+: spansW s) w := by
  intro l J Jx W0 hW hJo hJxo hE hAb hY h0
  obtain ⟨R0, hR0⟩ : ∃ R0 : Ending → World → Prop, R0 = fun e W' => (∃ v, e = .returned v) ∧ ((∃ xs X, xs = spansW s ∧ (∀ k ∈ X, W0.heap.size ≤ k ∧ k < W'.heap.size) ∧ J X xs W') ∨ (∃ pre, pre <+: spansW s ∧ Jx pre W')) := ⟨_, rfl⟩
  rw [← hR0]
  have HR0 := Aside0.mk hR0
  clear hR0
  have HAB := Aside0.mk hAb
  have HY := Aside0.mk hY
  have HJ0 := Aside0.mk h0
  have HT := Aside0.mk (hT.step hW)
  have HJO := Aside0.mk hJo
  have HJXO := Aside0.mk hJxo
  have HE := Aside0.mk hE
  have HS := Aside0.mk hs
  have D1 := B1.below hW
  have HG1 := Aside0.mk (And.intro (Nat.lt_of_lt_of_le B1.lt hW.size) (hT.step hW).pos)
  obtain ⟨nw, hnw⟩ : ∃ nw, nw = nwords s.size := ⟨_, rfl⟩
  have HNW := Aside0.mk hnw
  have hnw1 : (nw : Int) ≤ 17179869184 := by rw [hnw]; unfold nwords; omega
  clear hAb hY h0 hT hW hJo hJxo hE hs B1 hnw
  have f1 := wide_fn HF 50
  have f2 := wide_fn HF 51
  have f3 := wide_fn HF 86
  have n1 : 1 ≤ n := by omega
  have n2 : 1 ≤ n - 1 := by omega
  have n3 : 1 ≤ n - 1 - 1 := by omega
  have hro := wide_round HF
  have HB := BelowH.refl W0
  refine callsIn_of_wp_marks Tryd.func49 rfl (wide_fn HF _) ?_ hro
  simp only [Tryd.ntmps49, List.size_toArray, List.length_cons, List.length_nil, Nat.reduceAdd, Nat.reduceSub, Array.replicate_succ, Array.replicate_zero, List.push_toArray, List.append_toArray, List.nil_append, List.cons_append]
  gi_wp2_with (first
    | ((with_reducible refine gate_dstIn (N := 2) rfl ?_); refine ev_allocIn HB rfl rfl (#[.func (.yield l) #[] #[]]) 72 ?hr ?_; (case hr => first | (go_simp; done) | (go_simp; rfl)); intro gy w3 G_gy GE_gy B_gy HBn K_gy KO_w3; clear HB; have HB := HBn; clear HBn))
  refine wpIn_scope HF ?_
  gi_wp2_with (first
    | ((with_reducible refine gate_dstIn (N := 3) rfl ?_); refine ev_allocIn HB rfl rfl (#[.int .i64 0]) 3 ?hr ?_; (case hr => first | (go_simp; done) | (go_simp; rfl)); intro gf w4 G_gf GE_gf B_gf HBn K_gf KO_w4; clear HB; have HB := HBn; clear HBn)
    | ((with_reducible refine gate_In (Op.store 3 (.tmp 3) (.const (.int .i64 (-1)))) rfl ?_); refine ev_store1In (i := 0) HB B_gf GE_gf rfl 3 _ _ rfl rfl (.int .i64 (-1)) rfl (by simp) (by kernel_rfl) rfl ?_; intro w5 B5 HBn K_w5 KO_w5; clear HB; have HB := HBn; clear HBn))
  refine wpIn_label ?_
  have Nyf : gy ≠ gf := by have := B_gy.lt; have := G_gf.out; omega
  have Y5 := (B_gy.below K_gf.out).other K_w5 Nyf
  have E1 := D1.below HB.out
  have c1 := E1.cell (i := 0) rfl
  have hlk := marks_look.walk s w5 (by have := HS.out; omega)
  rw [← HNW.out] at hlk
  have LK := Aside0.mk hlk
  clear hlk
  gi_wp2_with (first
    | (gi_at_call 50; refine (callsIn_of HF LK.out).mono ?_; rintro e w6 ⟨v, rfl, hrow, hb6⟩; have HR6 := Aside0.mk hrow; have HB6 := HB.step hb6; have HK6 := Aside0.mk hb6; obtain ⟨ad, cp, rfl⟩ := own_slice hrow; clear hrow hb6))
  have HO : Aside0 ((ad = none ∧ nw = 0) ∨ ∃ gr cur, ad = some ⟨gr, 0, none⟩ ∧ w5.heap.size ≤ gr ∧ Blk w6 gr cur 77 ∧ ∀ k j, k < nw → j < 4 → cur[k * 4 + j]? = (rowN s k)[j]?) := ⟨by
    rcases row_openN HR6.out with ⟨h1, h2⟩ | ⟨gr, cap, cur, h1, h2, h3, h4⟩
    · injection h1 with h1
      exact .inl ⟨h1, h2⟩
    · injection h1 with h1
      refine .inr ⟨gr, cur, h1, h2, h3, fun k j hk hj => ?_⟩
      have hg := rowsW_get s k j hj nw hk
      cases hx : (rowN s k)[j]? with
      | none => rw [List.getElem?_eq_none_iff] at hx; simp [rowN] at hx; omega
      | some u => rw [hx] at hg; exact h4 _ _ hg⟩
  obtain ⟨gr, cur, HO⟩ : ∃ gr cur, Aside0 (((ad = none ∧ nw = 0) ∧ gr = gf) ∨ (ad = some ⟨gr, 0, none⟩ ∧ w5.heap.size ≤ gr ∧ Blk w6 gr cur 77 ∧ ∀ k j, k < nw → j < 4 → cur[k * 4 + j]? = (rowN s k)[j]?)) := by
    rcases HO.out with h | ⟨gr, cur, h⟩
    · exact ⟨gf, #[], ⟨.inl ⟨h, rfl⟩⟩⟩
    · exact ⟨gr, cur, ⟨.inr h⟩⟩
  have HGET : Aside0 (nw ≠ 0 → ad = some ⟨gr, 0, none⟩ ∧ ∀ k j, k < nw → j < 4 → cur[k * 4 + j]? = (rowN s k)[j]?) := ⟨fun h0 => by
    rcases HO.out with ⟨⟨_, h⟩, _⟩ | ⟨h1, _, _, h3⟩
    · exact absurd h h0
    · exact ⟨h1, h3⟩⟩
  have F6 := B5.below HK6.out
  have Y6 := Y5.below HK6.out
  have X6 : ∃ X, InX W0.heap.size X w6 ∧ WoS J X [] none gy gf g1 gr l nw W0.heap.size cur s [] w6 := by
    have J6 : ∀ X, J X [] W0 → J X [] w6 := fun X h => HJO.out X [] W0 w6 none h ⟨HB6.out.os, HB6.out.tape, HB6.out.output, HB6.out.size, fun k hk _ => HB6.out.block k hk⟩ (fun r e => by cases e)
    have z1 := GE_gy.out
    have z2 := GE_gf.out
    have z3 := Y6.lt
    have z4 := F6.lt
    have z5 := HB.le
    have z6 := HB6.le
    have z7 := B5.lt
    have j2 := HE.out _ _ _ gf (HE.out _ _ _ gy HJ0.out GE_gy.out) GE_gf.out
    rcases HO.out with ⟨⟨h1, h2⟩, rfl⟩ | ⟨h1, h2, h3, h4⟩
    · refine ⟨[gr, gy], fun k hk => ?_, J6 _ j2, Y6, F6, E1.below HK6.out, fun h0 => absurd h2 h0, HT.out.step HB6.out, Marks.nil, ⟨by simp, by simp, by simp⟩, ⟨HG1.out.1, HG1.out.2, Nyf, fun h0 => absurd h2 h0, GE_gf.out⟩, z6⟩
      simp only [List.mem_cons, List.not_mem_nil, or_false] at hk
      rcases hk with rfl | rfl <;> omega
    · have z8 := h3.lt
      refine ⟨[gr, gf, gy], fun k hk => ?_, J6 _ (HE.out _ _ _ gr j2 (by omega)), Y6, F6, E1.below HK6.out, fun _ => h3, HT.out.step HB6.out, Marks.nil, ⟨by simp, by simp, by simp⟩, ⟨HG1.out.1, HG1.out.2, Nyf, fun _ => by omega, GE_gf.out⟩, z6⟩
      simp only [List.mem_cons, List.not_mem_nil, or_false] at hk
      rcases hk with rfl | rfl | rfl <;> omega
  obtain ⟨X, hX6, hI6⟩ := X6
  have I6 := Aside0.mk hI6
  have RX6 := Aside0.mk hX6
  clear hX6 hI6 HO LK HT B_gy K_gy KO_w3 KO_w4 KO_w5 B_gf K_gf G_gf G_gy B5 K_w5 Y5 E1 c1 D1 F6 Y6 HK6 HR6 HB HB6 HJ0 HG1 GE_gy GE_gf Nyf
  refine wpIn_loopM (fun m a W => ∃ (k : Nat) (X Ds : List Nat) (ts : List (Nat × Nat)) (o : Option Nat) (z11 : Int) (y4 y5 y6 y7 y12 y13 y14 y15 y16 y17 y18 y19 y20 y21 y22 y23 y24 y25 y26 y27 y28 y29 y30 y31 y32 y33 y34 y35 y36 y37 y38 y39 y40 y41 y42 y43 y44 y45 y46 y47 y48 y49 y50 y51 y52 y53 y54 y55 y56 y57 y58 y59 y60 y61 y62 y63 y64 y65 : Value), m = nw - k ∧ z11 = (k : Int) ∧ k ≤ nw ∧ a = { tmps := #[.func (.yield l) #[] #[], .pointer (some ⟨g1, 0, none⟩), .pointer (some ⟨gy, 0, none⟩), .pointer (some ⟨gf, 0, none⟩), y4, y5, y6, y7, .string s, .slice ad nw cp, .int .i64 (nw : Int), .int .i64 z11, y12, y13, y14, y15, y16, y17, y18, y19, y20, y21, y22, y23, y24, y25, y26, y27, y28, y29, y30, y31, y32, y33, y34, y35, y36, y37, y38, y39, y40, y41, y42, y43, y44, y45, y46, y47, y48, y49, y50, y51, y52, y53, y54, y55, y56, y57, y58, y59, y60, y61, y62, y63, y64, y65], defers := marksD Ds } ∧
    Aside0 (WordSt s k ts o) ∧ Aside0 (InX W0.heap.size X W) ∧ Aside0 (WoS J X ts o gy gf g1 gr l nw W0.heap.size cur s Ds W)) nw
    ⟨0, X, [], [], none, 0, _, _, _, _, _, _, _, _, _, _, _, _, _, _, _, _, _, _, _, _, _, _, _, _, _, _, _, _, _, _, _, _, _, _, _, _, _, _, _, _, _, _, _, _, _, _, _, _, _, _, _, _, _, _, _, _, _, _, rfl, rfl, Nat.zero_le _, rfl, ⟨WordSt.start s⟩, RX6, I6⟩ ?_
  clear I6 RX6 X
  rintro m a W ⟨k, X, Ds, ts, o, z11, y4, y5, y6, y7, y12, y13, y14, y15, y16, y17, y18, y19, y20, y21, y22, y23, y24, y25, y26, y27, y28, y29, y30, y31, y32, y33, y34, y35, y36, y37, y38, y39, y40, y41, y42, y43, y44, y45, y46, y47, y48, y49, y50, y51, y52, y53, y54, y55, y56, y57, y58, y59, y60, y61, y62, y63, y64, y65, rfl, hz11, hk, rfl, HW, RX, HI⟩ K hK
  have HKK := Aside0.mk hK
  clear hK
  by_cases hlt : k < nw
  · have HLT := Aside0.mk hlt
    obtain ⟨rfl, hcur⟩ := HGET.out (by omega)
    have BR := HI.out.br (by omega)
    obtain ⟨A, hA⟩ : ∃ A, A = iv (wordAt s.size (sgq s) k) := ⟨_, rfl⟩
    obtain ⟨B, hB⟩ : ∃ B, B = iv (wordAt s.size (blq s) k) := ⟨_, rfl⟩
    obtain ⟨C, hC⟩ : ∃ C, C = iv (wordAt s.size (opq s) k) := ⟨_, rfl⟩
    obtain ⟨D, hD⟩ : ∃ D, D = iv (word (wrow s k)) := ⟨_, rfl⟩
    have hrN : rowN s k = [.int .u64 A, .int .u64 B, .int .u64 C, .int .u64 D] := by rw [hA, hB, hC, hD]; rfl
    have hcur' := fun j hj => hcur k j hlt hj
    rw [hrN] at hcur'
    have cr0 : W.cell? ⟨gr, k * 4, none⟩ = some (.int .u64 A) := BR.cell (hcur' 0 (by decide))
    have cr1 : W.cell? ⟨gr, k * 4 + 1, none⟩ = some (.int .u64 B) := BR.cell (hcur' 1 (by decide))
    have cr2 : W.cell? ⟨gr, k * 4 + 2, none⟩ = some (.int .u64 C) := BR.cell (hcur' 2 (by decide))
    have cr3 : W.cell? ⟨gr, k * 4 + 3, none⟩ = some (.int .u64 D) := BR.cell (hcur' 3 (by decide))
    have hq1 : (k : Int) < (nw : Int) := by omega
    have hq2 : (0 : Int) ≤ (k : Int) := by omega
    have HD := Aside0.mk hD
    subst hz11
    clear hA hB hC hD hrN hcur hcur' hlt hk BR
    have HB := BelowH.refl W
    gi_upto_region 5 with (first
      | ((with_reducible refine gate_dstIn (N := 4) rfl ?_); refine ev_allocIn HB rfl rfl (#[.int .i64 0]) 3 ?hr ?_; (case hr => first | (go_simp; done) | (go_simp; rfl)); intro g4 w5 G_g4 GE_g4 B_g4 HBn K_g4 KO_w5; clear HB; have HB := HBn; clear HBn)
      | ((with_reducible refine gate_dstIn (N := 5) rfl ?_); refine ev_allocIn HB rfl rfl (#[.int .u64 0, .int .u64 0, .int .u64 0, .int .u64 0]) 77 ?hr ?_; (case hr => first | (go_simp; done) | (go_simp; rfl)); intro g5 w6 G_g5 GE_g5 B_g5 HBn K_g5 KO_w6; clear HB; have HB := HBn; clear HBn)
      | ((with_reducible refine gate_In (Op.store 3 (.tmp 4) (.tmp 13)) rfl ?_); refine ev_store1In (i := 0) HB (B_g4.below K_g5.out) GE_g4 rfl 3 _ _ rfl rfl (.int .i64 (k : Int)) rfl (by simp) (by kernel_rfl) rfl ?_; intro w7 B7 HBn K_w7 KO_w7; clear HB; have HB := HBn; clear HBn)
      | ((with_reducible refine gate_In (Op.store 77 (.tmp 5) (.tmp 15)) rfl ?_); refine ev_storeIn HB (B_g5.other K_w7 (by have := B_g4.lt; have := G_g5.out; omega)) GE_g5 rfl 77 _ _ rfl rfl rfl (by kernel_rfl) rfl (by simp [Value.oneCell']) ?_; intro w8 B8 HBn K_w8 KO_w8; clear HB; have HB := HBn; clear HBn))
    have N45 : g4 ≠ g5 := by have := B_g4.lt; have := G_g5.out; omega
    have B4 := B7.other K_w8 N45
    have I8 := Aside0.mk (HI.out.below HJO.out HB.out)
    have RX8 : Aside0 (InX W0.heap.size (g5 :: g4 :: X) w8) := ⟨fun i hi => by
      have z1 := GE_g4.out
      have z2 := GE_g5.out
      have z3 := B4.lt
      have z4 := B8.lt
      have z5 := HI.out.sz
      rcases List.mem_cons.1 hi with rfl | hi
      · omega
      · rcases List.mem_cons.1 hi with rfl | hi
        · omega
        · exact (RX.out.grow HB.le) i hi⟩
    have J8 : Aside0 (WoS J (g5 :: g4 :: X) ts o gy gf g1 gr l nw W0.heap.size cur s Ds w8) := ⟨by
      have h := I8.out
      have j1 := HE.out _ _ _ g5 (HE.out _ _ _ g4 HI.out.j GE_g4.out) GE_g5.out
      have j2 := HJO.out _ ts W w8 none j1 ⟨HB.out.os, HB.out.tape, HB.out.output, HB.out.size, fun k hk _ => HB.out.block k hk⟩ (fun r e => by cases e)
      exact ⟨j2, h.by_, h.bf, h.bs, h.br, h.ht, h.mk_, ⟨List.mem_cons_of_mem _ (List.mem_cons_of_mem _ h.mem.1), List.mem_cons_of_mem _ (List.mem_cons_of_mem _ h.mem.2.1), List.mem_cons_of_mem _ (List.mem_cons_of_mem _ h.mem.2.2)⟩, h.ne, h.sz⟩⟩
    have NG : Aside0 (W0.heap.size ≤ g4 ∧ W0.heap.size ≤ g5 ∧ g4 ≠ gf ∧ g5 ≠ gf ∧ g4 ≠ g5) := ⟨by
      have z1 := GE_g4.out
      have z2 := GE_g5.out
      have z5 := HI.out.sz
      have z6 := HI.out.bf.lt
      omega⟩
    clear I8 HI RX HB N45 B_g4 B_g5 K_g4 K_g5 K_w7 K_w8 KO_w5 KO_w6 KO_w7 KO_w8 G_g4 G_g5 GE_g4 GE_g5 B7 cr0 cr1 cr2 cr3
    obtain ⟨Z, hZ⟩ : ∃ Z, Z = g5 :: g4 :: X := ⟨_, rfl⟩
    rw [← hZ] at J8 RX8
    have HZM : Aside0 (g5 ∈ Z ∧ g4 ∈ Z) := ⟨by rw [hZ]; exact ⟨by simp, by simp⟩⟩
    clear hZ
    have bf8 := J8.out.bf
    have cf := bf8.cell (i := 0) rfl
    have c53 := B8.cell (i := 3) rfl
    have c40 := B4.cell (i := 0) rfl
    obtain ⟨q, hq⟩ : ∃ q, q = wrow s k := ⟨_, rfl⟩
    have hWR := HW.out.row (by have := HLT.out; have := HNW.out; omega)
    rw [← hq] at hWR
    have HD' : Aside0 (D = iv (word q)) := ⟨by rw [hq]; exact HD.out⟩
    have HWR := Aside0.mk hWR
    clear hWR HW HD hq bf8
    have hkb : (k : Int) ≤ 17179869184 := by omega
    have hw1 : wrap64 (64 * (k : Int)) = 64 * (k : Int) := wrap_64k hkb hq2
    clear hkb
    simp only [Act.put, List.setIfInBounds_toArray, List.set_cons_zero, List.set_cons_succ]
    obtain ⟨cb, hcb⟩ : ∃ cb, cb = clA o q := ⟨_, rfl⟩
    have HCB := Aside0.mk hcb
    clear hcb
    gi_cut [23] from 16 (fun v23 wx => v23 = .bool cb ∧ wx = w8)
    case first =>
      cases o with
      | none =>
        dsimp only [fromI] at cf
        gi_wp2
        gi_meet
        case rel => exact ⟨by rw [HCB.out]; rfl, rfl⟩
      | some f =>
        dsimp only [fromI] at cf
        have hf0 : decide (0 ≤ (f : Int)) = true := decide_eq_true (by omega)
        have hcl : (bits .and .u64 D 1 == 0) = cb := by rw [HD'.out, HCB.out]; exact clA_bit f q
        gi_wp2
        gi_meet
        case rel => exact ⟨rfl, rfl⟩
    case rest =>
    obtain ⟨rfl, rfl⟩ := hcut
    gi_upto_if 23 with (fail)
    gi_cut [24] from 23 (fun _ wx => Aside0 (InX W0.heap.size Z wx) ∧ Aside0 (WoS J Z (ts ++ (rowA (64 * k) q o).1) (rowA (64 * k) q o).2 gy gf g1 gr l nw W0.heap.size cur s Ds wx) ∧ Aside0 (Blk wx g4 #[.int .i64 (k : Int)] 3 ∧ Blk wx g5 #[.int .u64 A, .int .u64 B, .int .u64 C, .int .u64 D] 77))
    case first =>
      cases cb with
      | true =>
        obtain ⟨f, rfl, hra⟩ := rowA_shut (b := 64 * k) HCB.out.symm
        have HRA := Aside0.mk hra
        have hpx : ts ++ [(f, 64 * k)] <+: spansW s := by
          have := HWR.out.1
          rwa [hra] at this
        obtain ⟨fn, tmps, assign, body, hy, hR⟩ := HY.out Z ts (f, 64 * k) wc RX8.out J8.out.j hpx
        dsimp only [wEnc] at hy
        rw [show ((64 * k : Nat) : Int) = 64 * (k : Int) from by omega] at hy
        have HR := Aside0.mk hR
        have HPX := Aside0.mk hpx
        have cy := J8.out.by_.cell (i := 0) rfl
        dsimp only [fromI] at cf
        clear hR hpx hra
        gi_wp2
        refine (roundIn_any HF HR.out).mono ?_
        rintro e W2 ⟨hkf, hx, (⟨rfl, hJ2, hk2⟩ | ⟨rfl, hJx2⟩)⟩
        · have I2 := Aside0.mk (J8.out.told hkf hx hk2 hJ2)
          have RX2 := Aside0.mk (RX8.out.grow hkf.size)
          have F2 := I2.out.bf
          obtain ⟨wd, HBc, hwc⟩ := below_cut W2 gf (Nat.le_of_lt F2.lt)
          have GEc : Aside0 (wd.heap.size ≤ gf) := ⟨Nat.le_of_eq hwc⟩
          have HB2 : Aside0 (Blk W2 g4 #[.int .i64 (k : Int)] 3 ∧ Blk W2 g5 #[.int .u64 A, .int .u64 B, .int .u64 C, .int .u64 D] 77) := ⟨⟨⟨(hx g4 HZM.out.2).trans B4.out⟩, ⟨(hx g5 HZM.out.1).trans B8.out⟩⟩⟩
          clear hJ2 hkf hx hk2 hwc cf cy c40 c53 hy
          gi_wp2_with (first
            | ((with_reducible refine gate_In (Op.store 3 (.tmp 3) (.const (.int .i64 (-1)))) rfl ?_); refine ev_store1In (i := 0) HBc F2 GEc rfl 3 _ _ rfl rfl (.int .i64 (-1)) rfl (by simp) (by kernel_rfl) rfl ?_; intro w9 B9 HB9 K_w9 KO_w9))
          try simp only [Act.put, List.setIfInBounds_toArray, List.set_cons_zero, List.set_cons_succ]
          gi_meet
          case rel =>
            refine ⟨⟨RX2.out.grow K_w9.out.1⟩, ⟨?_⟩, ⟨HB2.out.1.other K_w9 NG.out.2.2.1, HB2.out.2.other K_w9 NG.out.2.2.2.1⟩⟩
            rw [HRA.out]
            exact I2.out.put HAB.out (fun k hk => (RX2.out k hk).1) HBc HB9 K_w9 B9
        · have HJ2 := Aside0.mk hJx2
          have HM2 := Aside0.mk (J8.out.mk_.keeps hkf (Nat.le_refl _))
          clear hJx2 hkf hx cy cf c40 c53 hy
          gi_wp2
          refine leaves_marksS (S := fun A => Jx (ts ++ [(f, 64 * k)]) A) (fun A D' hs h1 h2 => HJXO.out.putObj _ hs h1 h2 rfl) Ds W2 HJ2.out HM2.out fun A hA => ⟨_, results_none rfl _ _ _, by rw [HR0.out]; exact ⟨⟨_, rfl⟩, .inr ⟨_, HPX.out, hA⟩⟩⟩
      | false =>
        have HRA := Aside0.mk (rowA_keep (b := 64 * k) HCB.out.symm)
        gi_wp2
        gi_meet
        case rel =>
          refine ⟨RX8, ⟨?_⟩, ⟨B4, B8⟩⟩
          rw [HRA.out]
          exact J8.out.ts_eq (List.append_nil _).symm
    case rest =>
    obtain ⟨RX9, I9, HBB⟩ := hcut
    clear RX8 J8 B4 B8 cf c53 c40
    obtain ⟨ts1, hts1⟩ : ∃ ts1, ts1 = ts ++ (rowA (64 * k) q o).1 := ⟨_, rfl⟩
    obtain ⟨o1, ho1⟩ : ∃ o1, o1 = (rowA (64 * k) q o).2 := ⟨_, rfl⟩
    rw [← hts1, ← ho1] at I9
    have hWR := HWR.out.2
    rw [← hts1, ← ho1] at hWR
    have HWN := Aside0.mk hWR
    clear hWR HWR hts1 ho1 HCB cb ts o
    have c53 := HBB.out.2.cell (i := 3) rfl
    gi_wp2_with (first
      | (gi_at_call 51; refine (callsIn_of HF (words_Runs.calls D _)).mono ?_; rintro e w7 ⟨gq, rfl, GE1, B1, HB7⟩))
    clear c53
    have RX7 : Aside0 (InX W0.heap.size (gq :: Z) w7) := ⟨fun i hi => by
      have := I9.out.sz
      have := B1.lt
      rcases List.mem_cons.1 hi with rfl | hi
      · omega
      · exact (RX9.out.grow HB7.le) i hi⟩
    have I7 : Aside0 (WoS J (gq :: Z) ts1 o1 gy gf g1 gr l nw W0.heap.size cur s Ds w7) := ⟨by
      have h := I9.out.below HJO.out HB7.out
      have j2 := HJO.out _ ts1 wc w7 none (HE.out _ _ _ gq I9.out.j GE1) ⟨HB7.out.os, HB7.out.tape, HB7.out.output, HB7.out.size, fun k hk _ => HB7.out.block k hk⟩ (fun r e => by cases e)
      exact ⟨j2, h.by_, h.bf, h.bs, h.br, h.ht, h.mk_, ⟨List.mem_cons_of_mem _ h.mem.1, List.mem_cons_of_mem _ h.mem.2.1, List.mem_cons_of_mem _ h.mem.2.2⟩, h.ne, h.sz⟩⟩
    have B47 := HBB.out.1.below HB7.out
    have T7 := I7.out.ht
    have P0 := T7.pos
    have L1 := B1.lt
    have hD7 : ∀ D ∈ Ds, D < w7.heap.size := fun D hD => I7.out.mk_.lt hD
    have HP := Aside0.mk (And.intro hD7 I7.out.sz)
    have HL7 : Aside0 ((gy < w7.heap.size ∧ gf < w7.heap.size ∧ gr < w7.heap.size) ∧ g4 < w7.heap.size ∧ gq < w7.heap.size ∧ gq ∉ [gf, gy]) := ⟨by
      have m := I7.out.mem
      have z1 := (RX7.out gy m.1).2
      have z2 := (RX7.out gf m.2.1).2
      have z3 := (RX7.out gr m.2.2).2
      have z4 := B47.lt
      have z5 := (RX9.out gy I9.out.mem.1).2
      have z6 := (RX9.out gf I9.out.mem.2.1).2
      refine ⟨⟨z1, z2, z3⟩, z4, L1, ?_⟩
      simp only [List.mem_cons, List.not_mem_nil, or_false]
      omega⟩
    rw [HD'.out] at B1
    obtain ⟨rs, hrs⟩ : ∃ rs, rs = runsF q 65 0 := ⟨_, rfl⟩
    have HRS := Aside0.mk hrs
    have HSO := words_Runs_1.stopsO F HF (n - 1) (by omega) gq q w7 B1 T7
    rw [← hrs] at HSO
    rw [← hrs] at HWN
    have HRM : Aside0 (∀ x ∈ rs, x.1 < 64 ∧ 0 < x.2 ∧ x.1 + x.2 ≤ 64) := ⟨fun x hx => by
      rw [hrs] at hx
      have := runsF_mem q 65 0 x (by decide) hx
      exact this.2⟩
    have S7 := Aside0.mk B1
    clear hrs hD7 RX9 I9 HBB HB7 GE1 B1 T7
    refine wpIn_rangeFunc_O hro n1 (gf := 86) (lb := #[.pointer (some ⟨gq, 0, none⟩)]) rfl f3 (enters_of Tryd.func86 (by kernel_rfl) rfl)
      HSO Keep2.trans (fun W l o o' hl ho hc hw => Keep2.putObj P0 L1 W l o o' hl ho hc hw) (Below.refl _ _) (fun _ => rfl)
      (fun X' => WoR J X' (gq :: Z) (64 * k) rs o1 ts1 gy gf g1 gr l nw W0.heap.size cur s Ds g4 (k : Int) w7.heap.size)
      (fun c pre W => WoX J Jx (64 * k) rs o1 ts1 gy gf g1 gr l nw W0.heap.size cur s Ds c W)
      (fun X' pre A B row hs hg hr => by
        obtain ⟨tp, op, h1, h2⟩ := hs.out
        exact ⟨⟨tp, op, h1, h2.kept HJO.out HP.out.2 HP.out.1 hg hr⟩, hs.b4.kept hg (fun r e => (hr r e).2), Nat.le_trans hs.sz hg.size⟩)
      (fun c pre A B row hs hg hr => by
        have hr0 : ∀ r, row = some r → W0.heap.size ≤ r ∧ ∃ o : Obj, A.heap[r]? = some o ∧ o.isCells = false := fun r e => ⟨Nat.le_trans HP.out.2 (hr r e).1, (hr r e).2⟩
        rcases hs with ⟨h1, ⟨t, h2, h3⟩, h4⟩ | ⟨h1, X2, h2, h3⟩
        · exact .inl ⟨h1, ⟨t, h2, HJXO.out _ _ _ _ h3 hg hr0⟩, h4.grown hg HP.out.1 (fun r e => (hr r e).1)⟩
        · exact .inr ⟨h1, X2, h2.grow hg.size, h3.kept HJO.out HP.out.2 HP.out.1 hg hr⟩)
      (fun X' pre A k h hk => by
        obtain ⟨tp, op, h1, h2⟩ := h.out
        exact ⟨⟨tp, op, h1, HE.out _ _ _ k h2.j hk, h2.by_, h2.bf, h2.bs, h2.br, h2.ht, h2.mk_, ⟨List.mem_cons_of_mem _ h2.mem.1, List.mem_cons_of_mem _ h2.mem.2.1, List.mem_cons_of_mem _ h2.mem.2.2⟩, h2.ne, h2.sz⟩, h.b4, h.sz⟩)
      (fun X' pre A C hX h ht => by
        obtain ⟨tp, op, h1, h2⟩ := h.out
        exact ⟨⟨tp, op, h1, h2.turned HAB.out HP.out.2 HP.out.1 hX (fun k hk => (RX7.out k hk).1) HL7.out.1 ht⟩, h.b4.turned ht (not_mem_above hX HL7.out.2.1), Nat.le_trans h.sz ht.size⟩)
      ⟨⟨[], o1, RowSt.start _ _ _, I7.out.ts_eq (List.append_nil _).symm⟩, B47, Nat.le_refl _⟩
      (fun y a' W => a' = { tmps := #[.func (.yield l) #[] #[], .pointer (some ⟨g1, 0, none⟩), .pointer (some ⟨gy, 0, none⟩), .pointer (some ⟨gf, 0, none⟩), .pointer (some ⟨g4, 0, none⟩), .pointer (some ⟨g5, 0, none⟩), .int .i64 (y.1 : Int), .int .i64 (y.2 : Int), .string s, .slice (some ⟨gr, 0, none⟩) nw cp, .int .i64 (nw : Int), .int .i64 (k : Int), .bool true, .int .i64 (k : Int), .pointer (some ⟨gr, k * 4, none⟩), .agg #[.int .u64 A, .int .u64 B, .int .u64 C, .int .u64 D], u16, u17, u18, u19, u20, u21, u22, u23, u24, u25, u26, u27, u28, u29, u30, .pointer (some ⟨g5, 3, none⟩), .int .u64 D, .func (.func 86) #[] #[.pointer (some ⟨gq, 0, none⟩)], .int .i64 (y.1 : Int), .int .i64 (y.2 : Int), u36, u37, u38, u39, u40, u41, u42, u43, u44, u45, u46, u47, u48, u49, u50, u51, u52, u53, u54, u55, u56, u57, u58, u59, u60, u61, u62, u63, u64, u65], defers := [] })
      (fun x a' pre A B row hs hg hr => hs)
      ?assign ?body ?done ?stop
    case assign =>
      intro X' l' pre y W K' hX' hI hsp hK'
      have hz : ∀ t : Array Value, (((#[34, 35] : Array Tmp).zip ((fun x : Nat × Nat => #[Value.int .i64 (x.1 : Int), Value.int .i64 (x.2 : Int)]) y)).foldl (fun t (p, v) => t.setIfInBounds p v) t) = (t.setIfInBounds 34 (.int .i64 (y.1 : Int))).setIfInBounds 35 (.int .i64 (y.2 : Int)) := fun t => by simp
      rw [hz]
      simp only [List.setIfInBounds_toArray, List.set_cons_succ, List.set_cons_zero]
      clear hz
      gi_wp2
      exact hK' _ _ ((KeepsOthers.refl _).from _) (fun _ _ => rfl) ⟨rfl, rfl, Nat.le_refl _⟩ hI rfl
    case body =>
      rintro X' l' pre y a' W' hX' hl ⟨r, hr⟩ hI rfl hsp
      clear hr hl
      obtain ⟨tp, op, hst, hIo⟩ := hI.out
      have hym := HRM.out y (hsp.subset (List.mem_append_right _ (List.mem_singleton.2 rfl)))
      have RXX : Aside0 (InX W0.heap.size (X' ++ gq :: Z) W') := ⟨InX.app hX' HP.out.2 RX7.out hI.sz⟩
      have HXL := Aside0.mk hX'
      have HIO := Aside0.mk hIo
      have HB4 := Aside0.mk hI.b4
      have HSZ := Aside0.mk hI.sz
      have HST := Aside0.mk hst
      have HSP := Aside0.mk hsp
      obtain ⟨f', hf'⟩ : ∃ f', f' = op.getD (64 * k + y.1) := ⟨_, rfl⟩
      have HF' := Aside0.mk hf'
      obtain ⟨ob, hob⟩ : ∃ ob, ob = op.isNone := ⟨_, rfl⟩
      have HOB := Aside0.mk hob
      have cf := hIo.bf.cell (i := 0) rfl
      have c4 := hI.b4.cell (i := 0) rfl
      obtain ⟨yi, yn⟩ := y
      dsimp only at hym HF' ⊢
      have HYM := Aside0.mk hym
      have hkb : (k : Int) ≤ 17179869184 := by have := HLT.out; omega
      have hw2 : wrap64 (64 * (k : Int) + (yi : Int)) = 64 * (k : Int) + (yi : Int) := wrap_64ki hkb hq2 (by omega)
      have hw3 : wrap64 (64 * (k : Int) + (yi : Int) + (yn : Int)) = 64 * (k : Int) + (yi : Int) + (yn : Int) := wrap_64kin hkb hq2 hym.2.2
      have hw4 : wrap64 ((yi : Int) + (yn : Int)) = (yi : Int) + (yn : Int) := wrap_sum64 hym.2.2
      obtain ⟨zi, hzi⟩ : ∃ zi : Int, zi = (yi : Int) := ⟨_, rfl⟩
      obtain ⟨zn, hzn⟩ : ∃ zn : Int, zn = (yn : Int) := ⟨_, rfl⟩
      rw [← hzi, ← hzn]
      rw [← hzi] at hw2 hw3 hw4
      rw [← hzn] at hw3 hw4
      have HZI := Aside0.mk hzi
      have HZN := Aside0.mk hzn
      clear hI hX' hIo hst hsp hf' hob hym hkb hzi hzn
      gi_upto_region 11 with (fail)
      gi_cut [37] from 36 (fun v37 wx => v37 = .bool ob ∧ wx = W')
      case first =>
        cases op with
        | none =>
          dsimp only [fromI] at cf
          gi_wp2
          gi_meet
          case rel => exact ⟨by rw [HOB.out]; rfl, rfl⟩
        | some f =>
          dsimp only [fromI] at cf
          have hf0 : decide ((f : Int) < 0) = false := decide_eq_false (by omega)
          gi_wp2
          gi_meet
          case rel => exact ⟨by rw [HOB.out]; rfl, rfl⟩
      case rest =>
      obtain ⟨rfl, rfl⟩ := hcut
      gi_upto_if 37 with (fail)
      gi_cut [38] from 36 (fun _ wx => Aside0 (WoS J (X' ++ gq :: Z) (ts1 ++ tp) (some f') gy gf g1 gr l nw W0.heap.size cur s Ds wx) ∧ Aside0 (Blk wx g4 #[.int .i64 (k : Int)] 3) ∧ Aside0 (KeepsFrom W0.heap.size wc wx ∧ (∀ k ∈ X', wx.heap[k]? = wc.heap[k]?) ∧ Keep2 0 gq wc wx))
      case first =>
        cases ob with
        | true =>
          cases op with
          | some f => exact absurd HOB.out (by simp)
          | none =>
            have F2 := HIO.out.bf
            obtain ⟨wd, HBc, hwc⟩ := below_cut wc gf (Nat.le_of_lt F2.lt)
            have GEc : Aside0 (wd.heap.size ≤ gf) := ⟨Nat.le_of_eq hwc⟩
            dsimp only [fromI] at cf F2
            clear hwc cf
            gi_wp2_with (first
              | ((with_reducible refine gate_In (Op.store 3 (.tmp 3) (.tmp 41)) rfl ?_); refine ev_store1In (i := 0) HBc F2 GEc rfl 3 _ _ rfl rfl (.int .i64 (64 * (k : Int) + zi)) (congrArg (Value.int .i64) hw2) (by simp) (by kernel_rfl) rfl ?_; intro w9 B9 HB9 K_w9 KO_w9))
            try simp only [Act.put, List.setIfInBounds_toArray, List.set_cons_zero, List.set_cons_succ]
            gi_meet
            case rel =>
              have e1 : (f' : Int) = 64 * (k : Int) + zi := by
                rw [HF'.out, HZI.out]
                exact cast_ki k yi
              have B9' : Blk w9 gf #[.int .i64 (fromI (some f'))] 3 := by
                show Blk w9 gf #[.int .i64 (f' : Int)] 3
                rw [e1]
                exact B9
              have zf := HIO.out.ne
              have z0 := HL7.out
              simp only [List.mem_cons, List.not_mem_nil, or_false, not_or] at z0
              exact ⟨⟨HIO.out.put HAB.out (fun k hk => (RXX.out k hk).1) HBc HB9 K_w9 B9'⟩, ⟨HB4.out.other K_w9 NG.out.2.2.1⟩, ⟨KO_w9.out.from _, fun k hk => K_w9.out.2 k (fun c => by have := (HXL.out k hk).1; omega), ⟨K_w9.out.2 0 (by omega), K_w9.out.2 gq z0.2.2.2.1, K_w9.out.1⟩⟩⟩
        | false =>
          cases op with
          | none => exact absurd HOB.out (by simp)
          | some f =>
            have e1 : f' = f := HF'.out
            gi_wp2
            gi_meet
            case rel => exact ⟨⟨by rw [e1]; exact HIO.out⟩, HB4, ⟨(KeepsOthers.refl _).from _, fun _ _ => rfl, ⟨rfl, rfl, Nat.le_refl _⟩⟩⟩
      case rest =>
      obtain ⟨I9, B49, KK⟩ := hcut
      clear HIO HB4 HOB cf c4
      have c4 := B49.out.cell (i := 0) rfl
      have cf := I9.out.bf.cell (i := 0) rfl
      dsimp only [fromI] at cf
      by_cases h64 : yi + yn = 64
      · have hb : (zi + zn == 64) = true := by rw [HZI.out, HZN.out]; exact beq_64t h64
        have HRT := Aside0.mk (HST.out.full HSP.out h64)
        clear h64
        gi_wp2
        refine ⟨KeepsFrom.up KK.out.1 HP.out.2, KK.out.2.1, .inr ⟨rfl, X' ++ gq :: Z, RXX.out.grow KK.out.1.size, ?_⟩⟩
        rw [HRT.out, ← HF'.out]
        exact I9.out
      · have hb : (zi + zn == 64) = false := by rw [HZI.out, HZN.out]; exact beq_64 h64
        have hnx := HST.out.next HSP.out h64
        dsimp only at hnx
        rw [← HF'.out] at hnx
        have hpx : (ts1 ++ tp) ++ [(f', 64 * k + yi + yn)] <+: spansW s := by
          rw [List.append_assoc]
          exact ((List.prefix_append_right_inj ts1).2 hnx.2).trans HWN.out.1
        have RX9 : Aside0 (InX W0.heap.size (X' ++ gq :: Z) wc) := ⟨RXX.out.grow KK.out.1.size⟩
        obtain ⟨fn, tmps, assign, body, hy, hR⟩ := HY.out (X' ++ gq :: Z) (ts1 ++ tp) (f', 64 * k + yi + yn) wc RX9.out I9.out.j hpx
        dsimp only [wEnc] at hy
        rw [cast_kin, ← HZI.out, ← HZN.out] at hy
        have HR := Aside0.mk hR
        have HPX := Aside0.mk hpx
        have HNX := Aside0.mk hnx.1
        have cy := I9.out.by_.cell (i := 0) rfl
        clear hR hpx hnx h64
        gi_wp2
        refine (roundIn_wide HF HR.out).mono ?_
        rintro e W2 ⟨hkf, hx, (⟨rfl, hJ2, hk2⟩ | ⟨rfl, hJx2⟩)⟩
        · have I2 := Aside0.mk (I9.out.told hkf hx hk2 hJ2)
          have F2 := I2.out.bf
          obtain ⟨wd, HBc, hwc⟩ := below_cut W2 gf (Nat.le_of_lt F2.lt)
          have GEc : Aside0 (wd.heap.size ≤ gf) := ⟨Nat.le_of_eq hwc⟩
          have B42 : Aside0 (Blk W2 g4 #[.int .i64 (k : Int)] 3) := ⟨⟨(hx g4 (List.mem_append_right _ (List.mem_cons_of_mem _ HZM.out.2))).trans B49.out.out⟩⟩
          have HK2 := Aside0.mk (And.intro hkf (And.intro hx hk2))
          dsimp only [fromI] at F2
          clear hJ2 hkf hx hk2 hwc cf cy c4 hy
          gi_wp2_with (first
            | ((with_reducible refine gate_In (Op.store 3 (.tmp 3) (.const (.int .i64 (-1)))) rfl ?_); refine ev_store1In (i := 0) HBc F2 GEc rfl 3 _ _ rfl rfl (.int .i64 (-1)) rfl (by simp) (by kernel_rfl) rfl ?_; intro w9 B9 HB9 K_w9 KO_w9))
          obtain ⟨hkf, hx, hk2⟩ := HK2.out
          have zf := I2.out.ne
          have z0 := HL7.out
          simp only [List.mem_cons, List.not_mem_nil, or_false, not_or] at z0
          refine ⟨KeepsFrom.up (KK.out.1.trans (hkf.trans (KO_w9.out.from _))) HP.out.2, fun k hk => (K_w9.out.2 k (fun c => by have := (HXL.out k hk).1; omega)).trans ((hx k (List.mem_append_left _ hk)).trans (KK.out.2.1 k hk)), ⟨(K_w9.out.2 0 (by omega)).trans (hk2.1.trans KK.out.2.2.1), (K_w9.out.2 gq z0.2.2.2.1).trans ((hx gq (List.mem_append_right _ (List.mem_cons_self ..))).trans KK.out.2.2.2.1), Nat.le_trans KK.out.1.size (Nat.le_trans hkf.size K_w9.out.1)⟩, ⟨_, none, HNX.out, ?_⟩, B42.out.other K_w9 NG.out.2.2.1, Nat.le_trans HSZ.out (Nat.le_trans KK.out.1.size (Nat.le_trans hkf.size K_w9.out.1))⟩
          have h := I2.out.put HAB.out (fun k hk => (RX9.out k hk).1) HBc HB9 K_w9 (o' := none) B9
          exact h.ts_eq (List.append_assoc _ _ _)
        · have HJ2 := Aside0.mk hJx2
          have HK2 := Aside0.mk (And.intro hkf hx)
          have HM2 := Aside0.mk (I9.out.mk_.keeps hkf (Nat.le_refl _))
          clear hJx2 hkf hx cf cy c4 hy
          gi_wp2
          exact ⟨KeepsFrom.up (KK.out.1.trans HK2.out.1) HP.out.2, fun k hk => (HK2.out.2 k (List.mem_append_left _ hk)).trans (KK.out.2.1 k hk), .inl ⟨rfl, ⟨_, HPX.out, HJ2.out⟩, HM2.out⟩⟩
    case done =>
      rintro D' X' ys W' hD hX' rfl hI hK'
      obtain ⟨tp, op, hst, hIo⟩ := hI.out
      have HRT := Aside0.mk hst.end_
      have HDn : D' ∉ Ds := fun c => by have := HP.out.1 D' c; omega
      have RXX : Aside0 (InX W0.heap.size (X' ++ gq :: Z) W') := ⟨InX.app hX' HP.out.2 RX7.out hI.sz⟩
      have I9 := Aside0.mk (hIo.mark (Nat.le_trans HP.out.2 hD) hK' HDn)
      have hkb : (k : Int) ≤ 17179869184 := by have := HLT.out; omega
      have hw9 : wrap64 ((k : Int) + 1) = (k : Int) + 1 := wrap_succ hkb hq2
      clear hI hX' hD hK' hst hIo HDn hkb
      gi_wp2
      refine HKK.out (nw - (k + 1)) _ _ (by have := HLT.out; omega) ⟨k + 1, X' ++ gq :: Z, D' :: Ds, ts1 ++ tp, op, _, _, _, _, _, _, _, _, _, _, _, _, _, _, _, _, _, _, _, _, _, _, _, _, _, _, _, _, _, _, _, _, _, _, _, _, _, _, _, _, _, _, _, _, _, _, _, _, _, _, _, _, _, _, _, _, _, _, _, rfl, by omega, by have := HLT.out; omega, rfl, ⟨?_⟩, RXX, I9⟩
      have h := HWN.out.2
      rw [HRT.out] at h
      exact h
    case stop =>
      rintro D' c pre W' hD hp hIx hK'
      have HDn : D' ∉ Ds := fun c => by have := HP.out.1 D' c; omega
      rcases hIx with ⟨rfl, ⟨t, h1, h2⟩, h3⟩ | ⟨rfl, X2, h1, h2⟩
      · have HM2 := Aside0.mk (h3.cons (Nat.le_trans HP.out.2 hD) hK' HDn)
        have HPX := Aside0.mk h1
        have HJ2 := Aside0.mk h2
        clear hp h1 h2 h3 hK' hD HDn
        gi_wp2
        exact leaves_marksS (S := fun A => Jx t A) (fun A D' hs h1 h2 => HJXO.out.putObj _ hs h1 h2 rfl) (D' :: Ds) W' HJ2.out HM2.out fun A hA => ⟨_, results_none rfl _ _ _, by rw [HR0.out]; exact ⟨⟨_, rfl⟩, .inr ⟨_, HPX.out, hA⟩⟩⟩
      · have RX2 := Aside0.mk h1
        have I9 := Aside0.mk (h2.mark (Nat.le_trans HP.out.2 hD) hK' HDn)
        have hkb : (k : Int) ≤ 17179869184 := by have := HLT.out; omega
        have hw9 : wrap64 ((k : Int) + 1) = (k : Int) + 1 := wrap_succ hkb hq2
        clear hp h1 h2 hK' hD HDn hkb
        gi_wp2
        exact HKK.out (nw - (k + 1)) _ _ (by have := HLT.out; omega) ⟨k + 1, X2, D' :: Ds, _, _, _, _, _, _, _, _, _, _, _, _, _, _, _, _, _, _, _, _, _, _, _, _, _, _, _, _, _, _, _, _, _, _, _, _, _, _, _, _, _, _, _, _, _, _, _, _, _, _, _, _, _, _, _, _, _, _, _, _, _, rfl, by omega, by have := HLT.out; omega, rfl, ⟨HWN.out.2⟩, RX2, I9⟩
  · have EK : k = nw := by omega
    subst hz11
    have hq1 : decide ((k : Int) < (nw : Int)) = false := decide_eq_false (by omega)
    have hq1' : decide (k < nw) = false := decide_eq_false (by omega)
    have HK := Aside0.mk EK
    have HWE : Aside0 (WordSt s (nwords s.size) ts o) := ⟨by rw [← HNW.out, ← EK]; exact HW.out⟩
    have cf := HI.out.bf.cell (i := 0) rfl
    have cs := HI.out.bs.cell (i := 0) rfl
    have cy := HI.out.by_.cell (i := 0) rfl
    have hsz : (s.size : Int) ≤ 1099511627776 := by have := HS.out; omega
    clear EK hlt hk HW
    cases o with
    | none =>
      dsimp only [fromI] at cf
      clear cs cy
      gi_wp2
      exact leaves_marksS (S := fun A => J X ts A ∧ W.heap.size ≤ A.heap.size) (fun A D' hs h1 h2 => ⟨(HJO.out _).putObj _ hs.1 h1 h2 rfl, by simpa using hs.2⟩) Ds W ⟨HI.out.j, Nat.le_refl _⟩ HI.out.mk_ fun A hA => ⟨_, results_none rfl _ _ _, by rw [HR0.out]; exact ⟨⟨_, rfl⟩, .inl ⟨_, X, HWE.out.done, RX.out.grow hA.2, hA.1⟩⟩⟩
    | some f =>
      dsimp only [fromI] at cf
      have hE2 := HWE.out.last
      obtain ⟨fn, tmps, assign, body, hy, hR⟩ := HY.out X ts (f, s.size) W RX.out HI.out.j (by rw [hE2]; exact List.prefix_rfl)
      dsimp only [wEnc] at hy
      have HR := Aside0.mk hR
      have HE2 := Aside0.mk hE2
      have hf0 : decide (0 ≤ (f : Int)) = true := decide_eq_true (by omega)
      clear hR hE2
      gi_wp2
      refine (roundIn_any HF HR.out).mono ?_
      rintro e W2 ⟨hkf, hx, (⟨rfl, hJ2, hk2⟩ | ⟨rfl, hJx2⟩)⟩
      · have HJ2 := Aside0.mk hJ2
        have HM2 := Aside0.mk (HI.out.mk_.keeps hkf (Nat.le_refl _))
        have HZ2 := Aside0.mk hkf.size
        clear hJ2 hkf hx hk2 cy cs cf hy
        gi_wp2
        exact leaves_marksS (S := fun A => J X (ts ++ [(f, s.size)]) A ∧ W2.heap.size ≤ A.heap.size) (fun A D' hs h1 h2 => ⟨(HJO.out _).putObj _ hs.1 h1 h2 rfl, by simpa using hs.2⟩) Ds W2 ⟨HJ2.out, Nat.le_refl _⟩ HM2.out fun A hA => ⟨_, results_none rfl _ _ _, by rw [HR0.out]; exact ⟨⟨_, rfl⟩, .inl ⟨_, X, HE2.out, RX.out.grow (Nat.le_trans HZ2.out hA.2), hA.1⟩⟩⟩
      · have HJ2 := Aside0.mk hJx2
        have HM2 := Aside0.mk (HI.out.mk_.keeps hkf (Nat.le_refl _))
        clear hJx2 hkf hx cy cs cf hy
        gi_wp2
        exact leaves_marksS (S := fun A => Jx (ts ++ [(f, s.size)]) A) (fun A D' hs h1 h2 => HJXO.out.putObj _ hs h1 h2 rfl) Ds W2 HJ2.out HM2.out fun A hA => ⟨_, results_none rfl _ _ _, by rw [HR0.out]; exact ⟨⟨_, rfl⟩, .inr ⟨_, by rw [HE2.out]; exact List.prefix_rfl, hA⟩⟩⟩
end


open Go.Proofs.YtgddljealeklkaaDoorQ Go.Proofs.YtgddljealeklkaaDoorM in
set_option maxHeartbeats 4000000 in
set_option maxRecDepth 100000 in
theorem marks_Words.calls (s : ByteArray) (w : World) :
    Calls Tryd.prog 14 #[.string s] w fun e w' => ∃ g1 : Nat, e = .returned (.func (.func 49) #[] #[.pointer (some ⟨g1, 0, none⟩)]) ∧
      w.heap.size ≤ g1 ∧ Blk w' g1 #[.string s] 9 ∧ BelowH w w' := by
  have HB := BelowH.refl w
  go_enter Tryd.func14, Tryd.ntmps14
  go_wp2_with (first | ((with_reducible refine gate_dst (N := 1) rfl ?_); refine ev_alloc HB rfl (#[.string s]) 9 ?hr ?_; (case hr => first | (go_simp; done) | (go_simp; rfl)); intro g1 w1 G_g1 GE_g1 B_g1 HBn K_g1; clear HB; have HB := HBn; clear HBn))
  go_ret
  exact ⟨g1, rfl, GE_g1.out, B_g1, HB⟩


def quarryref00_SameInts.l0 : Nat → List Int → List Int → Int → Option (Bool)
  | 0, _, _, _ => none
  | k + 1, x0, x1, x5 => if x5 < (x0.length : Int) then (if 0 ≤ x5 then (if x5 < (x1.length : Int) then (if (rd x0 x5) = (rd x1 x5) then (quarryref00_SameInts.l0 k x0 x1 (wrap64 (x5 + 1))) else (some false)) else (none)) else (none)) else (some true)
def quarryref00_SameInts.f (k : Nat) (l0 : List Int) (l1 : List Int) : Option (Bool) := if (l0.length : Int) = (l1.length : Int) then (quarryref00_SameInts.l0 k l0 l1 0) else (some false)
theorem quarryref00_SameInts.mono_l : ∀ k, (∀ y0 y1 y2, LeO (quarryref00_SameInts.l0 k y0 y1 y2) (quarryref00_SameInts.l0 (k + 1) y0 y1 y2))
  | 0 => fun _ _ _ r h => by simp [quarryref00_SameInts.l0] at h
  | k + 1 => by
    have ih0 := quarryref00_SameInts.mono_l k
    · intro y0 y1 y2
      unfold quarryref00_SameInts.l0
      repeat' first
      | (with_reducible exact ih0 _ _ _)
      | (with_reducible exact LeO.refl _)
      | (with_reducible exact LeO.none _)
      | (with_reducible refine LeO.ite ?_ ?_)
      | (with_reducible refine LeO.bind ?_ (fun _ => ?_))
      | exact ih0 _ _ _
      | exact LeO.none _
      | refine LeO.ite ?_ ?_
      | refine LeO.bind ?_ (fun _ => ?_)
theorem quarryref00_SameInts.mono : ∀ a0 a1 k, LeO (quarryref00_SameInts.f k a0 a1) (quarryref00_SameInts.f (k + 1) a0 a1) := by
  intro a0 a1 k
  have ih0 := quarryref00_SameInts.mono_l k
  unfold quarryref00_SameInts.f
  repeat' first
      | (with_reducible exact ih0 _ _ _)
      | (with_reducible exact LeO.refl _)
      | (with_reducible exact LeO.none _)
      | (with_reducible refine LeO.ite ?_ ?_)
      | (with_reducible refine LeO.bind ?_ (fun _ => ?_))
      | exact ih0 _ _ _
      | exact LeO.none _
      | refine LeO.ite ?_ ?_
      | refine LeO.bind ?_ (fun _ => ?_)
set_option maxHeartbeats 8000000 in
set_option maxRecDepth 100000 in
theorem quarryref00_SameInts.calls (k : Nat) (A0 : Option Addr) (c0 : Nat) (l0 : List Int) (A1 : Option Addr) (c1 : Nat) (l1 : List Int) (r : Bool) (w : World) (hr0 : Kd.C (Kd.int .i64) w A0 l0.length l0) (hc0 : l0.length ≤ c0) (hr1 : Kd.C (Kd.int .i64) w A1 l1.length l1) (hc1 : l1.length ≤ c1) (h : quarryref00_SameInts.f k l0 l1 = some r) :
    Calls Tryd.prog 25 #[.slice A0 l0.length c0, .slice A1 l1.length c1] w fun e w' => e = .returned (.bool r) ∧ Drawn0 w w' := by
  have HR0 := Aside0.mk hr0
  have HC0 := Aside0.mk hc0
  clear hr0 hc0
  have HR1 := Aside0.mk hr1
  have HC1 := Aside0.mk hc1
  clear hr1 hc1
  have H : (if (l0.length : Int) = (l1.length : Int) then (quarryref00_SameInts.l0 k l0 l1 0) else (some false)) = some r := h
  clear h
  by_cases c3 : (l0.length : Int) = (l1.length : Int)
  · rw [if_pos c3] at H
    have c3b0 : ((l0.length : Int) == (l1.length : Int)) = true := beq_iff_eq.mpr c3
    have c3b1 : ((l0.length : Int) != (l1.length : Int)) = false := bne_eq_false_iff_eq.mpr c3
    have c3b2 : (l0.length == l1.length) = true := by first | simpa using c3 | (simp at c3 ⊢; omega)
    clear c3
    have H' := Aside0.mk H
    clear H
    go_enter Tryd.func25, Tryd.ntmps25
    go_wp2
    repeat (go_quiet (fail); try go_wp2)
    go_loopg [5] k (fun kq v5 w' => ∃ (x5_1 : Int), v5 = .int .i64 x5_1 ∧ Aside0 (quarryref00_SameInts.l0 kq l0 l1 x5_1 = some r) ∧ Aside0 (kq ≤ k) ∧ Drawn0 w w')
    case atStart => exact ⟨(0), (by first | rfl | (simp; done) | (simp [*]; done)), H', ⟨Nat.le_refl _⟩, by repeat (first | exact Drawn0.refl _ | apply Drawn0.step)⟩
    case round =>
      clear H'
      try clear c1
      try clear c2
      try clear p2
      try clear c3
      try clear c3b0
      try clear c3b1
      try clear c3b2
      obtain ⟨x5_1, rfl, HA, HK1, ⟨m1, rfl⟩⟩ := hrel
      cases gk with
      | zero => exact absurd HA.out (by simp [quarryref00_SameInts.l0])
      | succ k1 =>
        have H := HA.out
        clear HA
        simp only [quarryref00_SameInts.l0] at H
        by_cases c4 : x5_1 < (l0.length : Int)
        · rw [if_pos c4] at H
          have c4b0 : decide (x5_1 < (l0.length : Int)) = true := decide_eq_true c4
          clear c4
          by_cases c5 : 0 ≤ x5_1
          · rw [if_pos c5] at H
            have c5b0 : decide (0 ≤ x5_1) = true := decide_eq_true c5
            clear c5
            by_cases c6 : x5_1 < (l1.length : Int)
            · rw [if_pos c6] at H
              have c6b0 : decide (x5_1 < (l1.length : Int)) = true := decide_eq_true c6
              clear c6
              by_cases c7 : (rd l0 x5_1) = (rd l1 x5_1)
              · rw [if_pos c7] at H
                have c7b0 : ((rd l0 x5_1) == (rd l1 x5_1)) = true := beq_iff_eq.mpr c7
                have c7b1 : ((rd l0 x5_1) != (rd l1 x5_1)) = false := bne_eq_false_iff_eq.mpr c7
                clear c7
                have H' := Aside0.mk H
                clear H
                have p101 : 0 ≤ (x5_1 : Int) := of_decide_eq_true (by first | (with_reducible assumption) | assumption)
                have q101 : x5_1 < (l0.length : Int) := of_decide_eq_true (by first | (with_reducible assumption) | assumption)
                obtain ⟨ad101, e101, hx101_0⟩ := Kd.at_int HR0.out x5_1 p101 q101
                cases e101
                replace p101 := eq_true p101
                replace q101 := eq_true q101
                have p102 : 0 ≤ (x5_1 : Int) := of_decide_eq_true (by first | (with_reducible assumption) | assumption)
                have q102 : x5_1 < (l1.length : Int) := of_decide_eq_true (by first | (with_reducible assumption) | assumption)
                obtain ⟨ad102, e102, hx102_0⟩ := Kd.at_int HR1.out x5_1 p102 q102
                cases e102
                replace p102 := eq_true p102
                replace q102 := eq_true q102
                go_wp2
                repeat (go_quiet (fail); try go_wp2)
                go_roundg k1
                case measure => have := HK1.out; omega
                case rel => exact ⟨(wrap64 (x5_1 + 1)), (by first | rfl | (simp; done) | (simp [*]; done)), H', ⟨by have := HK1.out; omega⟩, by repeat (first | exact Drawn0.refl _ | apply Drawn0.step)⟩
              · rw [if_neg c7] at H
                have c7b0 : ((rd l0 x5_1) == (rd l1 x5_1)) = false := beq_eq_false_iff_ne.mpr c7
                have c7b1 : ((rd l0 x5_1) != (rd l1 x5_1)) = true := bne_iff_ne.mpr c7
                obtain rfl := Option.some.inj H
                have p101 : 0 ≤ (x5_1 : Int) := of_decide_eq_true (by first | (with_reducible assumption) | assumption)
                have q101 : x5_1 < (l0.length : Int) := of_decide_eq_true (by first | (with_reducible assumption) | assumption)
                obtain ⟨ad101, e101, hx101_0⟩ := Kd.at_int HR0.out x5_1 p101 q101
                cases e101
                replace p101 := eq_true p101
                replace q101 := eq_true q101
                have p102 : 0 ≤ (x5_1 : Int) := of_decide_eq_true (by first | (with_reducible assumption) | assumption)
                have q102 : x5_1 < (l1.length : Int) := of_decide_eq_true (by first | (with_reducible assumption) | assumption)
                obtain ⟨ad102, e102, hx102_0⟩ := Kd.at_int HR1.out x5_1 p102 q102
                cases e102
                replace p102 := eq_true p102
                replace q102 := eq_true q102
                go_wp2
                repeat (go_quiet (fail); try go_wp2)
                go_ret
                exact ⟨by first | rfl | (simp; done) | (simp [*]; done), by repeat (first | exact Drawn0.refl _ | apply Drawn0.step)⟩
            · rw [if_neg c6] at H
              exact absurd H (by simp)
          · rw [if_neg c5] at H
            exact absurd H (by simp)
        · rw [if_neg c4] at H
          have c4b0 : decide (x5_1 < (l0.length : Int)) = false := decide_eq_false c4
          clear c4
          obtain rfl := Option.some.inj H
          go_wp2
          repeat (go_quiet (fail); try go_wp2)
          go_ret
          exact ⟨by first | rfl | (simp; done) | (simp [*]; done), by repeat (first | exact Drawn0.refl _ | apply Drawn0.step)⟩
  · rw [if_neg c3] at H
    have c3b0 : ((l0.length : Int) == (l1.length : Int)) = false := beq_eq_false_iff_ne.mpr c3
    have c3b1 : ((l0.length : Int) != (l1.length : Int)) = true := bne_iff_ne.mpr c3
    have c3b2 : (l0.length == l1.length) = false := by first | simpa using c3 | (simp at c3 ⊢; omega)
    obtain rfl := Option.some.inj H
    go_enter Tryd.func25, Tryd.ntmps25
    go_wp2
    repeat (go_quiet (fail); try go_wp2)
    go_ret
    exact ⟨by first | rfl | (simp; done) | (simp [*]; done), by repeat (first | exact Drawn0.refl _ | apply Drawn0.step)⟩

def marks_rows_ends.f (a0_0 : Int) (a0_1 : Int) (a0_2 : Int) (a0_3 : Int) : Option (Bool) := some ((a0_3 / 9223372036854775808) == 1)
set_option maxHeartbeats 8000000 in
set_option maxRecDepth 100000 in
theorem marks_rows_ends.calls (a0_0 : Int) (a0_1 : Int) (a0_2 : Int) (a0_3 : Int) (r : Bool) (w : World) (h : marks_rows_ends.f a0_0 a0_1 a0_2 a0_3 = some r) :
    Calls Tryd.prog 59 #[.agg #[.int .u64 a0_0, .int .u64 a0_1, .int .u64 a0_2, .int .u64 a0_3]] w fun e w' => e = .returned (.bool r) ∧ Below w.heap.size w w' := by
  have hu77 := Tryd.underlying77
  have HB := Aside0.mk (Below.refl w.heap.size w)
  have H : (some ((a0_3 / 9223372036854775808) == 1)) = some r := h
  clear h
  obtain rfl := Option.some.inj H
  go_enter Tryd.func59, Tryd.ntmps59
  go_wp2_with (first | ((with_reducible refine gate_dst (N := 1) rfl ?_); refine box_event ?hg (N := 1) ?hd (cs := #[.int .u64 a0_0, .int .u64 a0_1, .int .u64 a0_2, .int .u64 a0_3]) (t := 77) ?hr ?_; (case hd => rfl); (case hg => rfl); (case hr => first | (go_simp; done) | (go_simp; rfl)); intro gb103 hg w2 hbox hb; have n0_ := Aside0.mk (below_step (by repeat (first | (with_reducible first | exact HB.out | apply below_alloc | apply pw_below_drewN | apply below_drew1) | exact HB.out)) hb); have n1_ := Aside0.mk (hbox); have n2_ := Aside0.mk ((by rw [hg]; exact (below_size (by repeat (first | (with_reducible first | exact HB.out | apply below_alloc | apply pw_below_drewN | apply below_drew1) | exact HB.out))) : w.heap.size ≤ gb103)); have n3_ := Aside0.mk ((by rw [hg]; exact (below_size (by repeat (first | (with_reducible first | exact HB.out | apply below_alloc | apply pw_below_drewN | apply below_drew1) | exact HB.out))) : w.heap.size ≤ gb103)); clear HB; have HB := n0_; have BK103 := n1_; have GW103 := n2_; have GE103 := n3_; clear n0_ n1_ n2_ n3_; clear hb hbox hg; have hcz3_0 : w2.cell? ⟨gb103, 0, none⟩ = some (.int .u64 a0_0) := (blk_cell BK103.out 0).trans rfl; have hcz3_1 : w2.cell? ⟨gb103, 1, none⟩ = some (.int .u64 a0_1) := (blk_cell BK103.out 1).trans rfl; have hcz3_2 : w2.cell? ⟨gb103, 2, none⟩ = some (.int .u64 a0_2) := (blk_cell BK103.out 2).trans rfl; have hcz3_3 : w2.cell? ⟨gb103, 3, none⟩ = some (.int .u64 a0_3) := (blk_cell BK103.out 3).trans rfl; have hfz3_0 := blk_frozen BK103.out 0; have hfz3_1 := blk_frozen BK103.out 1; have hfz3_2 := blk_frozen BK103.out 2; have hfz3_3 := blk_frozen BK103.out 3))
  go_ret
  exact ⟨by first | rfl | (simp [errW_none, errW_some] <;> rfl) | (simp [*, errW_none, errW_some] <;> rfl), by repeat (first | (with_reducible first | exact HB.out | apply below_alloc | apply pw_below_drewN | apply below_drew1 | refine below_set ?_ GE103.out) | exact HB.out)⟩

def marks_rows_starts.f (a0_0 : Int) (a0_1 : Int) (a0_2 : Int) (a0_3 : Int) (a1 : Bool) : Option (Int) := if a1 = true then (some (Go.bits .andNot .u64 a0_3 (Go.bits .or .u64 (IntKind.u64.wrap (a0_3 * 2)) 1))) else (some (Go.bits .andNot .u64 a0_3 (IntKind.u64.wrap (a0_3 * 2))))
set_option maxHeartbeats 8000000 in
set_option maxRecDepth 100000 in
theorem marks_rows_starts.calls (a0_0 : Int) (a0_1 : Int) (a0_2 : Int) (a0_3 : Int) (a1 : Bool) (r : Int) (w : World) (h : marks_rows_starts.f a0_0 a0_1 a0_2 a0_3 a1 = some r) :
    Calls Tryd.prog 60 #[.agg #[.int .u64 a0_0, .int .u64 a0_1, .int .u64 a0_2, .int .u64 a0_3], .bool a1] w fun e w' => e = .returned (.int .u64 r) ∧ Below w.heap.size w w' := by
  have hu77 := Tryd.underlying77
  have HB := Aside0.mk (Below.refl w.heap.size w)
  have H : (if a1 = true then (some (Go.bits .andNot .u64 a0_3 (Go.bits .or .u64 (IntKind.u64.wrap (a0_3 * 2)) 1))) else (some (Go.bits .andNot .u64 a0_3 (IntKind.u64.wrap (a0_3 * 2))))) = some r := h
  clear h
  by_cases c3 : a1 = true
  · subst c3
    have H1 : (some (Go.bits .andNot .u64 a0_3 (Go.bits .or .u64 (IntKind.u64.wrap (a0_3 * 2)) 1))) = some r := by rw [if_pos rfl] at H; exact H
    clear H
    have H := H1
    clear H1
    obtain rfl := Option.some.inj H
    go_enter Tryd.func60, Tryd.ntmps60
    go_wp2_with (first | ((with_reducible refine gate_dst (N := 2) rfl ?_); refine box_event ?hg (N := 2) ?hd (cs := #[.int .u64 a0_0, .int .u64 a0_1, .int .u64 a0_2, .int .u64 a0_3]) (t := 77) ?hr ?_; (case hd => rfl); (case hg => rfl); (case hr => first | (go_simp; done) | (go_simp; rfl)); intro gb104 hg w4 hbox hb; have n0_ := Aside0.mk (below_step (by repeat (first | (with_reducible first | exact HB.out | apply below_alloc | apply pw_below_drewN | apply below_drew1) | exact HB.out)) hb); have n1_ := Aside0.mk (hbox); have n2_ := Aside0.mk ((by rw [hg]; exact (below_size (by repeat (first | (with_reducible first | exact HB.out | apply below_alloc | apply pw_below_drewN | apply below_drew1) | exact HB.out))) : w.heap.size ≤ gb104)); have n3_ := Aside0.mk ((by rw [hg]; exact (below_size (by repeat (first | (with_reducible first | exact HB.out | apply below_alloc | apply pw_below_drewN | apply below_drew1) | exact HB.out))) : w.heap.size ≤ gb104)); clear HB; have HB := n0_; have BK104 := n1_; have GW104 := n2_; have GE104 := n3_; clear n0_ n1_ n2_ n3_; clear hb hbox hg; have hcz5_0 : w4.cell? ⟨gb104, 0, none⟩ = some (.int .u64 a0_0) := (blk_cell BK104.out 0).trans rfl; have hcz5_1 : w4.cell? ⟨gb104, 1, none⟩ = some (.int .u64 a0_1) := (blk_cell BK104.out 1).trans rfl; have hcz5_2 : w4.cell? ⟨gb104, 2, none⟩ = some (.int .u64 a0_2) := (blk_cell BK104.out 2).trans rfl; have hcz5_3 : w4.cell? ⟨gb104, 3, none⟩ = some (.int .u64 a0_3) := (blk_cell BK104.out 3).trans rfl; have hfz5_0 := blk_frozen BK104.out 0; have hfz5_1 := blk_frozen BK104.out 1; have hfz5_2 := blk_frozen BK104.out 2; have hfz5_3 := blk_frozen BK104.out 3))
    go_ret
    exact ⟨by first | rfl | (simp [errW_none, errW_some] <;> rfl) | (simp [*, errW_none, errW_some] <;> rfl), by repeat (first | (with_reducible first | exact HB.out | apply below_alloc | apply pw_below_drewN | apply below_drew1 | refine below_set ?_ GE104.out) | exact HB.out)⟩
  · replace c3 := Bool.eq_false_iff.mpr c3
    subst c3
    have H1 : (some (Go.bits .andNot .u64 a0_3 (IntKind.u64.wrap (a0_3 * 2)))) = some r := by rw [if_neg (show ¬ (false = true) by decide)] at H; exact H
    clear H
    have H := H1
    clear H1
    obtain rfl := Option.some.inj H
    go_enter Tryd.func60, Tryd.ntmps60
    go_wp2_with (first | ((with_reducible refine gate_dst (N := 2) rfl ?_); refine box_event ?hg (N := 2) ?hd (cs := #[.int .u64 a0_0, .int .u64 a0_1, .int .u64 a0_2, .int .u64 a0_3]) (t := 77) ?hr ?_; (case hd => rfl); (case hg => rfl); (case hr => first | (go_simp; done) | (go_simp; rfl)); intro gb104 hg w6 hbox hb; have n0_ := Aside0.mk (below_step (by repeat (first | (with_reducible first | exact HB.out | apply below_alloc | apply pw_below_drewN | apply below_drew1) | exact HB.out)) hb); have n1_ := Aside0.mk (hbox); have n2_ := Aside0.mk ((by rw [hg]; exact (below_size (by repeat (first | (with_reducible first | exact HB.out | apply below_alloc | apply pw_below_drewN | apply below_drew1) | exact HB.out))) : w.heap.size ≤ gb104)); have n3_ := Aside0.mk ((by rw [hg]; exact (below_size (by repeat (first | (with_reducible first | exact HB.out | apply below_alloc | apply pw_below_drewN | apply below_drew1) | exact HB.out))) : w.heap.size ≤ gb104)); clear HB; have HB := n0_; have BK104 := n1_; have GW104 := n2_; have GE104 := n3_; clear n0_ n1_ n2_ n3_; clear hb hbox hg; have hcz7_0 : w6.cell? ⟨gb104, 0, none⟩ = some (.int .u64 a0_0) := (blk_cell BK104.out 0).trans rfl; have hcz7_1 : w6.cell? ⟨gb104, 1, none⟩ = some (.int .u64 a0_1) := (blk_cell BK104.out 1).trans rfl; have hcz7_2 : w6.cell? ⟨gb104, 2, none⟩ = some (.int .u64 a0_2) := (blk_cell BK104.out 2).trans rfl; have hcz7_3 : w6.cell? ⟨gb104, 3, none⟩ = some (.int .u64 a0_3) := (blk_cell BK104.out 3).trans rfl; have hfz7_0 := blk_frozen BK104.out 0; have hfz7_1 := blk_frozen BK104.out 1; have hfz7_2 := blk_frozen BK104.out 2; have hfz7_3 := blk_frozen BK104.out 3))
    go_ret
    exact ⟨by first | rfl | (simp [errW_none, errW_some] <;> rfl) | (simp [*, errW_none, errW_some] <;> rfl), by repeat (first | (with_reducible first | exact HB.out | apply below_alloc | apply pw_below_drewN | apply below_drew1 | refine below_set ?_ GE104.out) | exact HB.out)⟩

section
open Go.Proofs.YtgddljealeklkaaDoorQ Go.Proofs.YtgddljealeklkaaDoorM Go.Shelf
attribute [local go_sem] Oper.semAt_some
theorem tz_up (q : Nat → Bool) (i k : Nat) (h : upW q i ≠ 0#64) (hk : k = Lib.ctz 64 (upW q i).toNat) (w : World) (hT : TabOk w) :
    Calls Tryd.prog 87 #[.int .u64 (iv (upW q i))] w fun e w' => e = .returned (.int .i64 (k : Int)) ∧ w = w' := by
  have h0 : (upW q i).toNat ≠ 0 := fun e => h (BitVec.eq_of_toNat_eq (by rw [e]; rfl))
  subst hk
  exact (bits_TrailingZeros64.calls (upW q i).toNat (upW q i).isLt h0 w hT.out).mono fun e w' hw => ⟨hw.1, hw.2.symm⟩
set_option maxHeartbeats 4000000 in
set_option maxRecDepth 100000 in
theorem words_Each_1.walk (F : Fence) (HF : Aside0 (F = Fence.wide)) (n : Nat) (hn : 3 ≤ n) (l g1 : Nat) (q : Nat → Bool) (J Jx : List (SetP 64 q) → World → Prop) (W0 : World)
    (hY : ∀ pre (x : SetP 64 q) W, J pre W → pre ++ [x] <+: setP 64 q 64 → YieldAt F (n - 1) Tryd.prog l #[.int .i64 (x.val : Int)] W fun e W' =>
      (e = .returned (.bool true) ∧ J (pre ++ [x]) W' ∧ Keep2 0 0 W W') ∨ (e = .returned (.bool false) ∧ Jx (pre ++ [x]) W'))
    (B1 : Blk W0 g1 #[.int .u64 (iv (word q))] 75) (hT : TabOk W0) (h0 : J [] W0) :
    CallsIn F n Tryd.prog 99 #[.func (.yield l) #[] #[], .pointer (some ⟨g1, 0, none⟩)] W0 fun e W' => (∃ v, e = .returned v) ∧
      ((∃ ys, ys = setP 64 q 64 ∧ J ys W') ∨ (∃ pre, pre <+: setP 64 q 64 ∧ Jx pre W')) := by
  have HY := Aside0.mk hY
  have HJ0 := Aside0.mk h0
  have HT := Aside0.mk hT
  clear hY h0 hT
  have f0 := wide_fn HF 87
  have n1 : 1 ≤ n := by omega
  have n2 : 1 ≤ n - 1 := by omega
  have hro := wide_round HF
  have c1 := B1.cell (i := 0) rfl
  refine callsIn_of_wp Tryd.func99 rfl (wide_fn HF _) ?_ (wide_round HF)
  simp only [Tryd.ntmps99, List.size_toArray, List.length_cons, List.length_nil, Nat.reduceAdd, Nat.reduceSub, Array.replicate_succ, Array.replicate_zero, List.push_toArray, List.append_toArray, List.nil_append, List.cons_append]
  gi_wp2
  gi_loopw [3] (fun v wr => ∃ i : Nat, v = .int .u64 (iv (upW q i)) ∧ Aside0 (i ≤ 64) ∧ Aside0 (J (setP 64 q i) wr) ∧ Aside0 (TabOk wr)) (fun v _ => (intOf v).toNat)
  case atStart => exact ⟨0, by rw [upW_zero], ⟨Nat.zero_le _⟩, HJ0, HT⟩
  case round =>
    clear B1 HJ0 HT c1
    obtain ⟨i, rfl, HI, HJi, HT⟩ := hrel
    by_cases hz : upW q i = 0#64
    · have hz0 : (iv (upW q i) != 0) = false := by rw [hz]; rfl
      have HZ := Aside0.mk hz
      clear hz
      gi_wp2
      go_end0
      have h := HJi.out
      rw [← up_end q i HI.out HZ.out] at h
      exact ⟨⟨_, rfl⟩, .inl ⟨_, rfl, h⟩⟩
    · have hz0 : (iv (upW q i) != 0) = true := by
        rw [bne_iff_ne]
        intro e
        exact hz (iv_inj.1 (e.trans (by decide)))
      obtain ⟨k, hk, h1, h2, h3, h4⟩ := up_set q i hz
      have LESS := Aside0.mk (up_less hz)
      have TZ : Aside0 (∀ w, TabOk w → Calls Tryd.prog 87 #[.int .u64 (iv (upW q i))] w fun e w' => e = .returned (.int .i64 (k : Int)) ∧ w = w') := ⟨fun w hw => tz_up q i k hz h1 w hw⟩
      have NEXT : Aside0 (bits .and .u64 (iv (upW q i)) (IntKind.u64.wrap (iv (upW q i) - 1)) = iv (upW q (k + 1))) := ⟨by
        rw [show (1 : Int) = iv 1#64 from by decide, wrap_sub, bits_and, h4]⟩
      have HK := Aside0.mk hk
      have HS : Aside0 (setP 64 q (k + 1) = setP 64 q i ++ [⟨k, HK.out⟩]) := ⟨h3⟩
      rw [h4] at LESS
      have HL : setP 64 q i ++ [⟨k, HK.out⟩] <+: setP 64 q 64 := by
        rw [← HS.out]
        exact setP_le (by have := HK.out.1; omega)
      obtain ⟨fn, tmps, assign, body, hy, hR⟩ := HY.out (setP 64 q i) ⟨k, HK.out⟩ wr HJi.out HL
      have HR := Aside0.mk hR
      dsimp only at hy
      clear hR h1 h2 h3 h4 hz hk HL
      gi_wp2_with (first
        | (gi_at_call 87; refine (callsIn_of HF (TZ.out _ HT.out)).mono ?_; rintro e w3 ⟨rfl, rfl⟩))
      refine HR.out.mono ?_
      rintro e W6 (⟨rfl, hJ6, hk6⟩ | ⟨rfl, hJx6⟩)
      · have HT6 := Aside0.mk (HT.out.keep hk6)
        have HJ6 := Aside0.mk (show J (setP 64 q (k + 1)) W6 by rw [HS.out]; exact hJ6)
        clear hJ6 hk6
        gi_wp2
        go_roundw
        case rel => exact ⟨k + 1, by rw [NEXT.out], ⟨by have := HK.out.1; omega⟩, HJ6, HT6⟩
        case measure =>
          have := LESS.out
          simp only [intOf]
          rw [NEXT.out]
          unfold iv
          omega
      · have HJ6 := Aside0.mk hJx6
        clear hJx6
        gi_wp2
        refine bodyPost_ret (results_none rfl _ _ _) rfl ?_
        refine ⟨⟨_, rfl⟩, .inr ⟨_, ?_, HJ6.out⟩⟩
        rw [← HS.out]
        exact setP_le (by have := HK.out.1; omega)
theorem set64_lt {q : Nat → Bool} {pre : List (SetP 64 q)} {x : SetP 64 q} (h : pre ++ [x] <+: setP 64 q 64) : pre.length < 64 := by
  have h1 := h.length_le
  have h2 := setP_length (n := 64) (q := q) 64
  rw [List.length_append, List.length_singleton] at h1
  omega
/-- What Each hands back tells the set places, rising. -/
theorem words_Each_1.stops (F : Fence) (HF : Aside0 (F = Fence.wide)) (n : Nat) (hn : 3 ≤ n) (g1 : Nat) (q : Nat → Bool) (w : World)
    (B1 : Blk w g1 #[.int .u64 (iv (word q))] 75) (hT : TabOk w) :
    SeqStopsK F n Tryd.prog 99 #[.pointer (some ⟨g1, 0, none⟩)] (fun x : SetP 64 q => #[.int .i64 (x.val : Int)]) (Keep2 0 0) (fun ys => ys = setP 64 q 64) (fun pre => pre <+: setP 64 q 64) 64 w := by
  intro l J Jx W hW _ _ hY h0
  exact words_Each_1.walk F HF n hn l g1 q J Jx W (fun pre x A hA hp => hY pre x A hA (set64_lt hp)) (B1.below hW) (hT.step hW) h0
/-- The same in the wider form. -/
theorem words_Each_1.stopsO (F : Fence) (HF : Aside0 (F = Fence.wide)) (n : Nat) (hn : 3 ≤ n) (g1 : Nat) (q : Nat → Bool) (w : World)
    (B1 : Blk w g1 #[.int .u64 (iv (word q))] 75) (hT : TabOk w) :
    SeqO F n Tryd.prog 99 #[.pointer (some ⟨g1, 0, none⟩)] (fun x : SetP 64 q => #[.int .i64 (x.val : Int)]) (Keep2 0 0) (fun ys => ys = setP 64 q 64) (fun pre => pre <+: setP 64 q 64) w := by
  intro l J Jx W hW _ _ _ _ hY h0
  refine (words_Each_1.walk F HF n hn l g1 q (J []) Jx W (fun pre x A hA hp => (hY [] pre x A (fun k hk => (List.not_mem_nil hk).elim) hA hp).mono fun e A' h => h.2.2) (B1.below hW) (hT.step hW) h0).mono ?_
  rintro e W' ⟨hv, (⟨ys, h1, h2⟩ | h)⟩
  · exact ⟨hv, .inl ⟨ys, [], h1, fun k hk => (List.not_mem_nil hk).elim, h2⟩⟩
  · exact ⟨hv, .inr h⟩
end


open Go.Proofs.YtgddljealeklkaaDoorQ Go.Proofs.YtgddljealeklkaaDoorM in
set_option maxHeartbeats 4000000 in
set_option maxRecDepth 100000 in
theorem words_Each.calls (x : Int) (w : World) :
    Calls Tryd.prog 62 #[.int .u64 x] w fun e w' => ∃ g1 : Nat, e = .returned (.func (.func 99) #[] #[.pointer (some ⟨g1, 0, none⟩)]) ∧
      w.heap.size ≤ g1 ∧ Blk w' g1 #[.int .u64 x] 75 ∧ BelowH w w' := by
  have HB := BelowH.refl w
  go_enter Tryd.func62, Tryd.ntmps62
  go_wp2_with (first | ((with_reducible refine gate_dst (N := 1) rfl ?_); refine ev_alloc HB rfl (#[.int .u64 x]) 75 ?hr ?_; (case hr => first | (go_simp; done) | (go_simp; rfl)); intro g1 w1 G_g1 GE_g1 B_g1 HBn K_g1; clear HB; have HB := HBn; clear HBn))
  go_ret
  exact ⟨g1, rfl, GE_g1.out, B_g1, HB⟩


section
open Go.Proofs.YtgddljealeklkaaDoorQ Go.Proofs.YtgddljealeklkaaDoorM Go.Shelf
attribute [local go_sem] Oper.semAt_some
/-- Where words begin in a block, as starts tells it. -/
theorem starts_word (s : ByteArray) (k : Nat) (x y z : Int) : marks_rows_starts.f x y z (iv (wordAt s.size (wdq s) k)) (carq s k) = some (iv (word (stW s k))) := by
  have e1 : IntKind.u64.wrap (iv (wordAt s.size (wdq s) k) * 2) = iv (wordAt s.size (wdq s) k <<< 1) := wrap_shl _ 1
  have e2 : (1 : Int) = iv 1#64 := rfl
  have h := st_word s k
  unfold marks_rows_starts.f
  cases hc : carq s k with
  | true =>
    rw [hc, if_pos rfl] at h
    rw [if_pos rfl, e1, e2, bits_or, bits_andNot, h]
  | false =>
    rw [hc, if_neg (by decide)] at h
    rw [if_neg (by decide), e1, bits_andNot, ← h]
    simp
theorem ends_word (s : ByteArray) (k : Nat) (a b c : Int) : marks_rows_ends.f a b c (iv (wordAt s.size (wdq s) k)) = some (decide (64 * k + 63 < s.size) && wdq s (64 * k + 63)) := by
  unfold marks_rows_ends.f wordAt
  rw [top_word]
  cases (decide (64 * k + 63 < s.size) && wdq s (64 * k + 63)) <;> rfl
/-- Between two places of one block. -/
structure IdxI (w : World) (g3 g5 g6 gr m : Nat) (r : List Value) (cur : Array Value) (k : Nat) (L0 : List Int) {q : Nat → Bool} (Ds : List Nat) (pre : List (SetP 64 q)) (W : World) : Prop where mk ::
  out : ∃ v, Blk W g3 #[v] 36 ∧ W.ownsRow w.heap.size 3 1 v (L0.length + pre.length) ((L0 ++ pre.map fun x => (64 * (k : Int) + ((x.val : Nat) : Int))).map (Value.int .i64)) ∧ v.ownBlock ≠ some g5
  b5 : Blk W g5 #[.int .i64 (k : Int)] 3
  b6 : Blk W g6 r.toArray 77
  br : Blk W gr cur 77
  ht : TabOk W
  mk_ : Marks w.heap.size Ds W
  hb : BelowH w W
  sz : m ≤ W.heap.size
theorem IdxI.kept {w : World} {g3 g5 g6 gr m : Nat} {r : List Value} {cur : Array Value} {k : Nat} {L0 : List Int} {q : Nat → Bool} {Ds : List Nat} {pre : List (SetP 64 q)} {W W' : World} (h : IdxI w g3 g5 g6 gr m r cur k L0 Ds pre W) (hm : w.heap.size ≤ m) (hD : ∀ D ∈ Ds, D < m) {row : Option Nat} (hg : W.grownBy W' row) (hr : ∀ r, row = some r → m ≤ r ∧ ∃ o : Obj, W.heap[r]? = some o ∧ o.isCells = false) : IdxI w g3 g5 g6 gr m r cur k L0 Ds pre W' := by
  have hr' : ∀ r, row = some r → ∃ o : Obj, W.heap[r]? = some o ∧ o.isCells = false := fun r e => (hr r e).2
  obtain ⟨v, b, ho, hn⟩ := h.out
  exact ⟨⟨v, b.kept hg hr', row_kept ho hg hr', hn⟩, h.b5.kept hg hr', h.b6.kept hg hr', h.br.kept hg hr', h.ht.kept hg hr', h.mk_.grown hg hD (fun r e => (hr r e).1), h.hb.kept hg hm (fun r e => (hr r e).1), Nat.le_trans h.sz hg.size⟩
theorem IdxI.below {w : World} {g3 g5 g6 gr m m' : Nat} {r : List Value} {cur : Array Value} {k : Nat} {L0 : List Int} {q : Nat → Bool} {Ds : List Nat} {pre : List (SetP 64 q)} {W W' : World} (h : IdxI w g3 g5 g6 gr m r cur k L0 Ds pre W) (hb : Below W.heap.size W W') (hm : m' ≤ W'.heap.size) : IdxI w g3 g5 g6 gr m' r cur k L0 Ds pre W' := by
  obtain ⟨v, b, ho, hn⟩ := h.out
  exact ⟨⟨v, b.below hb, row_below ho hb, hn⟩, h.b5.below hb, h.b6.below hb, h.br.below hb, h.ht.step hb, h.mk_.below hb, h.hb.step hb, hm⟩
theorem rows_get (s : ByteArray) (k j : Nat) (hj : j < 4) : ∀ n, k < n → ((List.range n).flatMap (rowN s))[k * 4 + j]? = (rowN s k)[j]?
  | 0, h => by omega
  | n + 1, h => by
    have hl : ∀ m, ((List.range m).flatMap (rowN s)).length = 4 * m := fun m => by
      induction m with
      | zero => rfl
      | succ m ih =>
        rw [List.range_succ, List.flatMap_append, List.length_append, ih]
        simp [rowN]
        omega
    rw [List.range_succ, List.flatMap_append]
    by_cases e : k = n
    · subst e
      rw [List.getElem?_append_right (by rw [hl]; omega), hl, show k * 4 + j - 4 * k = j by omega]
      simp
    · rw [List.getElem?_append_left (by rw [hl]; omega)]
      exact rows_get s k j hj n (by omega)
def marks_Index.f (a0 : ByteArray) : Option (List Int) := if a0.size ≤ 1099511627776 then some (idxL a0 a0.size) else none
set_option maxHeartbeats 4000000 in
set_option maxRecDepth 100000 in
theorem marks_Index.walk (s : ByteArray) (w : World) (hT : TabOk w) (hs : s.size ≤ 1099511627776) :
    Calls Tryd.prog 26 #[.string s] w fun e w' => ∃ v : Value, e = .returned v ∧ w'.ownsRow w.heap.size 3 1 v (idxL s s.size).length ((idxL s s.size).map (Value.int .i64)) ∧ Below w.heap.size w w' := by
  obtain ⟨F, hF⟩ : ∃ F, F = Fence.wide := ⟨_, rfl⟩
  have HF := Aside0.mk hF
  refine (callsIn_wide (n := 9)).1 ?_
  rw [← hF]
  clear hF
  have hro := wide_round HF
  have HB := BelowH.refl w
  have f1 := wide_fn HF 50
  have f2 := wide_fn HF 62
  have f3 := wide_fn HF 99
  have f4 := wide_fn HF 60
  have f5 := wide_fn HF 59
  have HS := Aside0.mk hs
  have HT := Aside0.mk hT
  have PW := Aside0.mk hT.pos
  obtain ⟨nw, hnw⟩ : ∃ nw, nw = nwords s.size := ⟨_, rfl⟩
  have HNW := Aside0.mk hnw
  have hnw1 : (nw : Int) ≤ 17179869184 := by rw [hnw]; unfold nwords; omega
  clear hs hnw hT
  refine callsIn_of_wp_marks Tryd.func26 rfl (wide_fn HF _) ?_ hro
  simp only [Tryd.ntmps26, List.size_toArray, List.length_cons, List.length_nil, Nat.reduceAdd, Nat.reduceSub, Array.replicate_succ, Array.replicate_zero, List.push_toArray, List.append_toArray, List.nil_append, List.cons_append]
  gi_upto_region 3 with (first
    | ((with_reducible refine gate_dstIn (N := 3) rfl ?_); refine ev_allocIn HB rfl rfl (#[.slice none 0 0]) 36 ?hr ?_; (case hr => first | (go_simp; done) | (go_simp; rfl)); intro g3 w3 G_g3 GE_g3 B_g3 HBn K_g3 KO_w3; clear HB; have HB := HBn; clear HBn))
  have hlk := marks_look.walk s w3 (by have := HS.out; omega)
  rw [← HNW.out] at hlk
  have LK := Aside0.mk hlk
  clear hlk
  gi_wp2_with (first
    | (gi_at_call 50; refine (callsIn_of HF LK.out).mono ?_; rintro e w4 ⟨v, rfl, hrow, hb4⟩; have HR4 := Aside0.mk hrow; have HB4 := HB.step hb4; have HK4 := Aside0.mk hb4; obtain ⟨ad, cp, rfl⟩ := own_slice hrow; clear hrow hb4))
  have hb := HB4
  have D3 := B_g3.below HK4.out
  have HT4 := Aside0.mk (HT.out.stepH HB4)
  have HO : Aside0 ((ad = none ∧ nw = 0) ∨ ∃ gr cur, ad = some ⟨gr, 0, none⟩ ∧ Blk w4 gr cur 77 ∧ ∀ k j, k < nw → j < 4 → cur[k * 4 + j]? = (rowN s k)[j]?) := ⟨by
    rcases row_openN HR4.out with ⟨h1, h2⟩ | ⟨gr, cap, cur, h1, h2, h3, h4⟩
    · injection h1 with h1
      exact .inl ⟨h1, h2⟩
    · injection h1 with h1
      refine .inr ⟨gr, cur, h1, h3, fun k j hk hj => ?_⟩
      have hg := rows_get s k j hj nw hk
      cases hx : (rowN s k)[j]? with
      | none => rw [List.getElem?_eq_none_iff] at hx; simp [rowN] at hx; omega
      | some u => rw [hx] at hg; exact h4 _ _ hg⟩
  obtain ⟨gr, cur, HO⟩ : ∃ gr cur, Aside0 ((ad = none ∧ nw = 0) ∨ (ad = some ⟨gr, 0, none⟩ ∧ Blk w4 gr cur 77 ∧ ∀ k j, k < nw → j < 4 → cur[k * 4 + j]? = (rowN s k)[j]?)) := by
    rcases HO.out with h | ⟨gr, cur, h⟩
    · exact ⟨0, #[], ⟨.inl h⟩⟩
    · exact ⟨gr, cur, ⟨.inr h⟩⟩
  have HGET : Aside0 (nw ≠ 0 → ad = some ⟨gr, 0, none⟩ ∧ ∀ k j, k < nw → j < 4 → cur[k * 4 + j]? = (rowN s k)[j]?) := ⟨fun h0 => by
    rcases HO.out with ⟨_, h⟩ | ⟨h1, _, h3⟩
    · exact absurd h h0
    · exact ⟨h1, h3⟩⟩
  have HBR : Aside0 (nw ≠ 0 → Blk w4 gr cur 77) := ⟨fun h0 => by
    rcases HO.out with ⟨_, h⟩ | ⟨_, h2, _⟩
    · exact absurd h h0
    · exact h2⟩
  clear HO hb LK HT B_g3 K_g3 KO_w3 HK4 HR4 HB G_g3
  refine wpIn_loopM (fun m a W => ∃ (k : Nat) (Ds : List Nat) (z11 : Int) (c4 : Bool) (u5 u6 u7 u12 u13 u14 u15 u16 u17 u18 u19 u20 u21 u22 u23 u24 u25 u26 u27 u28 u29 u30 u31 u32 u33 u34 u35 u36 u37 : Value), m = nw - k ∧ z11 = (k : Int) ∧ k ≤ nw ∧ a = { tmps := #[.string s, undef, .slice none 0 0, .pointer (some ⟨g3, 0, none⟩), .bool c4, u5, u6, u7, .string s, .slice ad nw cp, .int .i64 (nw : Int), .int .i64 z11, u12, u13, u14, u15, u16, u17, u18, u19, u20, u21, u22, u23, u24, u25, u26, u27, u28, u29, u30, u31, u32, u33, u34, u35, u36, u37], defers := marksD Ds } ∧
    Aside0 (k < nw → c4 = carq s k) ∧ Aside0 (∃ v, Blk W g3 #[v] 36 ∧ W.ownsRow w.heap.size 3 1 v (idxL s (64 * k)).length ((idxL s (64 * k)).map (Value.int .i64))) ∧ Aside0 (nw ≠ 0 → Blk W gr cur 77) ∧ Aside0 (TabOk W) ∧ Aside0 (Marks w.heap.size Ds W) ∧ BelowH w W) nw
    ⟨0, [], 0, false, _, _, _, _, _, _, _, _, _, _, _, _, _, _, _, _, _, _, _, _, _, _, _, _, _, _, _, _, _, rfl, rfl, Nat.zero_le _, rfl, ⟨fun _ => rfl⟩, ⟨_, D3, World.ownsRow_nil _ _ _ _⟩, HBR, HT4, ⟨Marks.nil⟩, HB4⟩ ?_
  rintro m a W ⟨k, Ds, z11, c4, u5, u6, u7, u12, u13, u14, u15, u16, u17, u18, u19, u20, u21, u22, u23, u24, u25, u26, u27, u28, u29, u30, u31, u32, u33, u34, u35, u36, u37, rfl, hz11, hk, rfl, HC, HOUT, HBR, HT, HM, HB⟩ K hK
  have HKK := Aside0.mk hK
  clear hK HT4 D3 HB4
  obtain ⟨v, b3, hrow⟩ := HOUT.out
  have c3 := b3.cell (i := 0) rfl
  by_cases hlt : k < nw
  · have HLT := Aside0.mk hlt
    obtain ⟨rfl, hcur⟩ := HGET.out (by omega)
    have BR := HBR.out (by omega)
    obtain ⟨A, hA⟩ : ∃ A, A = iv (wordAt s.size (sgq s) k) := ⟨_, rfl⟩
    obtain ⟨B, hB⟩ : ∃ B, B = iv (wordAt s.size (blq s) k) := ⟨_, rfl⟩
    obtain ⟨C, hC⟩ : ∃ C, C = iv (wordAt s.size (opq s) k) := ⟨_, rfl⟩
    obtain ⟨D, hD⟩ : ∃ D, D = iv (wordAt s.size (wdq s) k) := ⟨_, rfl⟩
    have hrN : rowN s k = [.int .u64 A, .int .u64 B, .int .u64 C, .int .u64 D] := by rw [hA, hB, hC, hD]; rfl
    have hcur' := fun j hj => hcur k j hlt hj
    rw [hrN] at hcur'
    replace hcur := hcur'
    clear hcur'
    have cr0 : W.cell? ⟨gr, k * 4, none⟩ = some (.int .u64 A) := BR.cell (hcur 0 (by decide))
    have cr1 : W.cell? ⟨gr, k * 4 + 1, none⟩ = some (.int .u64 B) := BR.cell (hcur 1 (by decide))
    have cr2 : W.cell? ⟨gr, k * 4 + 2, none⟩ = some (.int .u64 C) := BR.cell (hcur 2 (by decide))
    have cr3 : W.cell? ⟨gr, k * 4 + 3, none⟩ = some (.int .u64 D) := BR.cell (hcur 3 (by decide))
    have hq1 : (k : Int) < (nw : Int) := by omega
    have hq2 : (0 : Int) ≤ (k : Int) := by omega
    have hkn : 64 * k < s.size := by have := HNW.out; unfold nwords at this; omega
    have hc4 := HC.out hlt
    obtain ⟨X, hX⟩ : ∃ X, X = iv (word (stW s k)) := ⟨_, rfl⟩
    have STA : Aside0 (∀ w, Calls Tryd.prog 60 #[.agg #[.int .u64 A, .int .u64 B, .int .u64 C, .int .u64 D], .bool c4] w fun e w' => e = .returned (.int .u64 X) ∧ Below w.heap.size w w') := ⟨fun w => marks_rows_starts.calls A B C D c4 X w (by rw [hD, hc4, hX]; exact starts_word s k A B C)⟩
    have BEG : Aside0 (bits .or .u64 (bits .or .u64 A C) X = iv (word (begB s k))) := ⟨by rw [hA, hC, hX]; exact beg_or s k hkn⟩
    have EN : Aside0 (∀ w, Calls Tryd.prog 59 #[.agg #[.int .u64 A, .int .u64 B, .int .u64 C, .int .u64 D]] w fun e w' => e = .returned (.bool (decide (64 * k + 63 < s.size) && wdq s (64 * k + 63))) ∧ Below w.heap.size w w') := ⟨fun w => marks_rows_ends.calls A B C D _ w (by rw [hD]; exact ends_word s k A B C)⟩
    obtain ⟨E, hE⟩ : ∃ E, E = (decide (64 * k + 63 < s.size) && wdq s (64 * k + 63)) := ⟨_, rfl⟩
    rw [← hE] at EN
    have HE := Aside0.mk hE
    subst hz11
    have HROW := Aside0.mk hrow
    have HV1 := Aside0.mk (row_one hrow)
    clear hA hB hC hD hrN hcur hkn hc4 hX hE hlt hk hrow HOUT HBR HC
    have HB0 := HB
    clear HB
    have HB := BelowH.refl W
    gi_upto_region 6 with (first
      | ((with_reducible refine gate_dstIn (N := 5) rfl ?_); refine ev_allocIn HB rfl rfl (#[.int .i64 0]) 3 ?hr ?_; (case hr => first | (go_simp; done) | (go_simp; rfl)); intro g5 w5 G_g5 GE_g5 B_g5 HBn K_g5 KO_w5; clear HB; have HB := HBn; clear HBn)
      | ((with_reducible refine gate_dstIn (N := 6) rfl ?_); refine ev_allocIn HB rfl rfl (#[.int .u64 0, .int .u64 0, .int .u64 0, .int .u64 0]) 77 ?hr ?_; (case hr => first | (go_simp; done) | (go_simp; rfl)); intro g6 w6 G_g6 GE_g6 B_g6 HBn K_g6 KO_w6; clear HB; have HB := HBn; clear HBn)
      | ((with_reducible refine gate_In (Op.store 3 (.tmp 5) (.tmp 13)) rfl ?_); refine ev_store1In (i := 0) HB (B_g5.below K_g6.out) GE_g5 rfl 3 _ _ rfl rfl (.int .i64 (k : Int)) rfl (by simp) (by kernel_rfl) rfl ?_; intro w7 B7 HBn K_w7 KO_w7; clear HB; have HB := HBn; clear HBn)
      | ((with_reducible refine gate_In (Op.store 77 (.tmp 6) (.tmp 15)) rfl ?_); refine ev_storeIn HB (B_g6.other K_w7 (by have := B_g5.lt; have := G_g6.out; omega)) GE_g6 rfl 77 _ _ rfl rfl rfl (by kernel_rfl) rfl (by simp [Value.oneCell']) ?_; intro w8 B8 HBn K_w8 KO_w8; clear HB; have HB := HBn; clear HBn))
    have N56 : g5 ≠ g6 := by have := B_g5.lt; have := G_g6.out; omega
    have NW5 : ∀ g, g < W.heap.size → g ≠ g5 ∧ g ≠ g6 := fun g h => by have := G_g5.out; have := G_g6.out; have := K_g5.out.size; omega
    have KB := Aside0.mk HB.out
    have B5 := B7.other K_w8 N56
    have hR8 : w8.ownsRow w.heap.size 3 1 v ((idxL s (64 * k)).length + ([] : List (SetP 64 (begB s k))).length) ((idxL s (64 * k) ++ ([] : List (SetP 64 (begB s k))).map fun x => (64 * (k : Int) + ((x.val : Nat) : Int))).map (Value.int .i64)) := by
      rw [List.map_nil, List.append_nil]
      exact row_below HROW.out KB.out
    have I8 : IdxI w g3 g5 g6 gr 0 [.int .u64 A, .int .u64 B, .int .u64 C, .int .u64 D] cur k (idxL s (64 * k)) Ds ([] : List (SetP 64 (begB s k))) w8 :=
      ⟨⟨v, b3.below KB.out, hR8, own_ne_new HROW.out G_g5.out⟩, B5, B8, BR.below KB.out, HT.out.step KB.out, HM.out.below KB.out, HB0.step KB.out, Nat.zero_le _⟩
    have hbd : Aside0 (Below w8.heap.size w8 w8.drew) := ⟨below_drew (Below.refl _ _)⟩
    have I' := I8.below hbd.out (Nat.zero_le _)
    clear I8 hR8 B5 B8 B7 BR HM HB0 HB KB NW5 hbd B_g5 B_g6 K_g5 K_g6 K_w7 K_w8 KO_w5 KO_w6 KO_w7 KO_w8 G_g5 GE_g5 G_g6 GE_g6 HROW HV1 b3 c3 cr0 cr1 cr2 cr3 HT
    refine wpIn_region_last_wide HF (S := fun W' => Blk W' g6 #[.int .u64 A, .int .u64 B, .int .u64 C, .int .u64 D] 77) (ds := []) (by kernel_rfl) I'.b6 (fun hS => ?_)
    refine' wpAnyLast_take (i := 0) (oi := Oper.mk _ _ _ _ _ _) rfl (by kernel_rfl) (by kernel_rfl) (by kernel_rfl) (by kernel_rfl) (by kernel_rfl) (fun _ _ _ h => h) (Or.inl ⟨by rfl, ?hy1⟩) hS ?rest1
    case hy1 => (intro w hSw; (try dsimp only at hSw); first | (go_simp; done) | (go_simp; with_reducible rfl))
    try simp only [Act.put, List.setIfInBounds_toArray, List.set_cons_zero, List.set_cons_succ]
    refine wpAnyLast_take (i := 1) (oi := Oper.mk _ _ _ _ _ _) rfl (by kernel_rfl) (by kernel_rfl) (by kernel_rfl) (by kernel_rfl) (by kernel_rfl) (fun _ _ _ h => h) (rg_load1 (by rfl) (fun _ hS => hS.cell (i := 0) rfl) 75 _ rfl rfl (fun _ => by simp [isAgg, run_underlying Tryd.underlying75])) hS ?_
    try simp only [Act.put, List.setIfInBounds_toArray, List.set_cons_zero, List.set_cons_succ]
    refine' wpAnyLast_take (i := 2) (oi := Oper.mk _ _ _ _ _ _) rfl (by kernel_rfl) (by kernel_rfl) (by kernel_rfl) (by kernel_rfl) (by kernel_rfl) (fun _ _ _ h => h) (Or.inl ⟨by rfl, ?hy2⟩) hS ?rest2
    case hy2 => (intro w hSw; (try dsimp only at hSw); first | (go_simp; done) | (go_simp; with_reducible rfl))
    try simp only [Act.put, List.setIfInBounds_toArray, List.set_cons_zero, List.set_cons_succ]
    refine wpAnyLast_take (i := 3) (oi := Oper.mk _ _ _ _ _ _) rfl (by kernel_rfl) (by kernel_rfl) (by kernel_rfl) (by kernel_rfl) (by kernel_rfl) (fun _ _ _ h => h) (rg_load1 (by rfl) (fun _ hS => hS.cell (i := 2) rfl) 75 _ rfl rfl (fun _ => by simp [isAgg, run_underlying Tryd.underlying75])) hS ?_
    try simp only [Act.put, List.setIfInBounds_toArray, List.set_cons_zero, List.set_cons_succ]
    refine' wpAnyLast_take (i := 4) (oi := Oper.mk _ _ _ _ _ _) rfl (by kernel_rfl) (by kernel_rfl) (by kernel_rfl) (by kernel_rfl) (by kernel_rfl) (fun _ _ _ h => h) (Or.inl ⟨by rfl, ?hy3⟩) hS ?rest3
    case hy3 => (intro w hSw; (try dsimp only at hSw); first | (go_simp; done) | (go_simp; with_reducible rfl))
    try simp only [Act.put, List.setIfInBounds_toArray, List.set_cons_zero, List.set_cons_succ]
    refine wpAnyLast_take (i := 5) (oi := Oper.mk _ _ _ _ _ _) rfl (by kernel_rfl) (by kernel_rfl) (by kernel_rfl) (by kernel_rfl) (by kernel_rfl) (fun _ _ _ h => h) (rg_load (by rfl) (fun _ hS => hS) 77 _ rfl rfl Tryd.underlying77 rfl (by kernel_rfl)) hS ?_
    try simp only [Act.put, List.setIfInBounds_toArray, List.set_cons_zero, List.set_cons_succ]
    refine' wpAnyLast_take (i := 6) (oi := Oper.mk _ _ _ _ _ _) rfl (by kernel_rfl) (by kernel_rfl) (by kernel_rfl) (by kernel_rfl) (by kernel_rfl) (fun _ _ _ h => h) (Or.inl ⟨by rfl, ?hy4⟩) hS ?rest4
    case hy4 => (intro w hSw; (try dsimp only at hSw); first | (go_simp; done) | (go_simp; with_reducible rfl))
    try simp only [Act.put, List.setIfInBounds_toArray, List.set_cons_zero, List.set_cons_succ]
    refine wpAnyLast_ready (rs := [7]) (by kernel_rfl) (by simp) ?_
    refine AllReadyL.cons (o := Oper.mk _ _ _ _ _ _) rfl (by decide) (fun K hK => ?_) ?_
    · refine rg_call (by rfl) _ _ (.int .u64 X) (by first | (go_simp; done) | (go_simp; rfl)) (STA.out _) ?_
      intro W' hb
      have I2 := I'.below (m' := 0) hb.out (Nat.zero_le _)
      clear I'
      refine hK.out _ _ I2.b6 (fun hS => ?_)
      clear hK K
      try simp only [Act.put, List.setIfInBounds_toArray, List.set_cons_zero, List.set_cons_succ]
      refine' wpAnyLast_take (i := 8) (oi := Oper.mk _ _ _ _ _ _) rfl (by kernel_rfl) (by kernel_rfl) (by kernel_rfl) (by kernel_rfl) (by kernel_rfl) (fun _ _ _ h => h) (Or.inl ⟨by rfl, ?hy5⟩) hS ?rest5
      case hy5 => (intro w hSw; (try dsimp only at hSw); first | (go_simp; done) | (go_simp; with_reducible rfl))
      try simp only [Act.put, List.setIfInBounds_toArray, List.set_cons_zero, List.set_cons_succ]
      refine wpAnyLast_ready (rs := [9]) (by kernel_rfl) (by simp) ?_
      refine AllReadyL.cons (o := Oper.mk _ _ _ _ _ _) rfl (by decide) (fun K hK => ?_) ?_
      · refine call_ 62 #[.int .u64 (bits .or .u64 (bits .or .u64 A C) X)] (by rfl) rfl (by first | (go_simp; done) | (go_simp; rfl)) ((words_Each.calls _ _).mono ?_)
        rintro e W3 ⟨g1, rfl, GE1, B1, HB3⟩
        refine ⟨_, rfl, ?_⟩
        have I3 := I2.below (m' := W3.heap.size) HB3.out (Nat.le_refl _)
        clear I2 HB3
        refine hK.out _ _ I3.b6 (fun hS => ?_)
        clear hK K
        try simp only [Act.put, List.setIfInBounds_toArray, List.set_cons_zero, List.set_cons_succ]
        refine wpAnyLast_done (by kernel_rfl) ?_ _
        refine NoPanic.normal ?_
        gi_wp2
        have B1' := B1
        rw [BEG.out] at B1'
        have P0 := I3.ht.pos
        have L1 := B1'.lt
        have HP := Aside0.mk (And.intro (fun D hD => I3.mk_.lt (D := D) hD) I3.hb.le)
        have HX3 := Aside0.mk (And.intro I3.b5.lt (And.intro I3.b6.lt (I3.out.choose_spec.1).lt))
        have T3 := I3.ht
        clear B1 GE1
        refine wpIn_rangeFunc_ownH hro (by decide) (gf := 99) (lb := #[.pointer (some ⟨g1, 0, none⟩)]) rfl f3 (enters_of Tryd.func99 (by kernel_rfl) rfl)
          (words_Each_1.stops F HF (9 - 1) (by decide) g1 (begB s k) W3 B1' T3) Keep2.trans (fun W l o o' hl ho hc hw => Keep2.putObj P0 P0 W l o o' hl ho hc hw) (Below.refl _ _) (fun _ => rfl)
          (IdxI w g3 g5 g6 gr W3.heap.size [.int .u64 A, .int .u64 B, .int .u64 C, .int .u64 D] cur k (idxL s (64 * k)) Ds) (fun _ _ _ => False)
          (fun pre A B row hs hg hr => hs.kept HP.out.2 HP.out.1 hg hr)
          (fun _ _ _ _ _ hs _ _ => hs)
          I3
          (fun y a' W => a' = { tmps := #[.string s, undef, .slice none 0 0, .pointer (some ⟨g3, 0, none⟩), .bool c4, .pointer (some ⟨g5, 0, none⟩), .pointer (some ⟨g6, 0, none⟩), .int .i64 ((y.val : Nat) : Int), .string s, .slice (some ⟨gr, 0, none⟩) nw cp, .int .i64 (nw : Int), .int .i64 (k : Int), .bool true, .int .i64 (k : Int), .pointer (some ⟨gr, k * 4, none⟩), .agg #[.int .u64 A, .int .u64 B, .int .u64 C, .int .u64 D], .pointer (some ⟨g6, 0, none⟩), .int .u64 A, .pointer (some ⟨g6, 2, none⟩), .int .u64 C, .int .u64 (bits .or .u64 A C), .agg #[.int .u64 A, .int .u64 B, .int .u64 C, .int .u64 D], .bool c4, .int .u64 X, .int .u64 (bits .or .u64 (bits .or .u64 A C) X), .func (.func 99) #[] #[.pointer (some ⟨g1, 0, none⟩)], .int .i64 ((y.val : Nat) : Int), u27, u28, u29, u30, u31, u32, u33, u34, u35, u36, u37], defers := [] })
          (fun x a' pre A B row hs hg hr => hs)
          ?assign ?body ?done ?stop
        case assign =>
          intro l' pre y W K' hI hK'
          dsimp only
          gi_wp2
          exact hK' _ _ ((KeepsOthers.refl _).from _) ⟨rfl, rfl, Nat.le_refl _⟩ hI rfl
        case body =>
          rintro l' pre y a' W' hl ⟨r, hr⟩ hI rfl hlen
          clear hr
          obtain ⟨v', b3, hrow, hne⟩ := hI.out
          have c3 := b3.cell (i := 0) rfl
          have c5 := hI.b5.cell (i := 0) rfl
          have HB := hI.hb
          have hb1 : (k : Int) ≤ 17179869184 := by have := HLT.out; omega
          have hb2 : ((y.val : Nat) : Int) < 64 := by have := y.2.1; omega
          have hw1 : wrap64 (64 * (k : Int)) = 64 * (k : Int) := by unfold wrap64; omega
          have hw2 : wrap64 (64 * (k : Int) + ((y.val : Nat) : Int)) = 64 * (k : Int) + ((y.val : Nat) : Int) := by unfold wrap64; omega
          have HLEN : Aside0 (((idxL s (64 * k)).length + pre.length + 1) * 8 ≤ 140737488355328) := ⟨by have := idxL_length s (64 * k); have := HLT.out; omega⟩
          have HW' := Aside0.mk hI
          have HROW := Aside0.mk hrow
          have HNE := Aside0.mk hne
          clear hrow hne hI hlen
          gi_wp2_with (first
            | ((with_reducible refine gate_dstIn (N := 32) rfl ?_); refine ev_lit1In HB rfl rfl (.int .i64 (64 * (k : Int) + ((y.val : Nat) : Int))) 3 ?hr ?_; (case hr => first | (go_simp; done) | (go_simp; rfl)); intro gl w11 G_gl B_gl HB11 K_gl KO11; have I11 := Aside0.mk (HW'.out.below (m' := W3.heap.size) K_gl.out (Nat.le_trans HW'.out.sz K_gl.out.size)); have b311 := b3.below K_gl.out; have R11 := Aside0.mk (row_below HROW.out K_gl.out))
            | ((with_reducible refine gate_dstIn (N := 33) rfl ?_); refine ev_appendAtIn HB11 rfl _ _ 36 3 (.int .i64 0) 1 8 rfl Tryd.underlying36 (by kernel_rfl) rfl (by decide) (by decide) v' _ _ rfl R11.out gl [.int .i64 (64 * (k : Int) + ((y.val : Nat) : Int))] rfl B_gl rfl (by simp [Value.oneCell']) HLEN.out ?_; intro v1 w12 hrow12 HB12 K12 KO12 AT12 FV1; have R12 := Aside0.mk hrow12; have V12 := Aside0.mk (row_one hrow12); have b312 := b311.appended (by decide) R11.out K12; clear hrow12; obtain ⟨g', cap', rfl⟩ := FV1.out)
            | ((with_reducible refine gate_In (Op.store 36 (.tmp 3) (.tmp 33)) rfl ?_); refine ev_store1In (i := 0) HB12 b312 GE_g3 rfl 36 _ _ rfl rfl _ rfl (by simp) (by kernel_rfl) rfl ?_; intro w13 B13 HB13 K13 KO13))
          have E5 := I11.out.b5.appended_ne HNE.out K12
          have E6 := I11.out.b6.appended (by decide) R11.out K12
          have ER := I11.out.br.appended (by decide) R11.out K12
          have N0 : v'.ownBlock ≠ some 0 := own_ne_lt R11.out PW.out
          have H12 := heap_appended I11.out.ht.pos N0 K12
          have T12 := I11.out.ht.heap H12
          have O3 : 0 < g3 := by have := GE_g3.out; have := PW.out; omega
          have H13 := K13.out.2 0 (by omega)
          have H11 := K_gl.out.block 0 HW'.out.ht.pos
          have N5 := own_ne_appended AT12 HNE.out I11.out.b5.lt
          refine ⟨((keepsOthers_below K_gl.out).trans (KO12.out.trans KO13.out)).from _, ⟨(H13.trans H12).trans H11, (H13.trans H12).trans H11, Nat.le_trans K_gl.out.size (Nat.le_trans K12.out.1 K13.out.1)⟩, ⟨_, B13, ?_, N5⟩, E5.other K13 (E5.ne b312 (by decide)), E6.other K13 (E6.ne b312 (by decide)), ER.other K13 (ER.ne b312 (by decide)), T12.other O3 K13, (I11.out.mk_.others KO12.out).others KO13.out, HB13, Nat.le_trans I11.out.sz (Nat.le_trans K12.out.1 K13.out.1)⟩
          have R13 := row_other R12.out b312 (by decide) K13
          have e1 : (idxL s (64 * k)).length + (pre ++ [y]).length = (idxL s (64 * k)).length + pre.length + 1 := by
            rw [List.length_append, List.length_singleton]
            omega
          have e2 : (idxL s (64 * k) ++ (pre ++ [y]).map fun x => (64 * (k : Int) + ((x.val : Nat) : Int))).map (Value.int .i64) = (idxL s (64 * k) ++ pre.map fun x => (64 * (k : Int) + ((x.val : Nat) : Int))).map (Value.int .i64) ++ [.int .i64 (64 * (k : Int) + ((y.val : Nat) : Int))] := by
            rw [List.map_append, List.map_append, List.map_append, List.map_append, ← List.append_assoc]
            rfl
          rw [e1, e2]
          exact R13
        case done =>
          rintro D ys W' hD rfl hI hK'
          have HDn : D ∉ Ds := fun c => by have := HP.out.1 D c; omega
          have HM' := Aside0.mk (hI.mk_.cons (Nat.le_trans HP.out.2 hD) hK' HDn)
          have hb1 : (k : Int) ≤ 17179869184 := by have := HLT.out; omega
          have hw1 : wrap64 ((k : Int) + 1) = (k : Int) + 1 := by unfold wrap64; omega
          have HI := Aside0.mk hI
          have b6 := hI.b6
          clear hI hK' hD HDn
          gi_wp2_with (first
            | ((with_reducible refine gate_dstIn (N := 34) rfl ?_); refine ev_loadSIn b6 rfl 77 _ rfl rfl Tryd.underlying77 rfl (by kernel_rfl) ?_)
            | (gi_at_call 59; refine (callsIn_of HF (EN.out _)).mono ?_; rintro e w9 ⟨rfl, hb9⟩; have HK9 := Aside0.mk hb9; clear hb9))
          have I9 := HI.out.below (m' := 0) HK9.out (Nat.zero_le _)
          obtain ⟨v', b3, hrow, _⟩ := I9.out
          have es := idxL_step s k
          have el := congrArg List.length es
          rw [List.length_append, List.length_map] at el
          rw [es, el] at hrow
          refine HKK.out (nw - (k + 1)) _ _ (by have := HLT.out; omega) ⟨k + 1, D :: Ds, _, E, _, _, _, _, _, _, _, _, _, _, _, _, _, _, _, _, _, _, _, _, _, _, _, _, _, _, _, _, _, rfl, by omega, by have := HLT.out; omega, rfl, ⟨fun hk1 => ?_⟩, ⟨v', b3, hrow⟩, ⟨fun _ => I9.br⟩, ⟨I9.ht⟩, ⟨HM'.out.below HK9.out⟩, I9.hb⟩
          rw [HE.out, car_next, if_pos]
          have := HNW.out
          unfold nwords at this
          omega
        case stop =>
          rintro D c pre W _ _ h _
          exact h.elim
      exact AllReadyL.nil
    exact AllReadyL.nil
  · have EK : k = nw := by omega
    subst hz11
    have hq1 : decide (k < nw) = false := decide_eq_false (by omega)
    have HI := Aside0.mk EK
    have HROW := Aside0.mk hrow
    clear EK hlt hk hrow
    gi_wp2
    refine leaves_marks Ds W HM.out fun A hsw => ⟨_, results_tmp rfl _ _ _, v, rfl, ?_, hsw.below (Nat.le_refl _) HB.out⟩
    have e1 : idxL s (64 * k) = idxL s s.size := by
      rw [idxL_all s (64 * k) (by rw [HI.out, HNW.out]; unfold nwords; omega), idxL_all s s.size (Nat.le_refl _)]
    rw [← e1]
    exact hsw.own HROW.out
theorem marks_Index.calls (a0 : ByteArray) (r : List Int) (w : World) (hT : TabOk w) (h : marks_Index.f a0 = some r) :
    Calls Tryd.prog 26 #[.string a0] w fun e w' => ∃ v : Value, e = .returned v ∧ Kd.R (Kd.int .i64) 3 w' w.heap.size (fun _ => True) v r ∧ Below w.heap.size w w' := by
  unfold marks_Index.f at h
  by_cases hs : a0.size ≤ 1099511627776
  case neg => rw [if_neg hs] at h; cases h
  rw [if_pos hs] at h
  simp only [Option.some.injEq] at h
  subst h
  refine (marks_Index.walk a0 w hT hs).mono ?_
  rintro e w' ⟨v, rfl, hrow, hb⟩
  exact ⟨v, rfl, Kd.R_of_own hrow (fun _ _ => trivial), hb⟩
end


end Go.Proofs.YtgddljealeklkaaDoor.PM
end
