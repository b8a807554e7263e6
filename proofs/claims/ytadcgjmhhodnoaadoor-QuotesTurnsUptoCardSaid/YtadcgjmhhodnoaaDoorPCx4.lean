-- Written by a program (myprint.py, over the kit's print) for this claim. Not trusted: Lean checks it.
import Derived.Test.YtadcgjmhhodnoaaDoorPCx0
import Derived.Test.YtadcgjmhhodnoaaDoorPCx1
import Derived.Test.YtadcgjmhhodnoaaDoorPCx2
import Derived.Test.YtadcgjmhhodnoaaDoorPCx3
namespace Go.Proofs.YtadcgjmhhodnoaaDoor.PC
open Go.RowKit Go.Proofs.YtadcgjmhhodnoaaDoorW.PrintWords Go.Proofs.YtadcgjmhhodnoaaDoorW.PrintLast Go.Proofs.YtadcgjmhhodnoaaDoorW.PrintMore
attribute [local go_sem] max2_int min2_int max_two min_two max_three min_three max_four min_four   -- for this text's walks alone
set_option linter.unusedVariables false
set_option linter.unusedSimpArgs false

/-! ### bitmap_both: function 92 -/
section
open Go.Proofs.YtadcgjmhhodnoaaDoorM
/-- 'make([]T, n, n)'. -/
theorem rg_makeN {P : Program} {ops : Array Oper} {o : Oper} {a : Act} {K : Act → World → Prop} {Q : Exit → Act → World → Prop} {W : World} {w : World} (HB : BelowH w W) (hw : Region.wanted o (yielded ops a.tmps) = true) (t e : TypeId) (z : Value) (bytes n : Nat) (l c : Operand) (ho : o.op = .makeSlice t l c) (hl : a.eval l = .int .i64 (n : Int)) (hc : a.eval c = .int .i64 (n : Int))
    (ht : P.underlying t = some (.slice e)) (hinfo : (P.info? e).map (fun i => (i.zero, i.size, i.bytes)) = some (some z, 1, bytes)) (hz1 : z.cells = #[z]) (hbytes : bytes * n ≤ 281474976710656) (h63 : n ≤ 9223372036854775807)
    (h : ∀ g w1, Aside0 (W.heap.size ≤ g) → Aside0 (w.heap.size ≤ g) → Blk w1 g (madeCells #[z] n) e → BelowH w w1 → Aside0 (Below W.heap.size W w1) → K (a.put o.dst (.slice (some ⟨g, 0, none⟩) n n)) w1) :
    if Region.wanted o (yielded ops a.tmps) = true then Oper.wp P o a W K Q else K (a.put o.dst undef) W := by
  rw [if_pos hw]
  have hr : (execOp a.eval o).run P W = .ok (.value (.slice (some ⟨W.heap.size, 0, none⟩) n n)) (W.alloc (.cells (madeCells #[z] n) e)) := by
    have h1 := run_make_row' (P := P) t e z bytes ht hinfo hz1 .i64 .i64 n hbytes h63 W
    unfold execOp
    simp [ho, hl, hc, h1, Result.andThen]
  unfold Oper.wp
  rw [hr]
  exact h _ _ ⟨Nat.le_refl _⟩ ⟨HB.le⟩ ⟨blk_new W _⟩ (HB.step (below_alloc (Below.refl _ _) _)) ⟨below_alloc (Below.refl _ _) _⟩
/-- The first result in memory, the second in a variable. -/
theorem results_cell_tmp {P : Program} {fn : Func} {p q : Tmp} {ty : TypeId} (h : fn.results = #[.cell p ty, .tmp q]) (tmps : Array Value) (w : World) (g : Nat) (t : TypeId) (cs : Array Value) (v : Value) (d : TypeDesc)
    (hp : tmps.getD p undef = .pointer (some ⟨g, 0, none⟩)) (hq : tmps.getD q undef = v) (hg : Blk w g cs t)
    (hu : P.underlying ty = some d) (hd : (match d with | .struct _ | .array _ _ => true | _ => false) = true) (hi : (P.info? ty).map (·.size) = some cs.size) :
    (results fn tmps).run P w = .ok (.tuple #[.agg cs, v]) w := by
  have hp' : tmps[p]?.getD undef = .pointer (some ⟨g, 0, none⟩) := by simpa using hp
  have hq' : tmps[q]?.getD undef = v := by simpa using hq
  have h1 := run_loadVar_row (P := P) w g t ty cs (0, 0) d hg.out hu hd hi
  simp [results, h, hp', hq', asAddr, h1, Result.andThen]
/-- The words of both, each by its sign. -/
def xorL (l1 l2 : List Int) : List Int := (List.range l1.length).map fun j => Go.bits .xor .u64 (l1.getD j 0) (l2.getD j 0)
def xorA (l1 l2 : List Int) (k : Nat) : Array Value := ((List.range l1.length).map fun j => Value.int .u64 (if j < k then Go.bits .xor .u64 (l1.getD j 0) (l2.getD j 0) else 0)).toArray
theorem xorA_size (l1 l2 : List Int) (k : Nat) : (xorA l1 l2 k).size = l1.length := by simp [xorA]
theorem xorA_zero (l1 l2 : List Int) : madeCells #[Value.int .u64 0] l1.length = xorA l1 l2 0 := by
  apply Array.ext
  · rw [size_madeCells, xorA_size]
  · intro i h1 h2
    simp [madeCells, xorA, Nat.mod_one]
theorem xorA_set (l1 l2 : List Int) (k : Nat) (h : k < l1.length) : (xorA l1 l2 k).setIfInBounds k (.int .u64 (Go.bits .xor .u64 (l1.getD k 0) (l2.getD k 0))) = xorA l1 l2 (k + 1) := by
  apply Array.ext
  · rw [Array.size_setIfInBounds, xorA_size, xorA_size]
  · intro i h1 h2
    rw [Array.getElem_setIfInBounds (by rw [xorA_size]; rw [xorA_size] at h2; exact h2)]
    by_cases e : k = i
    · subst e
      simp [xorA]
    · rw [if_neg e]
      have e1 : ∀ m (h : i < (xorA l1 l2 m).size), (xorA l1 l2 m)[i]'h = Value.int .u64 (if i < m then Go.bits .xor .u64 (l1.getD i 0) (l2.getD i 0) else 0) := fun m h => by simp [xorA]
      rw [e1, e1]
      by_cases g : i < k
      · rw [if_pos g, if_pos (by omega)]
      · rw [if_neg g, if_neg (by omega)]
theorem xorA_all (l1 l2 : List Int) : xorA l1 l2 l1.length = ((xorL l1 l2).map (Value.int .u64)).toArray := by
  unfold xorA xorL
  rw [List.map_map]
  congr 1
  apply List.map_congr_left
  intro j hj
  rw [if_pos (List.mem_range.1 hj)]
  rfl
theorem xorL_length (l1 l2 : List Int) : (xorL l1 l2).length = l1.length := by simp [xorL]
set_option maxHeartbeats 4000000 in
set_option maxRecDepth 100000 in
theorem bitmap_both.xor (n : Int) (A1 : Option Addr) (c1 : Nat) (l1 : List Int) (A2 : Option Addr) (c2 : Nat) (l2 : List Int) (w : World) (hr1 : Kd.C (Kd.int .u64) w A1 l1.length l1) (hc1 : l1.length ≤ c1) (hr2 : Kd.C (Kd.int .u64) w A2 l2.length l2) (hc2 : l2.length ≤ c2)
    (hF1 : bitmap_Formed.f n l1 = some true) (hF2 : bitmap_Formed.f n l2 = some true) (hl : l2.length = l1.length) (hm : l1.length ≤ 17592186044416) :
    Calls Tryd.prog 92 #[.agg #[.int .i64 n, .slice A1 l1.length c1], .agg #[.int .i64 n, .slice A2 l2.length c2], .func (.func 93) #[] #[]] w fun e w' =>
      ∃ v, e = .returned (.tuple #[.agg #[.int .i64 n, v], .int .i64 0]) ∧ w'.ownsRow w.heap.size 64 1 v l1.length ((xorL l1 l2).map (Value.int .u64)) ∧ Below w.heap.size w w' := by
  have HB := BelowH.refl w
  have HR1 := Aside0.mk hr1
  have HR2 := Aside0.mk hr2
  have HH := Aside0.mk (And.intro hc1 (And.intro hc2 (And.intro hF1 (And.intro hF2 (And.intro hl hm)))))
  have hnn : (n == n) = true := beq_self_eq_true n
  have F1 : Aside0 (∀ W, Below w.heap.size w W → Calls Tryd.prog 70 #[.agg #[.int .i64 n, .slice A1 l1.length c1]] W fun e w' => e = .returned (.bool true) ∧ Below W.heap.size W w') := ⟨fun W h => bitmap_Formed.calls n A1 c1 l1 true _ (Kd.C_below hr1 h) hc1 hF1⟩
  have F2 : Aside0 (∀ W, Below w.heap.size w W → Calls Tryd.prog 70 #[.agg #[.int .i64 n, .slice A2 l2.length c2]] W fun e w' => e = .returned (.bool true) ∧ Below W.heap.size W w') := ⟨fun W h => bitmap_Formed.calls n A2 c2 l2 true _ (Kd.C_below hr2 h) hc2 hF2⟩
  obtain ⟨N, hN⟩ : ∃ N, N = l1.length := ⟨_, rfl⟩
  obtain ⟨N2, hN2⟩ : ∃ N, N = l2.length := ⟨_, rfl⟩
  rw [← hN, ← hN2]
  rw [← hN] at F1
  rw [← hN2] at F2
  have HN := Aside0.mk (And.intro hN hN2)
  have HNB : Aside0 (N ≤ 17592186044416) := ⟨by rw [hN]; exact hm⟩
  clear hr1 hr2 hc1 hc2 hF1 hF2 hl hm hN hN2
  go_enter Tryd.func92, Tryd.ntmps92
  go_upto_region 3 with (first
    | ((with_reducible refine gate_dst (N := 3) rfl ?_); refine ev_alloc HB rfl (#[.int .i64 n, .slice A1 N c1]) 38 ?hr ?_; (case hr => first | (go_simp; done) | (go_simp; rfl)); intro g3 w3 G_g3 GE_g3 B_g3 HBn K_g3; clear HB; have HB := HBn; clear HBn)
    | ((with_reducible refine gate_dst (N := 4) rfl ?_); refine ev_alloc HB rfl (#[.int .i64 n, .slice A2 N2 c2]) 38 ?hr ?_; (case hr => first | (go_simp; done) | (go_simp; rfl)); intro g4 w4 G_g4 GE_g4 B_g4 HBn K_g4; clear HB; have HB := HBn; clear HBn)
    | ((with_reducible refine gate_dst (N := 6) rfl ?_); refine ev_alloc HB rfl (#[.int .i64 0, .slice none 0 0]) 38 ?hr ?_; (case hr => first | (go_simp; done) | (go_simp; rfl)); intro g6 w6 G_g6 GE_g6 B_g6 HBn K_g6; clear HB; have HB := HBn; clear HBn)
    | ((with_reducible refine gate_dst (N := 11) rfl ?_); refine ev_loadS ((B_g3.below K_g4.out).below K_g6.out) rfl 38 _ rfl rfl Tryd.underlying38 rfl (by kernel_rfl) ?_)
    | ((with_reducible refine gate_dst (N := 15) rfl ?_); (try (refine gate_guard (by rfl) ?_; dsimp only)); refine ev_loadS D4 rfl 38 _ rfl rfl Tryd.underlying38 rfl (by kernel_rfl) ?_)
    | (go_at_call 70; first
        | (refine (F1.out _ HB.out).mono ?_; rintro e w7 ⟨rfl, hb7⟩; have D3 := ((B_g3.below K_g4.out).below K_g6.out).below hb7; have D4 := (B_g4.below K_g6.out).below hb7; have D6 := B_g6.below hb7; have HBn := HB.step hb7; clear HB hb7 F1; have HB := HBn; clear HBn)
        | (refine (F2.out _ HB.out).mono ?_; rintro e w8 ⟨rfl, hb8⟩; have E3 := D3.below hb8; have E4 := D4.below hb8; have E6 := D6.below hb8; have HBn := HB.step hb8; clear HB hb8; have HB := HBn; clear HBn)))
  obtain ⟨L, hL⟩ : ∃ L : List (Nat × Array Value × Nat), L = [(g3, #[.int .i64 n, .slice A1 N c1], 38), (g4, #[.int .i64 n, .slice A2 N2 c2], 38), (g6, #[.int .i64 0, .slice none 0 0], 38)] := ⟨_, rfl⟩
  have CL : Blks L w8 := ⟨by
    rw [hL]
    intro b m
    simp at m
    rcases m with rfl | rfl | rfl
    · exact E3
    · exact E4
    · exact E6⟩
  have LL : ∀ b ∈ L, b.1 < w8.heap.size := fun b m => (CL.out b m).lt
  have LT : ∀ b ∈ L, b.2.2 ≠ 64 := by
    rw [hL]
    intro b m
    simp at m
    rcases m with rfl | rfl | rfl <;> (dsimp only; decide)
  have M3 : (g3, #[.int .i64 n, .slice A1 N c1], 38) ∈ L := by rw [hL]; simp
  have M4 : (g4, #[.int .i64 n, .slice A2 N2 c2], 38) ∈ L := by rw [hL]; simp
  have M6 : (g6, #[.int .i64 0, .slice none 0 0], 38) ∈ L := by rw [hL]; simp
  have PL := Aside0.mk (And.intro LL LT)
  have PM := Aside0.mk (And.intro M3 (And.intro M4 M6))
  have c30 := E3.cell (i := 0) rfl
  have c40 := E4.cell (i := 0) rfl
  have HZ0 : Aside0 (w8.heap.size ≤ w8.heap.size) := ⟨Nat.le_refl _⟩
  clear D3 D4 D6 E3 E4 E6 B_g3 B_g4 B_g6 K_g3 K_g4 K_g6 G_g3 G_g4 G_g6 hL LL LT M3 M4 M6 GE_g3 GE_g4
  go_upto_region 5 with (fail)
  clear c30 c40
  have hbd : Aside0 (Below w8.heap.size w8 w8.drew) := ⟨below_drew (Below.refl _ _)⟩
  have CLn := CL.below hbd.out
  have HBn := HB.step hbd.out
  have HZ : Aside0 (w8.heap.size ≤ w8.drew.heap.size) := ⟨hbd.out.size⟩
  clear CL HB HZ0
  have CL := CLn
  have HB := HBn
  clear CLn HBn hbd
  refine wp_region_noPanic ?_
  refine wp_region_last_drew (S := fun W' => Blk W' g3 #[.int .i64 n, .slice A1 N c1] 38) (ds := [8]) (by kernel_rfl) (CL.out _ PM.out.1) (fun hS => ?_)
  refine' wpAnyLast_take (i := 0) (oi := Oper.mk _ _ _ _ _ _) rfl (by kernel_rfl) (by kernel_rfl) (by kernel_rfl) (by kernel_rfl) (by kernel_rfl) (fun _ _ _ h => h) (Or.inl ⟨by rfl, ?hy1⟩) hS ?rest1
  case hy1 => (intro w hSw; (try dsimp only at hSw); first | (go_simp; done) | (go_simp; with_reducible rfl))
  try simp only [Act.put, List.setIfInBounds_toArray, List.set_cons_zero, List.set_cons_succ]
  refine wpAnyLast_take (i := 1) (oi := Oper.mk _ _ _ _ _ _) rfl (by kernel_rfl) (by kernel_rfl) (by kernel_rfl) (by kernel_rfl) (by kernel_rfl) (fun _ _ _ h => h) (rg_load1 (by rfl) (fun _ hS => hS.cell (i := 0) rfl) 3 _ rfl rfl (fun _ => by simp [isAgg, run_underlying Tryd.underlying3])) hS ?_
  try simp only [Act.put, List.setIfInBounds_toArray, List.set_cons_zero, List.set_cons_succ]
  refine' wpAnyLast_take (i := 2) (oi := Oper.mk _ _ _ _ _ _) rfl (by kernel_rfl) (by kernel_rfl) (by kernel_rfl) (by kernel_rfl) (by kernel_rfl) (fun _ _ _ h => h) (Or.inl ⟨by rfl, ?hy2⟩) hS ?rest2
  case hy2 => (intro w hSw; (try dsimp only at hSw); first | (go_simp; done) | (go_simp; with_reducible rfl))
  try simp only [Act.put, List.setIfInBounds_toArray, List.set_cons_zero, List.set_cons_succ]
  refine wpAnyLast_take (i := 3) (oi := Oper.mk _ _ _ _ _ _) rfl (by kernel_rfl) (by kernel_rfl) (by kernel_rfl) (by kernel_rfl) (by kernel_rfl) (fun _ _ _ h => h) (rg_load1 (by rfl) (fun _ hS => hS.cell (i := 1) rfl) 36 _ rfl rfl (fun _ => by simp [isAgg, run_underlying Tryd.underlying36])) hS ?_
  try simp only [Act.put, List.setIfInBounds_toArray, List.set_cons_zero, List.set_cons_succ]
  refine' wpAnyLast_take (i := 4) (oi := Oper.mk _ _ _ _ _ _) rfl (by kernel_rfl) (by kernel_rfl) (by kernel_rfl) (by kernel_rfl) (by kernel_rfl) (fun _ _ _ h => h) (Or.inl ⟨by rfl, ?hy3⟩) hS ?rest3
  case hy3 => (intro w hSw; (try dsimp only at hSw); first | (go_simp; done) | (go_simp; with_reducible rfl))
  try simp only [Act.put, List.setIfInBounds_toArray, List.set_cons_zero, List.set_cons_succ]
  refine wpAnyLast_ready (rs := [5, 7]) (by kernel_rfl) (by simp) ?_
  refine AllReadyL.cons (o := Oper.mk _ _ _ _ _ _) rfl (by decide) (fun K hK => ?_) ?_
  · refine rg_makeN HB (by rfl) 36 64 (.int .u64 0) 8 N _ _ rfl rfl rfl Tryd.underlying36 (by kernel_rfl) rfl (by have := HNB.out; omega) (by have := HNB.out; omega) ?_
    intro gr W' Gr0 GEr BG HBn hb
    have Gr := Aside0.mk (Nat.le_trans HZ.out Gr0.out)
    have CLn := CL.below hb.out
    have HZn := Aside0.mk (Nat.le_trans HZ.out hb.out.size)
    clear CL HZ HB
    have CL := CLn
    have HZ := HZn
    have HB := HBn
    clear CLn HZn HBn
    refine hK.out _ _ (CL.out _ PM.out.1) (fun hS => ?_)
    clear hK K hb Gr0
    try simp only [Act.put, List.setIfInBounds_toArray, List.set_cons_zero, List.set_cons_succ]
    refine' wpAnyLast_take (i := 6) (oi := Oper.mk _ _ _ _ _ _) rfl (by kernel_rfl) (by kernel_rfl) (by kernel_rfl) (by kernel_rfl) (by kernel_rfl) (fun _ _ _ h => h) (Or.inl ⟨by rfl, ?hy4⟩) hS ?rest4
    case hy4 => (intro w hSw; (try dsimp only at hSw); first | (go_simp; done) | (go_simp; with_reducible rfl))
    try simp only [Act.put, List.setIfInBounds_toArray, List.set_cons_zero, List.set_cons_succ]
    refine wpAnyLast_ready (rs := [7]) (by kernel_rfl) (by simp) ?_
    refine AllReadyL.cons (o := Oper.mk _ _ _ _ _ _) rfl (by decide) (fun K hK => ?_) ?_
    · refine rg_alloc HB (by rfl) (#[.int .i64 0, .slice none 0 0]) 38 (by first | (go_simp; done) | (go_simp; rfl)) ?_
      intro g8 W' G80 GE8 B8 HBn hb
      have G8 := Aside0.mk (Nat.le_trans HZ.out G80.out)
      have CLn := CL.below hb.out
      have HZn := Aside0.mk (Nat.le_trans HZ.out hb.out.size)
      have BGn := BG.below hb.out
      clear BG
      have BG := BGn
      clear BGn
      clear CL HZ HB
      have CL := CLn
      have HZ := HZn
      have HB := HBn
      clear CLn HZn HBn
      refine hK.out _ _ (CL.out _ PM.out.1) (fun hS => ?_)
      clear hK K hb G80
      try simp only [Act.put, List.setIfInBounds_toArray, List.set_cons_zero, List.set_cons_succ]
      refine wpAnyLast_ready (rs := [8]) (by kernel_rfl) (by simp) ?_
      refine AllReadyL.cons_last (o := Oper.mk _ _ _ _ _ _) rfl (by decide) (fun K hK => ?_) ?_
      · refine rg_store HB (by rfl) B8 GE8 38 _ _ rfl rfl rfl (by kernel_rfl) rfl (by simp [Value.oneCell']) ?_
        intro w9 B9 HB9 K9
        have CL9 := CL.other K9 (fun b m => by have := PL.out.1 b m; have := G8.out; omega)
        have BG9 := BG.other K9 (BG.ne B8 (by decide))
        refine hK.out _ _ ?_
        clear hK K
        try simp only [Act.put, List.setIfInBounds_toArray, List.set_cons_zero, List.set_cons_succ]
        refine wpAnyLast_done (by kernel_rfl) ?_ _
        refine NoPanic.normal ?_
        rw [show madeCells #[Value.int .u64 0] N = xorA l1 l2 0 by rw [HN.out.1]; exact xorA_zero l1 l2] at BG9
        have c31 := (CL9.out _ PM.out.1).cell (i := 1) rfl
        have HNB1 : (N : Int) ≤ 17592186044416 := by have := HNB.out; omega
        clear CL HB BG B8 K9 hS
        go_wp2
        go_loopw [36] (fun v36 wr => ∃ k : Nat, v36 = .int .i64 (k : Int) ∧ Aside0 (k ≤ N) ∧ Aside0 (Blk wr gr (xorA l1 l2 k) 64) ∧ Blk wr g8 #[.int .i64 n, .slice (some ⟨gr, 0, none⟩) N N] 38 ∧ Aside0 (Blks L wr) ∧ BelowH w wr) (fun v36 _ => N - (intOf v36).toNat)
        case atStart => exact ⟨0, rfl, ⟨Nat.zero_le _⟩, ⟨BG9⟩, B9, ⟨CL9⟩, HB9⟩
        case round =>
          clear BG9 B9 CL9 HB9 c31
          obtain ⟨k, rfl, HK, R, B8, CB, HB⟩ := hrel
          by_cases hlt : k < N
          · have HLT := Aside0.mk hlt
            have hq0 : (0 : Int) ≤ (k : Int) := by omega
            have hq1 : (k : Int) < (N : Int) := by omega
            have hq2 : (k : Int) < (N2 : Int) := by have := HN.out; have := HH.out.2.2.2.2.1; omega
            have hq6 : IntKind.i64.wrap (k : Int) = (k : Int) := by rw [i64_w]; unfold wrap64; omega
            have hq7 : IntKind.i64.wrap ((k : Int) + 1) = (k : Int) + 1 := by rw [i64_w]; unfold wrap64; omega
            obtain ⟨ad1, e1, cx⟩ := Kd.at_int (Kd.C_below HR1.out HB.out) (k : Int) hq0 (by have := HN.out.1; omega)
            obtain ⟨ad2, e2, cy0⟩ := Kd.at_int (Kd.C_below HR2.out HB.out) (k : Int) hq0 (by have := HN.out.2; omega)
            rw [show rd l1 (k : Int) = l1.getD k 0 by unfold rd; rw [Int.toNat_natCast]] at cx
            rw [show rd l2 (k : Int) = l2.getD k 0 by unfold rd; rw [Int.toNat_natCast]] at cy0
            rw [Int.toNat_natCast] at cx cy0
            obtain ⟨x, hx⟩ : ∃ x, x = l1.getD k 0 := ⟨_, rfl⟩
            obtain ⟨y, hy⟩ : ∃ y, y = l2.getD k 0 := ⟨_, rfl⟩
            rw [← hx] at cx
            rw [← hy] at cy0
            have HXY := Aside0.mk (And.intro hx hy)
            have CY := Aside0.mk cy0
            have E2 := Aside0.mk e2
            clear hx hy cy0
            have e1' := e1
            subst e1'
            clear e1
            go_upto_region 9 with (fail)
            have hbd : Aside0 (Below wr.heap.size wr wr.drew) := ⟨below_drew (Below.refl _ _)⟩
            have B8' := B8.below hbd.out
            have CB' := CB.out.below hbd.out
            have HB' := HB.step hbd.out
            have R' := R.out.below hbd.out
            have CY' := Aside0.mk (pw_cell_below hbd.out CY.out)
            have e2' := E2.out
            subst e2'
            clear cx B8 CB HB R hbd hlt
            refine wp_region_noPanic ?_
            refine wp_region_last_drew (S := fun W' => Blk W' g8 #[.int .i64 n, .slice (some ⟨gr, 0, none⟩) N N] 38 ∧ Blk W' g4 #[.int .i64 n, .slice (some ad2) N2 c2] 38 ∧ W'.cell? (ad2.add k) = some (.int .u64 y)) (ds := [12]) (by kernel_rfl) ⟨B8', CB'.out _ PM.out.2.1, CY'.out⟩ (fun hS => ?_)
            refine' wpAnyLast_take (i := 0) (oi := Oper.mk _ _ _ _ _ _) rfl (by kernel_rfl) (by kernel_rfl) (by kernel_rfl) (by kernel_rfl) (by kernel_rfl) (fun _ _ _ h => h) (Or.inl ⟨by rfl, ?hy5⟩) hS ?rest5
            case hy5 => (intro w hSw; (try dsimp only at hSw); first | (go_simp; done) | (go_simp; with_reducible rfl))
            try simp only [Act.put, List.setIfInBounds_toArray, List.set_cons_zero, List.set_cons_succ]
            refine wpAnyLast_take (i := 1) (oi := Oper.mk _ _ _ _ _ _) rfl (by kernel_rfl) (by kernel_rfl) (by kernel_rfl) (by kernel_rfl) (by kernel_rfl) (fun _ _ _ h => h) (rg_load1 (by rfl) (fun _ hS => hS.1.cell (i := 1) rfl) 36 _ rfl rfl (fun _ => by simp [isAgg, run_underlying Tryd.underlying36])) hS ?_
            try simp only [Act.put, List.setIfInBounds_toArray, List.set_cons_zero, List.set_cons_succ]
            refine' wpAnyLast_take (i := 2) (oi := Oper.mk _ _ _ _ _ _) rfl (by kernel_rfl) (by kernel_rfl) (by kernel_rfl) (by kernel_rfl) (by kernel_rfl) (fun _ _ _ h => h) (Or.inl ⟨by rfl, ?hy6⟩) hS ?rest6
            case hy6 => (intro w hSw; (try dsimp only at hSw); first | (go_simp; done) | (go_simp; with_reducible rfl))
            try simp only [Act.put, List.setIfInBounds_toArray, List.set_cons_zero, List.set_cons_succ]
            refine' wpAnyLast_take (i := 3) (oi := Oper.mk _ _ _ _ _ _) rfl (by kernel_rfl) (by kernel_rfl) (by kernel_rfl) (by kernel_rfl) (by kernel_rfl) (fun _ _ _ h => h) (Or.inl ⟨by rfl, ?hy7⟩) hS ?rest7
            case hy7 => (intro w hSw; (try dsimp only at hSw); first | (go_simp; done) | (go_simp; with_reducible rfl))
            try simp only [Act.put, List.setIfInBounds_toArray, List.set_cons_zero, List.set_cons_succ]
            refine' wpAnyLast_take (i := 4) (oi := Oper.mk _ _ _ _ _ _) rfl (by kernel_rfl) (by kernel_rfl) (by kernel_rfl) (by kernel_rfl) (by kernel_rfl) (fun _ _ _ h => h) (Or.inl ⟨by rfl, ?hy8⟩) hS ?rest8
            case hy8 => (intro w hSw; (try dsimp only at hSw); first | (go_simp; done) | (go_simp; with_reducible rfl))
            try simp only [Act.put, List.setIfInBounds_toArray, List.set_cons_zero, List.set_cons_succ]
            refine' wpAnyLast_take (i := 5) (oi := Oper.mk _ _ _ _ _ _) rfl (by kernel_rfl) (by kernel_rfl) (by kernel_rfl) (by kernel_rfl) (by kernel_rfl) (fun _ _ _ h => h) (Or.inl ⟨by rfl, ?hy9⟩) hS ?rest9
            case hy9 => (intro w hSw; (try dsimp only at hSw); first | (go_simp; done) | (go_simp; with_reducible rfl))
            try simp only [Act.put, List.setIfInBounds_toArray, List.set_cons_zero, List.set_cons_succ]
            refine wpAnyLast_take (i := 6) (oi := Oper.mk _ _ _ _ _ _) rfl (by kernel_rfl) (by kernel_rfl) (by kernel_rfl) (by kernel_rfl) (by kernel_rfl) (fun _ _ _ h => h) (rg_load1 (by rfl) (fun _ hS => hS.2.1.cell (i := 1) rfl) 36 _ rfl rfl (fun _ => by simp [isAgg, run_underlying Tryd.underlying36])) hS ?_
            try simp only [Act.put, List.setIfInBounds_toArray, List.set_cons_zero, List.set_cons_succ]
            refine' wpAnyLast_take (i := 7) (oi := Oper.mk _ _ _ _ _ _) rfl (by kernel_rfl) (by kernel_rfl) (by kernel_rfl) (by kernel_rfl) (by kernel_rfl) (fun _ _ _ h => h) (Or.inl ⟨by rfl, ?hy10⟩) hS ?rest10
            case hy10 => (intro w hSw; (try dsimp only at hSw); first | (go_simp; done) | (go_simp; with_reducible rfl))
            try simp only [Act.put, List.setIfInBounds_toArray, List.set_cons_zero, List.set_cons_succ]
            refine' wpAnyLast_take (i := 8) (oi := Oper.mk _ _ _ _ _ _) rfl (by kernel_rfl) (by kernel_rfl) (by kernel_rfl) (by kernel_rfl) (by kernel_rfl) (fun _ _ _ h => h) (Or.inl ⟨by rfl, ?hy11⟩) hS ?rest11
            case hy11 => (intro w hSw; (try dsimp only at hSw); first | (go_simp; done) | (go_simp; with_reducible rfl))
            try simp only [Act.put, List.setIfInBounds_toArray, List.set_cons_zero, List.set_cons_succ]
            refine wpAnyLast_take (i := 9) (oi := Oper.mk _ _ _ _ _ _) rfl (by kernel_rfl) (by kernel_rfl) (by kernel_rfl) (by kernel_rfl) (by kernel_rfl) (fun _ _ _ h => h) (Or.inl ⟨by rfl, fun w hSw => by obtain ⟨_, _, c1⟩ := hSw; first | (go_simp; done) | (go_simp; rfl)⟩) hS ?_
            try simp only [Act.put, List.setIfInBounds_toArray, List.set_cons_zero, List.set_cons_succ]
            refine wpAnyLast_ready (rs := [10]) (by kernel_rfl) (by simp) ?_
            refine AllReadyL.cons (o := Oper.mk _ _ _ _ _ _) rfl (by decide) (fun K hK => ?_) ?_
            · refine rg_call (by rfl) _ _ (.int .u64 (Go.bits .xor .u64 x y)) (by first | (go_simp; done) | (go_simp; rfl)) (bitmap_Xor_1.calls x y _) ?_
              intro W2 hb
              have B82 := B8'.below hb.out
              have CB2 := CB'.below hb.out
              have HB2 := HB'.step hb.out
              have R2 := R'.below hb.out
              have CY2 := pw_cell_below hb.out CY'.out
              refine hK.out _ _ ⟨B82, CB2.out _ PM.out.2.1, CY2⟩ (fun hS => ?_)
              clear hK K hb B8' CB' HB' R' CY'
              try simp only [Act.put, List.setIfInBounds_toArray, List.set_cons_zero, List.set_cons_succ]
              refine' wpAnyLast_take (i := 11) (oi := Oper.mk _ _ _ _ _ _) rfl (by kernel_rfl) (by kernel_rfl) (by kernel_rfl) (by kernel_rfl) (by kernel_rfl) (fun _ _ _ h => h) (Or.inl ⟨by rfl, ?hy12⟩) hS ?rest12
              case hy12 => (intro w hSw; (try dsimp only at hSw); first | (go_simp; done) | (go_simp; with_reducible rfl))
              try simp only [Act.put, List.setIfInBounds_toArray, List.set_cons_zero, List.set_cons_succ]
              refine wpAnyLast_ready (rs := [12]) (by kernel_rfl) (by simp) ?_
              refine AllReadyL.cons_last (o := Oper.mk _ _ _ _ _ _) rfl (by decide) (fun K hK => ?_) ?_
              · refine rg_store1 HB2 (by rfl) R2 GEr 64 _ _ rfl rfl _ rfl (by rw [xorA_size, ← HN.out.1]; exact HLT.out) (by kernel_rfl) rfl ?_
                intro w10 B10 HB10 K10
                have B83 := B82.other K10 (B82.ne R2 (by decide))
                have CB3 := CB2.other K10 (fun b m => (CB2.out b m).ne R2 (PL.out.2 b m))
                refine hK.out _ _ ?_
                clear hK K
                try simp only [Act.put, List.setIfInBounds_toArray, List.set_cons_zero, List.set_cons_succ]
                refine wpAnyLast_done (by kernel_rfl) ?_ _
                refine NoPanic.normal ?_
                go_wp2
                go_roundw
                case rel =>
                  refine ⟨k + 1, by go_num, ⟨by have := HLT.out; omega⟩, ⟨?_⟩, B83, ⟨CB3⟩, HB10⟩
                  rw [← xorA_set l1 l2 k (by rw [← HN.out.1]; exact HLT.out), ← HXY.out.1, ← HXY.out.2]
                  exact B10
                case measure => (simp [intOf]; have := HLT.out; omega)
              exact AllReadyL.nil
            exact AllReadyL.nil
          · obtain rfl : k = N := by have := HK.out; omega
            have P6 := CB.out.out _ PM.out.2.2
            have RR := Aside0.mk R.out
            clear hlt R
            go_wp2_with (first
              | ((with_reducible refine gate_dst (N := 54) rfl ?_); refine ev_loadS B8 rfl 38 _ rfl rfl Tryd.underlying38 rfl (by kernel_rfl) ?_)
              | ((with_reducible refine gate_ (Op.store 38 (.tmp 6) (.tmp 54)) rfl ?_); refine ev_store HB P6 GE_g6 rfl 38 _ _ rfl rfl rfl (by kernel_rfl) rfl (by simp [Value.oneCell']) ?_; intro w15 B15 HB15 K15))
            refine bodyPost_ret (results_cell_tmp rfl _ _ g6 38 _ _ _ rfl rfl B15 Tryd.underlying38 rfl (by kernel_rfl)) rfl ?_
            refine ⟨_, rfl, ?_, HB15.out⟩
            have h1 := RR.out.other K15 (RR.out.ne P6 (by decide))
            rw [HN.out.1, xorA_all] at h1
            rw [HN.out.1]
            refine row_shut GEr.out h1 (Nat.le_refl _) (by have := HNB.out; have := HN.out.1; unfold maxLen; omega) (by simp [xorL_length]) (by simp [xorL_length]) ⟨by exact List.take_length⟩
      exact AllReadyL.nil
    exact AllReadyL.nil
  refine AllReadyL.cons (o := Oper.mk _ _ _ _ _ _) rfl (by decide) (fun K hK => ?_) ?_
  · refine rg_alloc HB (by rfl) (#[.int .i64 0, .slice none 0 0]) 38 (by first | (go_simp; done) | (go_simp; rfl)) ?_
    intro g8 W' G80 GE8 B8 HBn hb
    have G8 := Aside0.mk (Nat.le_trans HZ.out G80.out)
    have CLn := CL.below hb.out
    have HZn := Aside0.mk (Nat.le_trans HZ.out hb.out.size)
    clear CL HZ HB
    have CL := CLn
    have HZ := HZn
    have HB := HBn
    clear CLn HZn HBn
    refine hK.out _ _ (CL.out _ PM.out.1) (fun hS => ?_)
    clear hK K hb G80
    try simp only [Act.put, List.setIfInBounds_toArray, List.set_cons_zero, List.set_cons_succ]
    refine wpAnyLast_ready (rs := [5]) (by kernel_rfl) (by simp) ?_
    refine AllReadyL.cons (o := Oper.mk _ _ _ _ _ _) rfl (by decide) (fun K hK => ?_) ?_
    · refine rg_makeN HB (by rfl) 36 64 (.int .u64 0) 8 N _ _ rfl rfl rfl Tryd.underlying36 (by kernel_rfl) rfl (by have := HNB.out; omega) (by have := HNB.out; omega) ?_
      intro gr W' Gr0 GEr BG HBn hb
      have Gr := Aside0.mk (Nat.le_trans HZ.out Gr0.out)
      have CLn := CL.below hb.out
      have HZn := Aside0.mk (Nat.le_trans HZ.out hb.out.size)
      have B8n := B8.below hb.out
      clear B8
      have B8 := B8n
      clear B8n
      clear CL HZ HB
      have CL := CLn
      have HZ := HZn
      have HB := HBn
      clear CLn HZn HBn
      refine hK.out _ _ (CL.out _ PM.out.1) (fun hS => ?_)
      clear hK K hb Gr0
      try simp only [Act.put, List.setIfInBounds_toArray, List.set_cons_zero, List.set_cons_succ]
      refine' wpAnyLast_take (i := 6) (oi := Oper.mk _ _ _ _ _ _) rfl (by kernel_rfl) (by kernel_rfl) (by kernel_rfl) (by kernel_rfl) (by kernel_rfl) (fun _ _ _ h => h) (Or.inl ⟨by rfl, ?hy13⟩) hS ?rest13
      case hy13 => (intro w hSw; (try dsimp only at hSw); first | (go_simp; done) | (go_simp; with_reducible rfl))
      try simp only [Act.put, List.setIfInBounds_toArray, List.set_cons_zero, List.set_cons_succ]
      refine wpAnyLast_ready (rs := [8]) (by kernel_rfl) (by simp) ?_
      refine AllReadyL.cons_last (o := Oper.mk _ _ _ _ _ _) rfl (by decide) (fun K hK => ?_) ?_
      · refine rg_store HB (by rfl) B8 GE8 38 _ _ rfl rfl rfl (by kernel_rfl) rfl (by simp [Value.oneCell']) ?_
        intro w9 B9 HB9 K9
        have CL9 := CL.other K9 (fun b m => by have := PL.out.1 b m; have := G8.out; omega)
        have BG9 := BG.other K9 (BG.ne B8 (by decide))
        refine hK.out _ _ ?_
        clear hK K
        try simp only [Act.put, List.setIfInBounds_toArray, List.set_cons_zero, List.set_cons_succ]
        refine wpAnyLast_done (by kernel_rfl) ?_ _
        refine NoPanic.normal ?_
        rw [show madeCells #[Value.int .u64 0] N = xorA l1 l2 0 by rw [HN.out.1]; exact xorA_zero l1 l2] at BG9
        have c31 := (CL9.out _ PM.out.1).cell (i := 1) rfl
        have HNB1 : (N : Int) ≤ 17592186044416 := by have := HNB.out; omega
        clear CL HB BG B8 K9 hS
        go_wp2
        go_loopw [36] (fun v36 wr => ∃ k : Nat, v36 = .int .i64 (k : Int) ∧ Aside0 (k ≤ N) ∧ Aside0 (Blk wr gr (xorA l1 l2 k) 64) ∧ Blk wr g8 #[.int .i64 n, .slice (some ⟨gr, 0, none⟩) N N] 38 ∧ Aside0 (Blks L wr) ∧ BelowH w wr) (fun v36 _ => N - (intOf v36).toNat)
        case atStart => exact ⟨0, rfl, ⟨Nat.zero_le _⟩, ⟨BG9⟩, B9, ⟨CL9⟩, HB9⟩
        case round =>
          clear BG9 B9 CL9 HB9 c31
          obtain ⟨k, rfl, HK, R, B8, CB, HB⟩ := hrel
          by_cases hlt : k < N
          · have HLT := Aside0.mk hlt
            have hq0 : (0 : Int) ≤ (k : Int) := by omega
            have hq1 : (k : Int) < (N : Int) := by omega
            have hq2 : (k : Int) < (N2 : Int) := by have := HN.out; have := HH.out.2.2.2.2.1; omega
            have hq6 : IntKind.i64.wrap (k : Int) = (k : Int) := by rw [i64_w]; unfold wrap64; omega
            have hq7 : IntKind.i64.wrap ((k : Int) + 1) = (k : Int) + 1 := by rw [i64_w]; unfold wrap64; omega
            obtain ⟨ad1, e1, cx⟩ := Kd.at_int (Kd.C_below HR1.out HB.out) (k : Int) hq0 (by have := HN.out.1; omega)
            obtain ⟨ad2, e2, cy0⟩ := Kd.at_int (Kd.C_below HR2.out HB.out) (k : Int) hq0 (by have := HN.out.2; omega)
            rw [show rd l1 (k : Int) = l1.getD k 0 by unfold rd; rw [Int.toNat_natCast]] at cx
            rw [show rd l2 (k : Int) = l2.getD k 0 by unfold rd; rw [Int.toNat_natCast]] at cy0
            rw [Int.toNat_natCast] at cx cy0
            obtain ⟨x, hx⟩ : ∃ x, x = l1.getD k 0 := ⟨_, rfl⟩
            obtain ⟨y, hy⟩ : ∃ y, y = l2.getD k 0 := ⟨_, rfl⟩
            rw [← hx] at cx
            rw [← hy] at cy0
            have HXY := Aside0.mk (And.intro hx hy)
            have CY := Aside0.mk cy0
            have E2 := Aside0.mk e2
            clear hx hy cy0
            have e1' := e1
            subst e1'
            clear e1
            go_upto_region 9 with (fail)
            have hbd : Aside0 (Below wr.heap.size wr wr.drew) := ⟨below_drew (Below.refl _ _)⟩
            have B8' := B8.below hbd.out
            have CB' := CB.out.below hbd.out
            have HB' := HB.step hbd.out
            have R' := R.out.below hbd.out
            have CY' := Aside0.mk (pw_cell_below hbd.out CY.out)
            have e2' := E2.out
            subst e2'
            clear cx B8 CB HB R hbd hlt
            refine wp_region_noPanic ?_
            refine wp_region_last_drew (S := fun W' => Blk W' g8 #[.int .i64 n, .slice (some ⟨gr, 0, none⟩) N N] 38 ∧ Blk W' g4 #[.int .i64 n, .slice (some ad2) N2 c2] 38 ∧ W'.cell? (ad2.add k) = some (.int .u64 y)) (ds := [12]) (by kernel_rfl) ⟨B8', CB'.out _ PM.out.2.1, CY'.out⟩ (fun hS => ?_)
            refine' wpAnyLast_take (i := 0) (oi := Oper.mk _ _ _ _ _ _) rfl (by kernel_rfl) (by kernel_rfl) (by kernel_rfl) (by kernel_rfl) (by kernel_rfl) (fun _ _ _ h => h) (Or.inl ⟨by rfl, ?hy14⟩) hS ?rest14
            case hy14 => (intro w hSw; (try dsimp only at hSw); first | (go_simp; done) | (go_simp; with_reducible rfl))
            try simp only [Act.put, List.setIfInBounds_toArray, List.set_cons_zero, List.set_cons_succ]
            refine wpAnyLast_take (i := 1) (oi := Oper.mk _ _ _ _ _ _) rfl (by kernel_rfl) (by kernel_rfl) (by kernel_rfl) (by kernel_rfl) (by kernel_rfl) (fun _ _ _ h => h) (rg_load1 (by rfl) (fun _ hS => hS.1.cell (i := 1) rfl) 36 _ rfl rfl (fun _ => by simp [isAgg, run_underlying Tryd.underlying36])) hS ?_
            try simp only [Act.put, List.setIfInBounds_toArray, List.set_cons_zero, List.set_cons_succ]
            refine' wpAnyLast_take (i := 2) (oi := Oper.mk _ _ _ _ _ _) rfl (by kernel_rfl) (by kernel_rfl) (by kernel_rfl) (by kernel_rfl) (by kernel_rfl) (fun _ _ _ h => h) (Or.inl ⟨by rfl, ?hy15⟩) hS ?rest15
            case hy15 => (intro w hSw; (try dsimp only at hSw); first | (go_simp; done) | (go_simp; with_reducible rfl))
            try simp only [Act.put, List.setIfInBounds_toArray, List.set_cons_zero, List.set_cons_succ]
            refine' wpAnyLast_take (i := 3) (oi := Oper.mk _ _ _ _ _ _) rfl (by kernel_rfl) (by kernel_rfl) (by kernel_rfl) (by kernel_rfl) (by kernel_rfl) (fun _ _ _ h => h) (Or.inl ⟨by rfl, ?hy16⟩) hS ?rest16
            case hy16 => (intro w hSw; (try dsimp only at hSw); first | (go_simp; done) | (go_simp; with_reducible rfl))
            try simp only [Act.put, List.setIfInBounds_toArray, List.set_cons_zero, List.set_cons_succ]
            refine' wpAnyLast_take (i := 4) (oi := Oper.mk _ _ _ _ _ _) rfl (by kernel_rfl) (by kernel_rfl) (by kernel_rfl) (by kernel_rfl) (by kernel_rfl) (fun _ _ _ h => h) (Or.inl ⟨by rfl, ?hy17⟩) hS ?rest17
            case hy17 => (intro w hSw; (try dsimp only at hSw); first | (go_simp; done) | (go_simp; with_reducible rfl))
            try simp only [Act.put, List.setIfInBounds_toArray, List.set_cons_zero, List.set_cons_succ]
            refine' wpAnyLast_take (i := 5) (oi := Oper.mk _ _ _ _ _ _) rfl (by kernel_rfl) (by kernel_rfl) (by kernel_rfl) (by kernel_rfl) (by kernel_rfl) (fun _ _ _ h => h) (Or.inl ⟨by rfl, ?hy18⟩) hS ?rest18
            case hy18 => (intro w hSw; (try dsimp only at hSw); first | (go_simp; done) | (go_simp; with_reducible rfl))
            try simp only [Act.put, List.setIfInBounds_toArray, List.set_cons_zero, List.set_cons_succ]
            refine wpAnyLast_take (i := 6) (oi := Oper.mk _ _ _ _ _ _) rfl (by kernel_rfl) (by kernel_rfl) (by kernel_rfl) (by kernel_rfl) (by kernel_rfl) (fun _ _ _ h => h) (rg_load1 (by rfl) (fun _ hS => hS.2.1.cell (i := 1) rfl) 36 _ rfl rfl (fun _ => by simp [isAgg, run_underlying Tryd.underlying36])) hS ?_
            try simp only [Act.put, List.setIfInBounds_toArray, List.set_cons_zero, List.set_cons_succ]
            refine' wpAnyLast_take (i := 7) (oi := Oper.mk _ _ _ _ _ _) rfl (by kernel_rfl) (by kernel_rfl) (by kernel_rfl) (by kernel_rfl) (by kernel_rfl) (fun _ _ _ h => h) (Or.inl ⟨by rfl, ?hy19⟩) hS ?rest19
            case hy19 => (intro w hSw; (try dsimp only at hSw); first | (go_simp; done) | (go_simp; with_reducible rfl))
            try simp only [Act.put, List.setIfInBounds_toArray, List.set_cons_zero, List.set_cons_succ]
            refine' wpAnyLast_take (i := 8) (oi := Oper.mk _ _ _ _ _ _) rfl (by kernel_rfl) (by kernel_rfl) (by kernel_rfl) (by kernel_rfl) (by kernel_rfl) (fun _ _ _ h => h) (Or.inl ⟨by rfl, ?hy20⟩) hS ?rest20
            case hy20 => (intro w hSw; (try dsimp only at hSw); first | (go_simp; done) | (go_simp; with_reducible rfl))
            try simp only [Act.put, List.setIfInBounds_toArray, List.set_cons_zero, List.set_cons_succ]
            refine wpAnyLast_take (i := 9) (oi := Oper.mk _ _ _ _ _ _) rfl (by kernel_rfl) (by kernel_rfl) (by kernel_rfl) (by kernel_rfl) (by kernel_rfl) (fun _ _ _ h => h) (Or.inl ⟨by rfl, fun w hSw => by obtain ⟨_, _, c1⟩ := hSw; first | (go_simp; done) | (go_simp; rfl)⟩) hS ?_
            try simp only [Act.put, List.setIfInBounds_toArray, List.set_cons_zero, List.set_cons_succ]
            refine wpAnyLast_ready (rs := [10]) (by kernel_rfl) (by simp) ?_
            refine AllReadyL.cons (o := Oper.mk _ _ _ _ _ _) rfl (by decide) (fun K hK => ?_) ?_
            · refine rg_call (by rfl) _ _ (.int .u64 (Go.bits .xor .u64 x y)) (by first | (go_simp; done) | (go_simp; rfl)) (bitmap_Xor_1.calls x y _) ?_
              intro W2 hb
              have B82 := B8'.below hb.out
              have CB2 := CB'.below hb.out
              have HB2 := HB'.step hb.out
              have R2 := R'.below hb.out
              have CY2 := pw_cell_below hb.out CY'.out
              refine hK.out _ _ ⟨B82, CB2.out _ PM.out.2.1, CY2⟩ (fun hS => ?_)
              clear hK K hb B8' CB' HB' R' CY'
              try simp only [Act.put, List.setIfInBounds_toArray, List.set_cons_zero, List.set_cons_succ]
              refine' wpAnyLast_take (i := 11) (oi := Oper.mk _ _ _ _ _ _) rfl (by kernel_rfl) (by kernel_rfl) (by kernel_rfl) (by kernel_rfl) (by kernel_rfl) (fun _ _ _ h => h) (Or.inl ⟨by rfl, ?hy21⟩) hS ?rest21
              case hy21 => (intro w hSw; (try dsimp only at hSw); first | (go_simp; done) | (go_simp; with_reducible rfl))
              try simp only [Act.put, List.setIfInBounds_toArray, List.set_cons_zero, List.set_cons_succ]
              refine wpAnyLast_ready (rs := [12]) (by kernel_rfl) (by simp) ?_
              refine AllReadyL.cons_last (o := Oper.mk _ _ _ _ _ _) rfl (by decide) (fun K hK => ?_) ?_
              · refine rg_store1 HB2 (by rfl) R2 GEr 64 _ _ rfl rfl _ rfl (by rw [xorA_size, ← HN.out.1]; exact HLT.out) (by kernel_rfl) rfl ?_
                intro w10 B10 HB10 K10
                have B83 := B82.other K10 (B82.ne R2 (by decide))
                have CB3 := CB2.other K10 (fun b m => (CB2.out b m).ne R2 (PL.out.2 b m))
                refine hK.out _ _ ?_
                clear hK K
                try simp only [Act.put, List.setIfInBounds_toArray, List.set_cons_zero, List.set_cons_succ]
                refine wpAnyLast_done (by kernel_rfl) ?_ _
                refine NoPanic.normal ?_
                go_wp2
                go_roundw
                case rel =>
                  refine ⟨k + 1, by go_num, ⟨by have := HLT.out; omega⟩, ⟨?_⟩, B83, ⟨CB3⟩, HB10⟩
                  rw [← xorA_set l1 l2 k (by rw [← HN.out.1]; exact HLT.out), ← HXY.out.1, ← HXY.out.2]
                  exact B10
                case measure => (simp [intOf]; have := HLT.out; omega)
              exact AllReadyL.nil
            exact AllReadyL.nil
          · obtain rfl : k = N := by have := HK.out; omega
            have P6 := CB.out.out _ PM.out.2.2
            have RR := Aside0.mk R.out
            clear hlt R
            go_wp2_with (first
              | ((with_reducible refine gate_dst (N := 54) rfl ?_); refine ev_loadS B8 rfl 38 _ rfl rfl Tryd.underlying38 rfl (by kernel_rfl) ?_)
              | ((with_reducible refine gate_ (Op.store 38 (.tmp 6) (.tmp 54)) rfl ?_); refine ev_store HB P6 GE_g6 rfl 38 _ _ rfl rfl rfl (by kernel_rfl) rfl (by simp [Value.oneCell']) ?_; intro w15 B15 HB15 K15))
            refine bodyPost_ret (results_cell_tmp rfl _ _ g6 38 _ _ _ rfl rfl B15 Tryd.underlying38 rfl (by kernel_rfl)) rfl ?_
            refine ⟨_, rfl, ?_, HB15.out⟩
            have h1 := RR.out.other K15 (RR.out.ne P6 (by decide))
            rw [HN.out.1, xorA_all] at h1
            rw [HN.out.1]
            refine row_shut GEr.out h1 (Nat.le_refl _) (by have := HNB.out; have := HN.out.1; unfold maxLen; omega) (by simp [xorL_length]) (by simp [xorL_length]) ⟨by exact List.take_length⟩
      exact AllReadyL.nil
    exact AllReadyL.nil
  exact AllReadyL.nil
end


/-! ### bitmap_Xor: function 74 -/
section
open Go.Proofs.YtadcgjmhhodnoaaDoorM
def bitmap_Xor.f (a0 : Int) (l0 : List Int) (a1 : Int) (l1 : List Int) : Option (Int × List Int × Int) := if bitmap_Formed.f a0 l0 = some true ∧ bitmap_Formed.f a1 l1 = some true ∧ a0 = a1 ∧ l1.length = l0.length ∧ l0.length ≤ 17592186044416 then some (a0, xorL l0 l1, 0) else none
set_option maxHeartbeats 1000000 in
theorem bitmap_Xor.calls (n1 : Int) (A1 : Option Addr) (c1 : Nat) (l1 : List Int) (n2 : Int) (A2 : Option Addr) (c2 : Nat) (l2 : List Int) (r1 : Int) (r2 : List Int) (r3 : Int) (w : World) (hr1 : Kd.C (Kd.int .u64) w A1 l1.length l1) (hc1 : l1.length ≤ c1) (hr2 : Kd.C (Kd.int .u64) w A2 l2.length l2) (hc2 : l2.length ≤ c2)
    (h : bitmap_Xor.f n1 l1 n2 l2 = some (r1, r2, r3)) :
    Calls Tryd.prog 74 #[.agg #[.int .i64 n1, .slice A1 l1.length c1], .agg #[.int .i64 n2, .slice A2 l2.length c2]] w fun e w' =>
      ∃ v1 : Value, e = .returned (.tuple #[.agg #[.int .i64 r1, v1], .int .i64 r3]) ∧ Kd.R (Kd.int .u64) 64 w' w.heap.size (fun _ => True) v1 r2 ∧ Below w.heap.size w w' := by
  unfold bitmap_Xor.f at h
  by_cases hs : bitmap_Formed.f n1 l1 = some true ∧ bitmap_Formed.f n2 l2 = some true ∧ n1 = n2 ∧ l2.length = l1.length ∧ l1.length ≤ 17592186044416
  case neg => rw [if_neg hs] at h; cases h
  rw [if_pos hs] at h
  simp only [Option.some.injEq, Prod.mk.injEq] at h
  obtain ⟨rfl, rfl, rfl⟩ := h
  obtain ⟨hF1, hF2, rfl, hl, hm⟩ := hs
  have HB := BelowH.refl w
  have BO : Aside0 (∀ W, Below w.heap.size w W → Calls Tryd.prog 92 #[.agg #[.int .i64 n1, .slice A1 l1.length c1], .agg #[.int .i64 n1, .slice A2 l2.length c2], .func (.func 93) #[] #[]] W fun e w' =>
      ∃ v, e = .returned (.tuple #[.agg #[.int .i64 n1, v], .int .i64 0]) ∧ w'.ownsRow W.heap.size 64 1 v l1.length ((xorL l1 l2).map (Value.int .u64)) ∧ Below W.heap.size W w') := ⟨fun W h => bitmap_both.xor n1 A1 c1 l1 A2 c2 l2 W (Kd.C_below hr1 h) hc1 (Kd.C_below hr2 h) hc2 hF1 hF2 hl hm⟩
  obtain ⟨N, hN⟩ : ∃ N, N = l1.length := ⟨_, rfl⟩
  obtain ⟨N2, hN2⟩ : ∃ N, N = l2.length := ⟨_, rfl⟩
  rw [← hN, ← hN2]
  rw [← hN, ← hN2] at BO
  have HN := Aside0.mk hN
  clear hr1 hr2 hc1 hc2 hF1 hF2 hl hm hN hN2
  go_enter Tryd.func74, Tryd.ntmps74
  go_wp2_with (first
    | ((with_reducible refine gate_dst (N := 2) rfl ?_); refine ev_alloc HB rfl (#[.int .i64 n1, .slice A1 N c1]) 38 ?hr ?_; (case hr => first | (go_simp; done) | (go_simp; rfl)); intro g2 w2 G_g2 GE_g2 B_g2 HBn K_g2; clear HB; have HB := HBn; clear HBn)
    | ((with_reducible refine gate_dst (N := 3) rfl ?_); refine ev_alloc HB rfl (#[.int .i64 n1, .slice A2 N2 c2]) 38 ?hr ?_; (case hr => first | (go_simp; done) | (go_simp; rfl)); intro g3 w3 G_g3 GE_g3 B_g3 HBn K_g3; clear HB; have HB := HBn; clear HBn)
    | ((with_reducible refine gate_dst (N := 4) rfl ?_); refine ev_alloc HB rfl (#[.int .i64 0, .slice none 0 0]) 38 ?hr ?_; (case hr => first | (go_simp; done) | (go_simp; rfl)); intro g4 w4 G_g4 GE_g4 B_g4 HBn K_g4; clear HB; have HB := HBn; clear HBn)
    | ((with_reducible refine gate_dst (N := 6) rfl ?_); refine ev_loadS ((B_g2.below K_g3.out).below K_g4.out) rfl 38 _ rfl rfl Tryd.underlying38 rfl (by kernel_rfl) ?_)
    | ((with_reducible refine gate_dst (N := 7) rfl ?_); refine ev_loadS (B_g3.below K_g4.out) rfl 38 _ rfl rfl Tryd.underlying38 rfl (by kernel_rfl) ?_)
    | (go_at_call 92; refine (BO.out _ HB.out).mono ?_; rintro e w5 ⟨v, rfl, hrow, hb5⟩; have HROW := Aside0.mk hrow; have V1 := Aside0.mk (row_one hrow); have D4 := B_g4.below hb5; have HLE := Aside0.mk HB.le; have HBn := HB.step hb5; clear HB hb5 hrow; have HB := HBn; clear HBn)
    | ((with_reducible refine gate_ (Op.store 38 (.tmp 4) (.tmp 9)) rfl ?_); refine ev_store HB D4 GE_g4 rfl 38 _ _ rfl rfl rfl (by kernel_rfl) rfl (by simp [Value.oneCell']; exact V1.out) ?_; intro w6 B6 HB6 K6))
  refine bodyPost_ret (results_cell_tmp rfl _ _ g4 38 _ _ _ rfl rfl B6 Tryd.underlying38 rfl (by kernel_rfl)) rfl ?_
  refine ⟨v, rfl, ?_, HB6.out⟩
  refine Kd.R_of_own ?_ (fun _ _ => trivial)
  rw [xorL_length, ← HN.out]
  exact row_other (row_mono HROW.out HLE.out) D4 (by decide) K6
end


/-! ### bitmap_Prefix: function 40 -/
section
open Go.Proofs.YtadcgjmhhodnoaaDoorQ Go.Proofs.YtadcgjmhhodnoaaDoorM
namespace PfF
theorem size_eqP (n : Nat) (h : n ≤ 281474976710656) : bitmap_size.f (n : Int) = some ((nwords n : Nat) : Int) := by
  unfold bitmap_size.f
  have e1 : Int.tmod (n : Int) 64 = ((n % 64 : Nat) : Int) := rfl
  have e2 : Int.tdiv (n : Int) 64 = ((n / 64 : Nat) : Int) := rfl
  have e3 : wrap64 ((n / 64 : Nat) : Int) = ((n / 64 : Nat) : Int) := by unfold wrap64; omega
  rw [e1, e2, e3]
  have e4 : wrap64 (((n / 64 : Nat) : Int) + 1) = ((n / 64 : Nat) : Int) + 1 := by unfold wrap64; omega
  rw [e4]
  unfold nwords
  by_cases h : n % 64 = 0
  · rw [if_pos (by omega)]; congr 1; omega
  · rw [if_neg (by omega)]; congr 1; omega
/-- The bits that the last word of a row may have. -/
def tailWP (n : Nat) : BitVec 64 := if n % 64 = 0 then 18446744073709551615#64 else BitVec.ofNat 64 (2 ^ (n % 64) - 1)
theorem shl_oneP (m : Nat) (h : m < 64) : shl .u64 1 (m : Int) = ((2 ^ m : Nat) : Int) := by
  have : ∀ m : Fin 64, shl .u64 1 ((m.val : Nat) : Int) = ((2 ^ m.val : Nat) : Int) := by decide
  exact this ⟨m, h⟩
theorem tail_eqP (n : Nat) : bitmap_tail.f (n : Int) = some (iv (tailWP n)) := by
  unfold bitmap_tail.f tailWP
  have e1 : Int.tmod (n : Int) 64 = ((n % 64 : Nat) : Int) := rfl
  rw [e1]
  by_cases h : n % 64 = 0
  · rw [if_pos (by omega), if_pos h]; rfl
  · rw [if_neg (by omega), if_neg h, if_pos (by omega), shl_oneP _ (by omega)]
    have hp : 0 < 2 ^ (n % 64) := Nat.pow_pos (by decide)
    have hq : 2 ^ (n % 64) < 2 ^ 64 := Nat.pow_lt_pow_right (by decide) (by omega)
    have : ((2 ^ (n % 64) : Nat) : Int) - 1 = ((2 ^ (n % 64) - 1 : Nat) : Int) := by omega
    rw [this, wrap_nat]
    unfold iv
    rw [BitVec.toNat_ofNat]
theorem rd_wordsP (n : Nat) (p : Nat → Bool) (k : Nat) (h : k < nwords n) : rd (wordsOf n p) (k : Int) = iv (wordAt n p k) := by
  unfold rd
  rw [Int.toNat_natCast]
  exact wordsOf_get n p k h
/-- What is told of a row of bits is well formed. -/
theorem formed_eqP (n : Nat) (p : Nat → Bool) (h : n ≤ 281474976710656) : bitmap_Formed.f (n : Int) (wordsOf n p) = some true := by
  unfold bitmap_Formed.f
  rw [if_neg (by omega), size_eqP n h, Option.bind_some, wordsOf_length, if_pos rfl]
  by_cases h0 : n = 0
  · rw [if_pos (by omega)]
  · have hw : 0 < nwords n := by unfold nwords; omega
    have hb : nwords n ≤ 281474976710656 := by unfold nwords; omega
    have e : wrap64 (((nwords n : Nat) : Int) - 1) = ((nwords n - 1 : Nat) : Int) := by unfold wrap64; omega
    rw [if_neg (by omega), e, if_pos (by omega), if_pos (by omega), tail_eqP, Option.bind_some, rd_wordsP n p _ (by omega), bits_andNot]
    have hz : wordAt n p (nwords n - 1) &&& ~~~tailWP n = 0#64 := by
      refine BitVec.eq_of_getLsbD_eq fun i hi => ?_
      rw [BitVec.getLsbD_and, BitVec.getLsbD_not]
      unfold wordAt
      rw [word_bit]
      unfold tailWP
      have hn : nwords n = (n + 63) / 64 := rfl
      by_cases g : n % 64 = 0
      · rw [if_pos g]
        have : (18446744073709551615#64).getLsbD i = true := by
          have : ∀ i : Fin 64, (18446744073709551615#64).getLsbD i.val = true := by decide
          exact this ⟨i, hi⟩
        rw [this]; simp
      · rw [if_neg g, BitVec.getLsbD_ofNat, Nat.testBit_two_pow_sub_one]
        by_cases g2 : i < n % 64
        · simp [g2, hi]
        · have : ¬ (64 * (nwords n - 1) + i < n) := by omega
          simp [this]
    rw [hz]
    rfl
end PfF
set_option maxHeartbeats 4000000 in
set_option maxRecDepth 100000 in
theorem bitmap_Prefix.walk (n : Nat) (hn : n ≤ 281474976702464) (q : Nat → Bool) (A : Option Addr) (cap : Nat) (w : World) (hC : Kd.C (Kd.int .u64) w A (wordsOf n q).length (wordsOf n q)) (hcap : (wordsOf n q).length ≤ cap) :
    Calls Tryd.prog 40 #[.agg #[.int .i64 (n : Int), .slice A (wordsOf n q).length cap]] w fun e w' =>
      ∃ v, e = .returned (.tuple #[.agg #[.int .i64 (n : Int), v], .int .i64 0]) ∧ w'.ownsRow w.heap.size 64 1 v (nwords n) ((wordsOf n (insq q)).map (Value.int .u64)) ∧ Below w.heap.size w w' := by
  have HB := BelowH.refl w
  have HC := Aside0.mk hC
  have XO : Aside0 (∀ W, Below w.heap.size w W → Calls Tryd.prog 74 #[.agg #[.int .i64 (n : Int), .slice A (wordsOf n q).length cap], .agg #[.int .i64 (n : Int), .slice A (wordsOf n q).length cap]] W fun e w' =>
      ∃ v1 : Value, e = .returned (.tuple #[.agg #[.int .i64 (n : Int), v1], .int .i64 0]) ∧ Kd.R (Kd.int .u64) 64 w' W.heap.size (fun _ => True) v1 (preL n q 0) ∧ Below W.heap.size W w') := ⟨fun W h => by
    have hF := PfF.formed_eqP n q (by omega)
    have hl : (wordsOf n q).length ≤ 17592186044416 := by rw [wordsOf_length]; unfold nwords; omega
    refine bitmap_Xor.calls (n : Int) A cap (wordsOf n q) (n : Int) A cap (wordsOf n q) (n : Int) (preL n q 0) 0 W (Kd.C_below hC h) hcap (Kd.C_below hC h) hcap ?_
    unfold bitmap_Xor.f xorL
    rw [if_pos ⟨hF, hF, rfl, rfl, hl⟩, preL_zero]⟩
  obtain ⟨nw, hnw⟩ : ∃ nw, nw = nwords n := ⟨_, rfl⟩
  have hlen : (wordsOf n q).length = nw := by rw [wordsOf_length, hnw]
  rw [hlen] at XO ⊢
  rw [hlen] at HC
  have HNW := Aside0.mk hnw
  have hnb : (nw : Int) ≤ 4398046511104 := by rw [hnw]; unfold nwords; omega
  have HN := Aside0.mk hn
  rw [← hnw]
  clear hC hcap hlen hnw hn
  go_enter Tryd.func40, Tryd.ntmps40
  go_upto_region 4 with (first
    | ((with_reducible refine gate_dst (N := 1) rfl ?_); refine ev_alloc HB rfl (#[.int .i64 (n : Int), .slice A nw cap]) 38 ?hr ?_; (case hr => first | (go_simp; done) | (go_simp; rfl)); intro g1 w1 G_g1 GE_g1 B_g1 HBn K_g1; clear HB; have HB := HBn; clear HBn)
    | ((with_reducible refine gate_dst (N := 2) rfl ?_); refine ev_alloc HB rfl (#[.int .i64 0, .slice none 0 0]) 38 ?hr ?_; (case hr => first | (go_simp; done) | (go_simp; rfl)); intro g2 w2 G_g2 GE_g2 B_g2 HBn K_g2; clear HB; have HB := HBn; clear HBn)
    | ((with_reducible refine gate_dst (N := 10) rfl ?_); refine ev_loadS (B_g1.below K_g2.out) rfl 38 _ rfl rfl Tryd.underlying38 rfl (by kernel_rfl) ?_)
    | ((with_reducible refine gate_dst (N := 11) rfl ?_); refine ev_loadS (B_g1.below K_g2.out) rfl 38 _ rfl rfl Tryd.underlying38 rfl (by kernel_rfl) ?_)
    | (go_at_call 74; refine (XO.out _ HB.out).mono ?_; rintro e w3 ⟨v, rfl, hR, hb3⟩; have HROW := Aside0.mk (show w3.ownsRow w.heap.size 64 1 v nw ((preL n q 0).map (Value.int .u64)) by have h9 := Kd.own_of_R (Kd.R_lower hR HB.le); rw [preL_length, ← HNW.out] at h9; exact h9); have D1 := (B_g1.below K_g2.out).below hb3; have D2 := B_g2.below hb3; have N12 := Aside0.mk (show g1 < g2 by have := B_g1.lt; have := G_g2.out; omega); have HBn := HB.step hb3; clear HB hb3 hR B_g1 B_g2 K_g1 K_g2 G_g1 G_g2; have HB := HBn; clear HBn)
    | ((with_reducible refine gate_dst (N := 4) rfl ?_); refine ev_alloc HB rfl (#[.int .i64 0, .slice none 0 0]) 38 ?hr ?_; (case hr => first | (go_simp; done) | (go_simp; rfl)); intro g4 w4 G_g4 GE_g4 B_g4 HBn K_g4; clear HB; have HB := HBn; clear HBn)
    | ((with_reducible refine gate_ (Op.store 38 (.tmp 4) (.tmp 13)) rfl ?_); refine ev_store HB B_g4 GE_g4 rfl 38 _ _ rfl rfl rfl (by kernel_rfl) rfl (by simp [Value.oneCell']; exact row_one HROW.out) ?_; intro w5 B5 HBn K_w5; clear HB; have HB := HBn; clear HBn))
  have N14 := Aside0.mk (show g1 < g4 ∧ g2 < g4 ∧ g1 < g2 by have := D1.lt; have := D2.lt; have := G_g4.out; have := N12.out; omega)
  have E1 := (D1.below K_g4.out).other K_w5 (Nat.ne_of_lt N14.out.1)
  have E2 := (D2.below K_g4.out).other K_w5 (Nat.ne_of_lt N14.out.2.1)
  have R5 := Aside0.mk (row_other (row_below HROW.out K_g4.out) B_g4 (by decide) K_w5)
  obtain ⟨ad, cp, rfl⟩ := own_slice R5.out
  have c11 := E1.cell (i := 1) rfl
  have CR0 : Aside0 ((0 : Int) = iv (openW (par (cutQ n q) (64 * 0)))) := ⟨openW_no.symm⟩
  clear D1 D2 B_g4 K_g4 K_w5 G_g4 HROW N12 GE_g1
  go_wp2
  go_loopw [6, 22] (fun v6 v22 wr => ∃ k : Nat, v6 = .int .u64 (iv (openW (par (cutQ n q) (64 * k)))) ∧ v22 = .int .i64 (k : Int) ∧ Aside0 (k ≤ nw) ∧ Aside0 (wr.ownsRow w.heap.size 64 1 (.slice ad nw cp) nw ((preL n q k).map (Value.int .u64))) ∧
      Blk wr g1 #[.int .i64 (n : Int), .slice A nw cap] 38 ∧ Blk wr g2 #[.int .i64 0, .slice none 0 0] 38 ∧ Blk wr g4 #[.int .i64 (n : Int), .slice ad nw cp] 38 ∧ BelowH w wr) (fun _ v22 _ => nw - (intOf v22).toNat)
  case atStart => exact ⟨0, congrArg (Value.int .u64) CR0.out, rfl, ⟨Nat.zero_le _⟩, R5, E1, E2, B5, HB⟩
  case round =>
    clear R5 E1 E2 B5 HB c11
    obtain ⟨k, rfl, rfl, HK, R, B1, B2, B4, HB⟩ := hrel
    by_cases hlt : k < nw
    · have HLT := Aside0.mk hlt
      obtain ⟨hrl, (⟨_, hn0⟩ | ⟨g, cap', cur, he, hbg, BG, hnc, hcm, hcs, HA⟩)⟩ := row_open R.out
      · omega
      injection he with he1 he2 he3
      subst he1
      subst he3
      clear he2
      have hq1 : (k : Int) < (nw : Int) := by omega
      have hq2 : (0 : Int) ≤ (k : Int) := by omega
      have hq6 : IntKind.i64.wrap (k : Int) = (k : Int) := by rw [i64_w]; unfold wrap64; omega
      have hq7 : wrap64 ((k : Int) + 1) = (k : Int) + 1 := by unfold wrap64; omega
      obtain ⟨ad1, e1, cx⟩ := Kd.at_int (Kd.C_below HC.out HB.out) (k : Int) hq2 hq1
      rw [show rd (wordsOf n q) (k : Int) = iv (wordAt n q k) by unfold rd; rw [Int.toNat_natCast]; exact wordsOf_get n q k (by rw [← HNW.out]; exact hlt), Int.toNat_natCast] at cx
      subst e1
      obtain ⟨x, hx⟩ : ∃ x, x = iv (wordAt n q k) := ⟨_, rfl⟩
      rw [← hx] at cx
      obtain ⟨p, hp⟩ : ∃ p, p = iv (word (px (fun i => cutQ n q (64 * k + i)) 64)) := ⟨_, rfl⟩
      obtain ⟨c, hc⟩ : ∃ c, c = iv (openW (par (cutQ n q) (64 * k))) := ⟨_, rfl⟩
      obtain ⟨y, hy⟩ : ∃ y, y = iv (word fun j => par (fun i => cutQ n q (64 * k + i)) (j + 1) ^^ par (cutQ n q) (64 * k)) := ⟨_, rfl⟩
      have HXR : Aside0 (Go.bits .xor .u64 p c = y) := ⟨by rw [hp, hc, hy]; exact in_word _ _⟩
      have PX : Aside0 (∀ W, Calls Tryd.prog 75 #[.int .u64 x] W fun e w' => e = .returned (.int .u64 p) ∧ Below W.heap.size W w') := ⟨fun W => by
        have h := words_Prefix.bits_ (fun i => cutQ n q (64 * k + i)) W
        rw [← wordAt_cut, ← hx, ← hp] at h
        refine h.mono ?_
        rintro e w' ⟨rfl, rfl⟩
        exact ⟨rfl, Below.refl _ _⟩⟩
      have HTW : Aside0 (IntKind.u64.wrap (-(y / 9223372036854775808)) = iv (openW (par (cutQ n q) (64 * (k + 1))))) := ⟨by
        rw [hy, turn_word]
        apply congrArg (fun b => iv (openW b))
        exact par_next n q k⟩
      have HY := Aside0.mk hy
      rw [← hc]
      have HNN := Aside0.mk (And.intro hrl (And.intro hbg (And.intro hnc (And.intro hcm hcs))))
      have HAA := Aside0.mk HA
      clear hx hp hc hy hrl hbg hnc hcm hcs HA R hlt
      go_upto_region 8 with (fail)
      have hbd : Aside0 (Below wr.heap.size wr wr.drew) := ⟨below_drew (Below.refl _ _)⟩
      have BG' := BG.below hbd.out
      have B1' := B1.below hbd.out
      have B2' := B2.below hbd.out
      have B4' := B4.below hbd.out
      have HB' := HB.step hbd.out
      clear cx BG B1 B2 B4 HB hbd
      refine wp_region_noPanic ?_
      refine wp_region_last_drew (S := fun W' => Blk W' g4 #[.int .i64 (n : Int), .slice (some ⟨g, 0, none⟩) nw cp] 38) (ds := [8]) (by kernel_rfl) B4' (fun hS => ?_)
      refine' wpAnyLast_take (i := 0) (oi := Oper.mk _ _ _ _ _ _) rfl (by kernel_rfl) (by kernel_rfl) (by kernel_rfl) (by kernel_rfl) (by kernel_rfl) (fun _ _ _ h => h) (Or.inl ⟨by rfl, ?hy1⟩) hS ?rest1
      case hy1 => (intro w hSw; (try dsimp only at hSw); first | (go_simp; done) | (go_simp; with_reducible rfl))
      try simp only [Act.put, List.setIfInBounds_toArray, List.set_cons_zero, List.set_cons_succ]
      refine wpAnyLast_take (i := 1) (oi := Oper.mk _ _ _ _ _ _) rfl (by kernel_rfl) (by kernel_rfl) (by kernel_rfl) (by kernel_rfl) (by kernel_rfl) (fun _ _ _ h => h) (rg_load1 (by rfl) (fun _ hS => hS.cell (i := 1) rfl) 36 _ rfl rfl (fun _ => by simp [isAgg, run_underlying Tryd.underlying36])) hS ?_
      try simp only [Act.put, List.setIfInBounds_toArray, List.set_cons_zero, List.set_cons_succ]
      refine' wpAnyLast_take (i := 2) (oi := Oper.mk _ _ _ _ _ _) rfl (by kernel_rfl) (by kernel_rfl) (by kernel_rfl) (by kernel_rfl) (by kernel_rfl) (fun _ _ _ h => h) (Or.inl ⟨by rfl, ?hy2⟩) hS ?rest2
      case hy2 => (intro w hSw; (try dsimp only at hSw); first | (go_simp; done) | (go_simp; with_reducible rfl))
      try simp only [Act.put, List.setIfInBounds_toArray, List.set_cons_zero, List.set_cons_succ]
      refine' wpAnyLast_take (i := 3) (oi := Oper.mk _ _ _ _ _ _) rfl (by kernel_rfl) (by kernel_rfl) (by kernel_rfl) (by kernel_rfl) (by kernel_rfl) (fun _ _ _ h => h) (Or.inl ⟨by rfl, ?hy3⟩) hS ?rest3
      case hy3 => (intro w hSw; (try dsimp only at hSw); first | (go_simp; done) | (go_simp; with_reducible rfl))
      try simp only [Act.put, List.setIfInBounds_toArray, List.set_cons_zero, List.set_cons_succ]
      refine' wpAnyLast_take (i := 5) (oi := Oper.mk _ _ _ _ _ _) rfl (by kernel_rfl) (by kernel_rfl) (by kernel_rfl) (by kernel_rfl) (by kernel_rfl) (fun _ _ _ h => h) (Or.inl ⟨by rfl, ?hy4⟩) hS ?rest4
      case hy4 => (intro w hSw; (try dsimp only at hSw); first | (go_simp; done) | (go_simp; with_reducible rfl))
      try simp only [Act.put, List.setIfInBounds_toArray, List.set_cons_zero, List.set_cons_succ]
      refine wpAnyLast_ready (rs := [4]) (by kernel_rfl) (by simp) ?_
      refine AllReadyL.cons (o := Oper.mk _ _ _ _ _ _) rfl (by decide) (fun K hK => ?_) ?_
      · refine rg_call (by rfl) _ _ (.int .u64 p) (by first | (go_simp; done) | (go_simp; rfl)) (PX.out _) ?_
        intro W' hb
        have B12 := B1'.below hb.out
        have B22 := B2'.below hb.out
        have B42 := B4'.below hb.out
        have BG2 := BG'.below hb.out
        have HB2 := HB'.step hb.out
        refine hK.out _ _ B42 (fun hS => ?_)
        clear hK K hb B1' B2' B4' BG' HB'
        try simp only [Act.put, List.setIfInBounds_toArray, List.set_cons_zero, List.set_cons_succ]
        refine' wpAnyLast_take (i := 6) (oi := Oper.mk _ _ _ _ _ _) rfl (by kernel_rfl) (by kernel_rfl) (by kernel_rfl) (by kernel_rfl) (by kernel_rfl) (fun _ _ _ h => h) (Or.inl ⟨by rfl, ?hy5⟩) hS ?rest5
        case hy5 => (intro w hSw; (try dsimp only at hSw); first | (go_simp; done) | (go_simp; with_reducible rfl))
        try simp only [Act.put, List.setIfInBounds_toArray, List.set_cons_zero, List.set_cons_succ]
        refine' wpAnyLast_take (i := 7) (oi := Oper.mk _ _ _ _ _ _) rfl (by kernel_rfl) (by kernel_rfl) (by kernel_rfl) (by kernel_rfl) (by kernel_rfl) (fun _ _ _ h => h) (Or.inl ⟨by rfl, ?hy6⟩) hS ?rest6
        case hy6 => (intro w hSw; (try dsimp only at hSw); first | (go_simp; done) | (go_simp; with_reducible rfl))
        try simp only [Act.put, List.setIfInBounds_toArray, List.set_cons_zero, List.set_cons_succ]
        refine wpAnyLast_ready (rs := [8]) (by kernel_rfl) (by simp) ?_
        refine AllReadyL.cons_last (o := Oper.mk _ _ _ _ _ _) rfl (by decide) (fun K hK => ?_) ?_
        · refine rg_store1 HB2 (by rfl) BG2 (Aside0.mk HNN.out.2.1) 64 _ _ rfl rfl (.int .u64 (Go.bits .xor .u64 p c)) rfl (by have := HLT.out; have := HNN.out; omega) (by kernel_rfl) rfl ?_
          intro w3 B3 HB3 K3
          rw [HXR.out] at B3
          have B13 := B12.other K3 (B12.ne BG2 (by decide))
          have B23 := B22.other K3 (B22.ne BG2 (by decide))
          have B43 := B42.other K3 (B42.ne BG2 (by decide))
          refine hK.out _ _ ?_
          clear hK K
          try simp only [Act.put, List.setIfInBounds_toArray, List.set_cons_zero, List.set_cons_succ]
          refine wpAnyLast_done (by kernel_rfl) ?_ _
          refine NoPanic.normal ?_
          have c41 := B43.cell (i := 1) rfl
          have cy := B3.cell (i := k) (v := .int .u64 y) (by rw [Array.getElem?_setIfInBounds_self_of_lt]; have := HLT.out; have := HNN.out; omega)
          go_wp2
          go_roundw
          case rel =>
            refine ⟨k + 1, by rw [HTW.out], by go_num, ⟨by have := HLT.out; omega⟩, ⟨?_⟩, B13, B23, B43, HB3⟩
            obtain ⟨hrl, hbg, hnc, hcm, hcs⟩ := HNN.out
            refine row_shut hbg B3 hnc hcm (by rw [Array.size_setIfInBounds]; exact hcs) (by rw [List.length_map, preL_length, HNW.out]) ?_
            rw [← preL_step n q (by rw [← HNW.out]; exact HLT.out) HY.out, List.map_set]
            exact HAA.out.set _ _
          case measure => (simp [intOf]; have := HLT.out; omega)
        exact AllReadyL.nil
      exact AllReadyL.nil
    · obtain rfl : k = nw := by have := HK.out; omega
      have c40 := B4.cell (i := 0) rfl
      clear hlt
      by_cases h0 : 0 < n
      · have h1 : decide ((0 : Int) < (n : Int)) = true := decide_eq_true (by omega)
        have h2 : decide (0 < n) = true := decide_eq_true h0
        have H0 := Aside0.mk h0
        have hk0 : 0 < k := by have e1 := HNW.out; unfold nwords at e1; omega
        obtain ⟨hrl, (⟨_, hn0⟩ | ⟨g, cap', cur, he, hbg, BG, hnc, hcm, hcs, HA⟩)⟩ := row_open R.out
        · omega
        injection he with he1 he2 he3
        subst he1
        subst he3
        clear he2
        obtain ⟨m, hm⟩ : ∃ m : Nat, m = k - 1 := ⟨_, rfl⟩
        obtain ⟨x, hx⟩ : ∃ x, x = (preL n q k).getD m 0 := ⟨_, rfl⟩
        obtain ⟨t, ht⟩ : ∃ t, t = PfF.tailWP n := ⟨_, rfl⟩
        have hget : ((preL n q k).map (Value.int .u64))[m]? = some (.int .u64 x) := by
          have hl : m < (preL n q k).length := by rw [preL_length, ← HNW.out]; omega
          rw [hx, List.getElem?_map, List.getD_eq_getElem?_getD, List.getElem?_eq_getElem hl]
          rfl
        have TL : Aside0 (∀ W, Calls Tryd.prog 76 #[.int .i64 (n : Int)] W fun e w' => e = .returned (.int .u64 (iv t)) ∧ Below W.heap.size W w') := ⟨fun W => by
          have h := bitmap_tail.calls (n : Int) (iv t) W (by rw [ht]; exact PfF.tail_eqP n)
          refine h.mono ?_
          rintro e w' ⟨he, hd⟩
          exact ⟨he, hd.below⟩⟩
        have HG := Aside0.mk (HA.get hget)
        have HX := Aside0.mk hx
        have HM := Aside0.mk hm
        have HTT := Aside0.mk (ht.trans (PfF.tailWP.eq_1 n))
        have HMC := Aside0.mk (show m < cur.size by omega)
        have HNN := Aside0.mk (And.intro hrl (And.intro hbg (And.intro hnc (And.intro hcm hcs))))
        have HAA := Aside0.mk HA
        have hq1 : (m : Int) < (k : Int) := by omega
        have hq2 : (0 : Int) ≤ (m : Int) := by omega
        have hq3 : IntKind.i64.wrap (m : Int) = (m : Int) := by rw [i64_w]; unfold wrap64; omega
        have hq4 : wrap64 ((k : Int) - 1) = (m : Int) := by unfold wrap64; omega
        have hq5 : IntKind.i64.wrap ((k : Int) - 1) = (m : Int) := by rw [i64_w]; exact hq4
        have hbd : Aside0 (Below wr.heap.size wr wr.drew) := ⟨below_drew (Below.refl _ _)⟩
        have BG' := BG.below hbd.out
        have B2' := B2.below hbd.out
        have B4' := B4.below hbd.out
        have HB' := HB.step hbd.out
        clear h0 hk0 hrl hbg hnc hcm hcs HA hget hx hm ht R
        go_upto_region 12 with (fail)
        clear c40 BG B1 B2 B4 HB hbd h1 h2
        refine wp_region_noPanic ?_
        refine wp_region_last_drew (S := fun W' => Blk W' g4 #[.int .i64 (n : Int), .slice (some ⟨g, 0, none⟩) k cp] 38 ∧ Blk W' g cur 64) (ds := [13]) (by kernel_rfl) ⟨B4', BG'⟩ (fun hS => ?_)
        refine' wpAnyLast_take (i := 0) (oi := Oper.mk _ _ _ _ _ _) rfl (by kernel_rfl) (by kernel_rfl) (by kernel_rfl) (by kernel_rfl) (by kernel_rfl) (fun _ _ _ h => h) (Or.inl ⟨by rfl, ?hy7⟩) hS ?rest7
        case hy7 => (intro w hSw; (try dsimp only at hSw); first | (go_simp; done) | (go_simp; with_reducible rfl))
        try simp only [Act.put, List.setIfInBounds_toArray, List.set_cons_zero, List.set_cons_succ]
        refine wpAnyLast_take (i := 1) (oi := Oper.mk _ _ _ _ _ _) rfl (by kernel_rfl) (by kernel_rfl) (by kernel_rfl) (by kernel_rfl) (by kernel_rfl) (fun _ _ _ h => h) (rg_load1 (by rfl) (fun _ hS => hS.1.cell (i := 1) rfl) 36 _ rfl rfl (fun _ => by simp [isAgg, run_underlying Tryd.underlying36])) hS ?_
        try simp only [Act.put, List.setIfInBounds_toArray, List.set_cons_zero, List.set_cons_succ]
        refine' wpAnyLast_take (i := 2) (oi := Oper.mk _ _ _ _ _ _) rfl (by kernel_rfl) (by kernel_rfl) (by kernel_rfl) (by kernel_rfl) (by kernel_rfl) (fun _ _ _ h => h) (Or.inl ⟨by rfl, ?hy8⟩) hS ?rest8
        case hy8 => (intro w hSw; (try dsimp only at hSw); first | (go_simp; done) | (go_simp; with_reducible rfl))
        try simp only [Act.put, List.setIfInBounds_toArray, List.set_cons_zero, List.set_cons_succ]
        refine wpAnyLast_take (i := 3) (oi := Oper.mk _ _ _ _ _ _) rfl (by kernel_rfl) (by kernel_rfl) (by kernel_rfl) (by kernel_rfl) (by kernel_rfl) (fun _ _ _ h => h) (rg_load1 (by rfl) (fun _ hS => hS.1.cell (i := 1) rfl) 36 _ rfl rfl (fun _ => by simp [isAgg, run_underlying Tryd.underlying36])) hS ?_
        try simp only [Act.put, List.setIfInBounds_toArray, List.set_cons_zero, List.set_cons_succ]
        refine' wpAnyLast_take (i := 4) (oi := Oper.mk _ _ _ _ _ _) rfl (by kernel_rfl) (by kernel_rfl) (by kernel_rfl) (by kernel_rfl) (by kernel_rfl) (fun _ _ _ h => h) (Or.inl ⟨by rfl, ?hy9⟩) hS ?rest9
        case hy9 => (intro w hSw; (try dsimp only at hSw); first | (go_simp; done) | (go_simp; with_reducible rfl))
        try simp only [Act.put, List.setIfInBounds_toArray, List.set_cons_zero, List.set_cons_succ]
        refine' wpAnyLast_take (i := 5) (oi := Oper.mk _ _ _ _ _ _) rfl (by kernel_rfl) (by kernel_rfl) (by kernel_rfl) (by kernel_rfl) (by kernel_rfl) (fun _ _ _ h => h) (Or.inl ⟨by rfl, ?hy10⟩) hS ?rest10
        case hy10 => (intro w hSw; (try dsimp only at hSw); first | (go_simp; done) | (go_simp; with_reducible rfl))
        try simp only [Act.put, List.setIfInBounds_toArray, List.set_cons_zero, List.set_cons_succ]
        refine' wpAnyLast_take (i := 6) (oi := Oper.mk _ _ _ _ _ _) rfl (by kernel_rfl) (by kernel_rfl) (by kernel_rfl) (by kernel_rfl) (by kernel_rfl) (fun _ _ _ h => h) (Or.inl ⟨by rfl, ?hy11⟩) hS ?rest11
        case hy11 => (intro w hSw; (try dsimp only at hSw); first | (go_simp; done) | (go_simp; with_reducible rfl))
        try simp only [Act.put, List.setIfInBounds_toArray, List.set_cons_zero, List.set_cons_succ]
        refine wpAnyLast_take (i := 7) (oi := Oper.mk _ _ _ _ _ _) rfl (by kernel_rfl) (by kernel_rfl) (by kernel_rfl) (by kernel_rfl) (by kernel_rfl) (fun _ _ _ h => h) (rg_load1 (by rfl) (fun _ hS => hS.2.cell HG.out) 64 _ rfl rfl (fun _ => by simp [isAgg, run_underlying Tryd.underlying64])) hS ?_
        try simp only [Act.put, List.setIfInBounds_toArray, List.set_cons_zero, List.set_cons_succ]
        refine' wpAnyLast_take (i := 8) (oi := Oper.mk _ _ _ _ _ _) rfl (by kernel_rfl) (by kernel_rfl) (by kernel_rfl) (by kernel_rfl) (by kernel_rfl) (fun _ _ _ h => h) (Or.inl ⟨by rfl, ?hy12⟩) hS ?rest12
        case hy12 => (intro w hSw; (try dsimp only at hSw); first | (go_simp; done) | (go_simp; with_reducible rfl))
        try simp only [Act.put, List.setIfInBounds_toArray, List.set_cons_zero, List.set_cons_succ]
        refine wpAnyLast_take (i := 9) (oi := Oper.mk _ _ _ _ _ _) rfl (by kernel_rfl) (by kernel_rfl) (by kernel_rfl) (by kernel_rfl) (by kernel_rfl) (fun _ _ _ h => h) (rg_load1 (by rfl) (fun _ hS => hS.1.cell (i := 0) rfl) 3 _ rfl rfl (fun _ => by simp [isAgg, run_underlying Tryd.underlying3])) hS ?_
        try simp only [Act.put, List.setIfInBounds_toArray, List.set_cons_zero, List.set_cons_succ]
        refine wpAnyLast_ready (rs := [10]) (by kernel_rfl) (by simp) ?_
        refine AllReadyL.cons (o := Oper.mk _ _ _ _ _ _) rfl (by decide) (fun K hK => ?_) ?_
        · refine rg_call (by rfl) _ _ (.int .u64 (iv t)) (by first | (go_simp; done) | (go_simp; rfl)) (TL.out _) ?_
          intro W' hb
          have B22 := B2'.below hb.out
          have B42 := B4'.below hb.out
          have BG2 := BG'.below hb.out
          have HB2 := HB'.step hb.out
          refine hK.out _ _ ⟨B42, BG2⟩ (fun hS => ?_)
          clear hK K hb B2' B4' BG' HB'
          try simp only [Act.put, List.setIfInBounds_toArray, List.set_cons_zero, List.set_cons_succ]
          refine' wpAnyLast_take (i := 11) (oi := Oper.mk _ _ _ _ _ _) rfl (by kernel_rfl) (by kernel_rfl) (by kernel_rfl) (by kernel_rfl) (by kernel_rfl) (fun _ _ _ h => h) (Or.inl ⟨by rfl, ?hy13⟩) hS ?rest13
          case hy13 => (intro w hSw; (try dsimp only at hSw); first | (go_simp; done) | (go_simp; with_reducible rfl))
          try simp only [Act.put, List.setIfInBounds_toArray, List.set_cons_zero, List.set_cons_succ]
          refine' wpAnyLast_take (i := 12) (oi := Oper.mk _ _ _ _ _ _) rfl (by kernel_rfl) (by kernel_rfl) (by kernel_rfl) (by kernel_rfl) (by kernel_rfl) (fun _ _ _ h => h) (Or.inl ⟨by rfl, ?hy14⟩) hS ?rest14
          case hy14 => (intro w hSw; (try dsimp only at hSw); first | (go_simp; done) | (go_simp; with_reducible rfl))
          try simp only [Act.put, List.setIfInBounds_toArray, List.set_cons_zero, List.set_cons_succ]
          refine wpAnyLast_ready (rs := [13]) (by kernel_rfl) (by simp) ?_
          refine AllReadyL.cons_last (o := Oper.mk _ _ _ _ _ _) rfl (by decide) (fun K hK => ?_) ?_
          · refine rg_store1 HB2 (by rfl) BG2 (Aside0.mk HNN.out.2.1) 64 _ _ rfl rfl (.int .u64 (Go.bits .and .u64 x (iv t))) rfl HMC.out (by kernel_rfl) rfl ?_
            intro w3 B3 HB3 K3
            have B23 := B22.other K3 (B22.ne BG2 (by decide))
            have B43 := B42.other K3 (B42.ne BG2 (by decide))
            refine hK.out _ _ ?_
            clear hK K
            try simp only [Act.put, List.setIfInBounds_toArray, List.set_cons_zero, List.set_cons_succ]
            refine wpAnyLast_done (by kernel_rfl) ?_ _
            refine NoPanic.normal ?_
            go_wp2_with (first
              | ((with_reducible refine gate_dst (N := 59) rfl ?_); refine ev_loadS B43 rfl 38 _ rfl rfl Tryd.underlying38 rfl (by kernel_rfl) ?_)
              | ((with_reducible refine gate_ (Op.store 38 (.tmp 2) (.tmp 59)) rfl ?_); refine ev_store HB3 B23 GE_g2 rfl 38 _ _ rfl rfl rfl (by kernel_rfl) rfl (by simp [Value.oneCell']) ?_; intro w5 B5 HB5 K5))
            refine bodyPost_ret (results_cell_tmp rfl _ _ g2 38 _ _ _ rfl rfl B5 Tryd.underlying38 rfl (by kernel_rfl)) rfl ?_
            refine ⟨_, rfl, ?_, HB5.out⟩
            obtain ⟨hrl, hbg, hnc, hcm, hcs⟩ := HNN.out
            refine row_other (row_shut hbg B3 hnc hcm (by rw [Array.size_setIfInBounds]; exact hcs) (by rw [List.length_map, wordsOf_length, HNW.out]) ?_) B23 (by decide) K5
            rw [← preL_last n q H0.out t (fun i hi => tail_bit n H0.out HTT.out i hi) (v := Go.bits .and .u64 x (iv t)) (by rw [HX.out, HM.out, HNW.out]), List.map_set, ← HNW.out, ← HM.out]
            exact HAA.out.set _ _
          exact AllReadyL.nil
        exact AllReadyL.nil
      · have h1 : decide ((0 : Int) < (n : Int)) = false := decide_eq_false (by omega)
        have h2 : decide (0 < n) = false := decide_eq_false h0
        obtain rfl : n = 0 := by omega
        have B23 := B2
        have B43 := B4
        have HB3 := HB
        have RR := Aside0.mk R.out
        clear B2 B4 HB R h0
        go_wp2_with (first
          | ((with_reducible refine gate_dst (N := 59) rfl ?_); refine ev_loadS B43 rfl 38 _ rfl rfl Tryd.underlying38 rfl (by kernel_rfl) ?_)
          | ((with_reducible refine gate_ (Op.store 38 (.tmp 2) (.tmp 59)) rfl ?_); refine ev_store HB3 B23 GE_g2 rfl 38 _ _ rfl rfl rfl (by kernel_rfl) rfl (by simp [Value.oneCell']) ?_; intro w5 B5 HB5 K5))
        refine bodyPost_ret (results_cell_tmp rfl _ _ g2 38 _ _ _ rfl rfl B5 Tryd.underlying38 rfl (by kernel_rfl)) rfl ?_
        refine ⟨_, rfl, ?_, HB5.out⟩
        have h := RR.out
        have e : wordsOf 0 (insq q) = preL 0 q k := by rw [HNW.out]; rfl
        rw [e]
        exact row_other h B23 (by decide) K5
def bitmap_Prefix.f (a0 : Int) (l : List Int) : Option (Int × List Int × Int) := if 0 ≤ a0 ∧ a0 ≤ 281474976702464 ∧ l = wordsOf a0.toNat (bitP l) then some (a0, wordsOf a0.toNat (insq (bitP l)), 0) else none
theorem bitmap_Prefix.calls (a0 : Int) (A : Option Addr) (c : Nat) (l : List Int) (r1 : Int) (r2 : List Int) (r3 : Int) (w : World) (hr : Kd.C (Kd.int .u64) w A l.length l) (hc : l.length ≤ c) (h : bitmap_Prefix.f a0 l = some (r1, r2, r3)) :
    Calls Tryd.prog 40 #[.agg #[.int .i64 a0, .slice A l.length c]] w fun e w' =>
      ∃ v1 : Value, e = .returned (.tuple #[.agg #[.int .i64 r1, v1], .int .i64 r3]) ∧ Kd.R (Kd.int .u64) 64 w' w.heap.size (fun _ => True) v1 r2 ∧ Below w.heap.size w w' := by
  unfold bitmap_Prefix.f at h
  by_cases hs : 0 ≤ a0 ∧ a0 ≤ 281474976702464 ∧ l = wordsOf a0.toNat (bitP l)
  case neg => rw [if_neg hs] at h; cases h
  rw [if_pos hs] at h
  simp only [Option.some.injEq, Prod.mk.injEq] at h
  obtain ⟨rfl, rfl, rfl⟩ := h
  obtain ⟨h0, h1, h2⟩ := hs
  obtain ⟨n, rfl⟩ : ∃ n : Nat, a0 = (n : Int) := ⟨a0.toNat, by omega⟩
  rw [Int.toNat_natCast] at h2 ⊢
  obtain ⟨q, hq⟩ : ∃ q, q = bitP l := ⟨_, rfl⟩
  rw [← hq] at h2 ⊢
  subst h2
  refine (bitmap_Prefix.walk n (by omega) q A c w hr hc).mono ?_
  rintro e w' ⟨v, rfl, hrow, hb⟩
  refine ⟨v, rfl, Kd.R_of_own ?_ (fun _ _ => trivial), hb⟩
  rw [wordsOf_length]
  exact hrow
end


end Go.Proofs.YtadcgjmhhodnoaaDoor.PC
