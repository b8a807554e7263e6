/- Parts of a claim (TB), packed by a program (pack.py) out of the texts that it names. -/
import Derived.Test.YtgddljealeklkaaDoorTB2
-- PLx5
section
namespace Go.Proofs.YtgddljealeklkaaDoor.PL
open Go.Proofs.YtgddljealeklkaaDoorM (TabOk)
open Go.RowKit Go.Proofs.YtgddljealeklkaaDoorW.PrintWords Go.Proofs.YtgddljealeklkaaDoorW.PrintLast Go.Proofs.YtgddljealeklkaaDoorW.PrintMore
attribute [local go_sem] max2_int min2_int max_two min_two max_three min_three max_four min_four   -- for this text's walks alone
set_option linter.unusedVariables false
set_option linter.unusedSimpArgs false

section
open Go.Proofs.YtgddljealeklkaaDoorQ Go.Proofs.YtgddljealeklkaaDoorM
def levels_Build.f (a0 : ByteArray) (a1 : Int) : Option (List S34 × List S34 × Int) :=
 if a1 < 1 ∨ 64 < a1 then some ([], [], 2) else if a0.size ≤ 1048576 then some (rowsB a0 58 a1.toNat a0.size, rowsB a0 44 a1.toNat a0.size, 0) else none
theorem rows_loop (n : Nat) (hn : n ≤ 1048576) (most : Nat) (hm : most ≤ 64) : ∀ (d i k : Nat), i + d = most → d < k →
  levels_rows.l0 k (n : Int) ((List.range i).map fun _ => (⟨(n : Int), List.replicate (nwords n) 0⟩ : S34)) (most : Int) (i : Int) = some ((List.range most).map fun _ => (⟨(n : Int), List.replicate (nwords n) 0⟩ : S34)) := by
 have e1 : wrap64 (Int.tdiv (wrap64 ((n : Int) + 63)) 64) = ((nwords n : Nat) : Int) := by
  have h1 : wrap64 ((n : Int) + 63) = ((n + 63 : Nat) : Int) := by unfold wrap64;omega
  rw [h1]
  have h2 : Int.tdiv ((n + 63 : Nat) : Int) 64 = (((n + 63) / 64 : Nat) : Int) := rfl
  rw [h2]
  unfold nwords wrap64
  omega
 have e2 : nwords n ≤ 1048576 := by unfold nwords;omega
 intro d
 induction d with
 | zero =>
  intro i k hi hk
  obtain ⟨k, rfl⟩ : ∃ j, k = j + 1 := ⟨k - 1, by omega⟩
  rw [Nat.add_zero] at hi
  subst hi
  rw [levels_rows.l0, if_neg (by omega)]
 | succ d ih =>
  intro i k hi hk
  obtain ⟨k, rfl⟩ : ∃ j, k = j + 1 := ⟨k - 1, by omega⟩
  have e3 : wrap64 ((i : Int) + 1) = ((i + 1 : Nat) : Int) := by unfold wrap64;omega
  have h := ih (i + 1) k (by omega) (by omega)
  rw [List.range_succ, List.map_append] at h
  rw [levels_rows.l0, e1, if_pos (by omega), if_pos (by omega), if_pos (by omega), if_pos (by rw [List.length_map, List.length_range];omega), e3, Int.toNat_natCast]
  exact h
theorem rows_f (s : ByteArray) (hs : s.size ≤ 1048576) (b : Int) (most : Nat) (hm : most ≤ 64) : levels_rows.f 66 (s.size : Int) (most : Int) = some (rowsB s b most (nextP s 0)) := by
 have h := rows_loop s.size hs most hm most 0 66 (by omega) (by omega)
 unfold levels_rows.f
 have e : rowsB s b most (nextP s 0) = (List.range most).map fun _ => (⟨(s.size : Int), List.replicate (nwords s.size) 0⟩ : S34) := by
  unfold rowsB
  exact List.map_congr_left fun k _ => by rw [colW_zero]
 rw [e]
 exact h
theorem S_away_store {W W' : World} {base g t : Nat} {ok : Nat → Prop} {v : Value} {rows : List S34} {cs : Array Value} (h : Kd.S k34 34 W base ok v rows) (B : Blk W g cs t) (ht : t = 48) (hk : W.heap.size ≤ W'.heap.size ∧ ∀ k, k ≠ g → W'.heap[k]? = W.heap[k]?) : Kd.S k34 34 W' base ok v rows := by
 subst ht
 have h1 := Kd.S_bound h
 refine Kd.S_mono (Kd.S_step h1 (fun k hk' _ => hk.2 k (fun e => ?_))) (fun _ hk' => hk'.1)
 subst e
 obtain ⟨_, _, _, q, hq, cells, hc⟩ := hk'
 rw [B.out] at hc
 injection hc with hc
 injection hc with _ hc
 subst hc
 revert hq
 decide
theorem results_cellT {P : Program} {fn : Func} {p q : Tmp} {ty : TypeId} (h : fn.results = #[.cell p ty, .tmp q]) (tmps : Array Value) (w : World) (g : Nat) (t : TypeId) (cs : Array Value) (v : Value) (d : TypeDesc)
  (hp : tmps.getD p undef = .pointer (some ⟨g, 0, none⟩)) (hq : tmps.getD q undef = v) (hg : Blk w g cs t)
  (hu : P.underlying ty = some d) (hd : (match d with | .struct _ | .array _ _ => true|_ => false) = true) (hi : (P.info? ty).map (·.size) = some cs.size) :
  (results fn tmps).run P w = .ok (.tuple #[.agg cs, v]) w := by
 have hp' : tmps[p]?.getD undef = .pointer (some ⟨g, 0, none⟩) := by simpa using hp
 have hq' : tmps[q]?.getD undef = v := by simpa using hq
 have h1 := run_loadVar_row (P := P) w g t ty cs (0, 0) d hg.out hu hd hi
 simp [results, h, hp', hq', asAddr, h1, Result.andThen]
set_option maxHeartbeats 8000000 in
set_option maxRecDepth 100000 in
theorem levels_Build.some_ (s : ByteArray) (hs : s.size ≤ 1048576) (most : Nat) (hm : 1 ≤ most ∧ most ≤ 64) (w : World) (hT : TabOk w) :
  Calls Tryd.prog 28 #[.string s, .int .i64 (most : Int)] w fun e w' => ∃ v0 v1 : Value, e = .returned (.tuple #[.agg #[v0, v1], .int .i64 0]) ∧ Kd.S k34 34 w' w.heap.size (fun k => some k ≠ v1.ownBlock) v0 (rowsB s 58 most s.size) ∧ Kd.S k34 34 w' w.heap.size (fun k => some k ≠ v0.ownBlock) v1 (rowsB s 44 most s.size) ∧ Below w.heap.size w w' := by
 have HB := BelowH.refl w
 have HT := zA hT
 have HS := zA hs
 have HM := zA hm
 have q1 : decide ((most : Int) < 1) = false := decide_eq_false (by omega)
 have q2 : decide ((64 : Int) < (most : Int)) = false := decide_eq_false (by omega)
 have q3 : (1 : Int) ≤ (most : Int) := by omega
 have q4 : (most : Int) ≤ 64 := by omega
 have RW : Aside0 (∀ (b : Int) (W : World), Calls Tryd.prog 63 #[.int .i64 (s.size : Int), .int .i64 (most : Int)] W fun e W' => ∃ v : Value, e = .returned v ∧ Kd.S k34 34 W' W.heap.size (fun _ => True) v (rowsB s b most (nextP s 0)) ∧ Below W.heap.size W W') := ⟨fun b W => levels_rows.calls 66 _ _ _ W (rows_f s hs b most hm.2)⟩
 have WK : Aside0 (∀ (g2 g3 g6 : Nat) (X : List Nat) (va vb : Value) (okA okB : Nat → Prop) (W : World), TabOk W → BelowH w W → (∀ k ∈ X, w.heap.size ≤ k ∧ k < W.heap.size) → BuI s most g3 g2 g6 va vb w.heap.size X okA okB (nextP s 0) W →
   Calls Tryd.prog 64 #[.string s, .func (.func 65) #[] #[.pointer (some ⟨g3, 0, none⟩), .pointer (some ⟨g2, 0, none⟩), .pointer (some ⟨g6, 0, none⟩)]] W fun e W' => (∃ d : Int, e = .returned (.int .i64 d)) ∧ BuI s most g3 g2 g6 va vb w.heap.size X okA okB s.size W' ∧ BelowH w W' ∧ Turned X W W') := ⟨fun g2 g3 g6 X va vb okA okB W hTW hBW hXX I => by
  have := levels_walk.walk s hs W hTW 65 #[.pointer (some ⟨g3, 0, none⟩), .pointer (some ⟨g2, 0, none⟩), .pointer (some ⟨g6, 0, none⟩)] X
   (fun i W' => BuI s most g3 g2 g6 va vb w.heap.size X okA okB (nextP s i) W') (fun _ _ _ => False)
   (enters_of Tryd.func65 (by kernel_rfl) rfl) (fun k hk => (hXX k hk).2) (fun W1 W2 h hb => h.below hb)
   (fun i p W1 hp hB hJ => (levels_Build_1.calls s hs most hm g3 g2 g6 va vb w.heap.size okA okB X i p hp W1 hJ).mono fun e W2 ⟨he, ht, hh⟩ => ⟨true, he, ht, fun _ => hh, fun h => by cases h⟩) I
  refine this.mono fun e W' ⟨d, he, ht, hh⟩ => ?_
  have hb : BelowH w W' := ⟨ht.below (fun k hk => (hXX k hk).1) hBW.le hBW.out⟩
  rcases hh with ⟨_, h1⟩ | ⟨_, _, _, _, h1⟩
  ·rw [next_end (Nat.le_refl _)] at h1
   exact ⟨⟨_, he⟩, h1, hb, ht⟩
  ·exact h1.elim⟩
 clear hT hs hm
 go_enter Tryd.func28, Tryd.ntmps28
 go_upto_region 3 with (first
  | ((with_reducible refine gate_dst (N := 2) rfl ?_);refine ev_alloc HB rfl (#[.string s]) 9 ?hr ?_;(case hr => first|(go_simp;done)|(go_simp;rfl));intro g2 w2 G_g2 GE_g2 B_g2 HBn K_g2;clear HB;have HB := HBn;clear HBn)
  | ((with_reducible refine gate_dst (N := 3) rfl ?_);refine ev_alloc HB rfl (#[.int .i64 (most : Int)]) 3 ?hr ?_;(case hr => first|(go_simp;done)|(go_simp;rfl));intro g3 w3 G_g3 GE_g3 B_g3 HBn K_g3;clear HB;have HB := HBn;clear HBn)
  | (((with_reducible refine gate_dst (N := 4) rfl ?_);refine ev_alloc HB rfl (#[.slice none 0 0, .slice none 0 0]) 48 ?hr ?_;(case hr => first|(go_simp;done)|(go_simp;rfl));intro g4 w4 G_g4 GE_g4 B_g4 HBn K_g4;clear HB;have HB := HBn;clear HBn);have c3 : w4.cell? ⟨g3, 0, none⟩ = some (.int .i64 (most : Int)) := (B_g3.below K_g4.out).cell (i := 0) rfl))
 have D2 := ((B_g2.below K_g3.out).below K_g4.out).drew
 have D3 := (B_g3.below K_g4.out).drew
 have D4 := B_g4.drew
 have HBn := HB.drew
 clear c3 B_g2 B_g3 B_g4 K_g2 K_g3 K_g4 HB G_g2 G_g3 G_g4 GE_g2 GE_g3
 have HB := HBn
 clear HBn
 refine wp_region_noPanic ?_
 refine wp_region_last_drew (S := fun W' => Blk W' g2 #[.string s] 9 ∧ Blk W' g3 #[.int .i64 (most : Int)] 3) (ds := [10]) (by kernel_rfl) ⟨D2, D3⟩ (fun hS => ?_)
 refine zM (i := 0) (oi := Oper.mk _ _ _ _ _ _) rfl (by kernel_rfl) (by kernel_rfl) (by kernel_rfl) (by kernel_rfl) (by kernel_rfl) (fun _ _ _ h => h) (rg_load1 (by rfl) (fun _ hS => hS.1.cell (i := 0) rfl) 9 _ rfl rfl (fun _ => by simp [isAgg, run_underlying Tryd.underlying9])) hS ?_
 try simp only [Act.put, zB, zC, zD]
 refine' zM (i := 1) (oi := Oper.mk _ _ _ _ _ _) rfl (by kernel_rfl) (by kernel_rfl) (by kernel_rfl) (by kernel_rfl) (by kernel_rfl) (fun _ _ _ h => h) (Or.inl ⟨by rfl, ?hy27⟩) hS ?rest27
 case hy27 => (intro w hSw;(try dsimp only at hSw);first|(go_simp;done)|(go_simp;with_reducible rfl))
 try simp only [Act.put, zB, zC, zD]
 refine zM (i := 2) (oi := Oper.mk _ _ _ _ _ _) rfl (by kernel_rfl) (by kernel_rfl) (by kernel_rfl) (by kernel_rfl) (by kernel_rfl) (fun _ _ _ h => h) (rg_load1 (by rfl) (fun _ hS => hS.2.cell (i := 0) rfl) 3 _ rfl rfl (fun _ => by simp [isAgg, run_underlying Tryd.underlying3])) hS ?_
 try simp only [Act.put, zB, zC, zD]
 refine zM (i := 4) (oi := Oper.mk _ _ _ _ _ _) rfl (by kernel_rfl) (by kernel_rfl) (by kernel_rfl) (by kernel_rfl) (by kernel_rfl) (fun _ _ _ h => h) (rg_load1 (by rfl) (fun _ hS => hS.1.cell (i := 0) rfl) 9 _ rfl rfl (fun _ => by simp [isAgg, run_underlying Tryd.underlying9])) hS ?_
 try simp only [Act.put, zB, zC, zD]
 refine' zM (i := 5) (oi := Oper.mk _ _ _ _ _ _) rfl (by kernel_rfl) (by kernel_rfl) (by kernel_rfl) (by kernel_rfl) (by kernel_rfl) (fun _ _ _ h => h) (Or.inl ⟨by rfl, ?hy28⟩) hS ?rest28
 case hy28 => (intro w hSw;(try dsimp only at hSw);first|(go_simp;done)|(go_simp;with_reducible rfl))
 try simp only [Act.put, zB, zC, zD]
 refine zM (i := 6) (oi := Oper.mk _ _ _ _ _ _) rfl (by kernel_rfl) (by kernel_rfl) (by kernel_rfl) (by kernel_rfl) (by kernel_rfl) (fun _ _ _ h => h) (rg_load1 (by rfl) (fun _ hS => hS.2.cell (i := 0) rfl) 3 _ rfl rfl (fun _ => by simp [isAgg, run_underlying Tryd.underlying3])) hS ?_
 try simp only [Act.put, zB, zC, zD]
 refine wpAnyLast_ready (rs := [3, 9]) (by kernel_rfl) (by simp) ?_
 refine AllReadyL.cons (o := Oper.mk _ _ _ _ _ _) rfl (by decide) (fun K hK => ?_) ?_
 ·refine call_ 63 #[.int .i64 (s.size : Int), .int .i64 (most : Int)] (by rfl) rfl (by first|(go_simp;done)|(go_simp;rfl)) ((RW.out 58 _).mono ?_)
  rintro e W' ⟨va, rfl, hS, hb'⟩
  obtain ⟨A1, c1, rfl⟩ := Kd.S_slice hS
  generalize (rowsB s 58 most (nextP s 0)).length = n1 at hS ⊢
  have hb := zA hb'
  have RAx := zA (Kd.S_lower hS HB.le)
  clear hS hb'
  have D2n := D2.below hb.out
  have D3n := D3.below hb.out
  have D4n := D4.below hb.out
  have HBn := HB.step hb.out
  clear D2 D3 D4 HB
  have D2 := D2n
  have D3 := D3n
  have D4 := D4n
  have HB := HBn
  clear D2n D3n D4n HBn
  have RA := RAx
  clear RAx
  refine ⟨_, rfl, ?_⟩
  refine hK.out _ _ ⟨D2, D3⟩ (fun hS => ?_)
  clear hK K hb
  try simp only [Act.put, zB, zC, zD]
  refine wpAnyLast_ready (rs := [7, 9]) (by kernel_rfl) (by simp) ?_
  refine AllReadyL.cons (o := Oper.mk _ _ _ _ _ _) rfl (by decide) (fun K hK => ?_) ?_
  ·have HN := HB.le
   refine call_ 63 #[.int .i64 (s.size : Int), .int .i64 (most : Int)] (by rfl) rfl (by first|(go_simp;done)|(go_simp;rfl)) ((RW.out 44 _).mono ?_)
   rintro e W' ⟨vb, rfl, hS, hb'⟩
   obtain ⟨A2, c2, rfl⟩ := Kd.S_slice hS
   generalize (rowsB s 44 most (nextP s 0)).length = n2 at hS ⊢
   have hb := zA hb'
   obtain ⟨N7, RAy, RBy⟩ : ∃ N7 : Nat, Aside0 (Kd.S k34 34 W' w.heap.size (fun k => k < N7) (.slice A1 n1 c1) (rowsB s 58 most (nextP s 0))) ∧ Aside0 (Kd.S k34 34 W' w.heap.size (fun k => N7 ≤ k) (.slice A2 n2 c2) (rowsB s 44 most (nextP s 0))) :=
    ⟨_, ⟨yy10 (Kd.S_mono (Kd.S_bound RA.out) (fun _ hk => hk.2.2.1)) hb.out⟩, ⟨Kd.S_lower (Kd.S_mono (Kd.S_bound hS) (fun _ hk => hk.2.1)) HN⟩⟩
   clear hS hb' HN
   have D2n := D2.below hb.out
   have D3n := D3.below hb.out
   have D4n := D4.below hb.out
   have HBn := HB.step hb.out
   clear D2 D3 D4 HB
   have D2 := D2n
   have D3 := D3n
   have D4 := D4n
   have HB := HBn
   clear D2n D3n D4n HBn
   clear RA
   have RA := RAy
   have RB := RBy
   clear RAy RBy
   refine ⟨_, rfl, ?_⟩
   refine hK.out _ _ ⟨D2, D3⟩ (fun hS => ?_)
   clear hK K hb
   try simp only [Act.put, zB, zC, zD]
   refine' zM (i := 8) (oi := Oper.mk _ _ _ _ _ _) rfl (by kernel_rfl) (by kernel_rfl) (by kernel_rfl) (by kernel_rfl) (by kernel_rfl) (fun _ _ _ h => h) (Or.inl ⟨by rfl, ?hy29⟩) hS ?rest29
   case hy29 => (intro w hSw;(try dsimp only at hSw);first|(go_simp;done)|(go_simp;with_reducible rfl))
   try simp only [Act.put, zB, zC, zD]
   refine wpAnyLast_ready (rs := [9]) (by kernel_rfl) (by simp) ?_
   refine AllReadyL.cons (o := Oper.mk _ _ _ _ _ _) rfl (by decide) (fun K hK => ?_) ?_
   ·refine rg_alloc HB (by rfl) #[.slice none 0 0, .slice none 0 0] 48 (by first|(go_simp;done)|(go_simp;rfl)) ?_
    intro g6 W' G6 GE6 D6x HBx hb
    clear HBx
    have N46 : Aside0 (g4 ≠ g6) := ⟨by have := D4.lt;have := G6.out;omega⟩
    have D2n := D2.below hb.out
    have D3n := D3.below hb.out
    have D4n := D4.below hb.out
    have HBn := HB.step hb.out
    have RAn := zA (yy10 RA.out hb.out)
    have RBn := zA (yy10 RB.out hb.out)
    clear D2 D3 D4 HB RA RB
    have D2 := D2n
    have D3 := D3n
    have D4 := D4n
    have HB := HBn
    clear D2n D3n D4n HBn
    have RA := RAn
    clear RAn
    have RB := RBn
    clear RBn
    have D6 := D6x
    clear D6x G6
    refine hK.out _ _ ⟨D2, D3⟩ (fun hS => ?_)
    clear hK K hb
    try simp only [Act.put, zB, zC, zD]
    refine wpAnyLast_ready (rs := [10]) (by kernel_rfl) (by simp) ?_
    refine AllReadyL.cons_last (o := Oper.mk _ _ _ _ _ _) rfl (by decide) (fun K hK => ?_) ?_
    ·refine rg_store HB (by rfl) D6 GE6 48 _ _ rfl rfl rfl (by kernel_rfl) rfl (by simp [Value.oneCell']) ?_
     intro W' B6 HBx K6
     have D2n := D2.other K6 (D2.ne D6 (by decide))
     have D3n := D3.other K6 (D3.ne D6 (by decide))
     have D4n := D4.other K6 N46.out
     have RAn := zA (S_away_store RA.out D6 rfl K6.out)
     have RBn := zA (S_away_store RB.out D6 rfl K6.out)
     clear D2 D3 D4 RA RB HB
     refine hK.out _ _ ?_
     clear hK K
     try simp only [Act.put, zB, zC, zD]
     refine wpAnyLast_done (by kernel_rfl) ?_ _
     refine NoPanic.normal ?_
     obtain ⟨X, hX⟩ : ∃ X : List Nat, X = (List.range' w.heap.size (W'.heap.size - w.heap.size)).filter fun k => decide (k ≠ g4) := ⟨_, rfl⟩
     have hmem : ∀ k, w.heap.size ≤ k → k < W'.heap.size → k ≠ g4 → k ∈ X := fun k h1 h2 h3 => by
      rw [hX]
      exact List.mem_filter.2 ⟨List.mem_range'_1.2 ⟨h1, by omega⟩, zz1 h3⟩
     have HXM : Aside0 (∀ k ∈ X, (w.heap.size ≤ k ∧ k < W'.heap.size) ∧ k ≠ g4) := ⟨fun k hk => by
      rw [hX] at hk
      obtain ⟨h1, h2⟩ := List.mem_filter.1 hk
      have h3 := List.mem_range'_1.1 h1
      exact ⟨⟨h3.1, by have := HBx.le;omega⟩, zE h2⟩⟩
     have RA4 := Kd.S_bound (Kd.S_types RAn.out D4n.out (by decide))
     have RB4 := Kd.S_bound (Kd.S_types RBn.out D4n.out (by decide))
     have I0 : Aside0 (BuI s most g3 g2 g6 (.slice A1 n1 c1) (.slice A2 n2 c2) w.heap.size X (fun k => k < N7 ∧ k ∈ X) (fun k => N7 ≤ k ∧ k ∈ X) (nextP s 0) W') :=
      ⟨⟨D3n, D2n, B6, Kd.S_mono RA4 (fun k hk => ⟨hk.1.1, hmem k hk.2.1 hk.2.2.1 hk.1.2⟩), Kd.S_mono RB4 (fun k hk => ⟨hk.1.1, hmem k hk.2.1 hk.2.2.1 hk.1.2⟩), fun k h1 h2 => absurd h1.1 (by have := h2.1;omega), fun k hk => hk.2, fun k hk => hk.2⟩⟩
     have HWK := zA (WK.out g2 g3 g6 X _ _ _ _ W' (HT.out.stepH HBx) HBx (fun k hk => (HXM.out k hk).1) I0.out)
     have c2 : W'.cell? ⟨g2, 0, none⟩ = some (.string s) := D2n.cell (i := 0) rfl
     have D4z := D4n
     have hx4 : Aside0 (g4 ∉ X) := ⟨fun h => (HXM.out g4 h).2 rfl⟩
     clear hX hmem RA4 RB4 I0 RAn RBn D2n D3n D4n B6 K6 HXM
     go_wp2_with (first
      | (go_at_call 64;refine HWK.out.mono ?_;rintro e w9 ⟨⟨d, rfl⟩, hI9, HB9, hT9⟩;have I9 := zA hI9;have D9 := D4z.turned hT9 hx4.out;have B9 := hI9.bl;clear hI9 hT9 c2)
      | ((with_reducible refine gate_dst (N := 26) rfl ?_);refine ev_loadS B9 rfl 48 _ rfl rfl Tryd.underlying48 rfl (by kernel_rfl) ?_)
      | ((with_reducible refine gate_ (Op.store 48 (.tmp 4) (.tmp 26)) rfl ?_);refine ev_store HB9 D9 GE_g4 rfl 48 _ _ rfl rfl rfl (by kernel_rfl) rfl (by simp [Value.oneCell']) ?_;intro w10 B10 HB10 K10))
     refine bodyPost_ret (results_cellT rfl _ _ g4 48 _ _ _ rfl rfl B10 Tryd.underlying48 rfl (by kernel_rfl)) rfl ?_
     have hA := Kd.S_bound (S_away_store I9.out.ra D9 rfl K10.out)
     have hB := Kd.S_bound (S_away_store I9.out.rb D9 rfl K10.out)
     refine ⟨_, _, rfl, Kd.S_mono hA (fun k hk => fun e => ?_), Kd.S_mono hB (fun k hk => fun e => ?_), HB10.out⟩
     ·exact I9.out.dis k hk.1 ((Kd.S_R I9.out.rb).1 k e.symm)
     ·exact I9.out.dis k ((Kd.S_R I9.out.ra).1 k e.symm) hk.1
    exact AllReadyL.nil
   exact AllReadyL.nil
  refine AllReadyL.cons (o := Oper.mk _ _ _ _ _ _) rfl (by decide) (fun K hK => ?_) ?_
  ·refine rg_alloc HB (by rfl) #[.slice none 0 0, .slice none 0 0] 48 (by first|(go_simp;done)|(go_simp;rfl)) ?_
   intro g6 W' G6 GE6 D6x HBx hb
   clear HBx
   have N46 : Aside0 (g4 ≠ g6) := ⟨by have := D4.lt;have := G6.out;omega⟩
   have D2n := D2.below hb.out
   have D3n := D3.below hb.out
   have D4n := D4.below hb.out
   have HBn := HB.step hb.out
   have RAn := zA (yy10 RA.out hb.out)
   clear D2 D3 D4 HB RA
   have D2 := D2n
   have D3 := D3n
   have D4 := D4n
   have HB := HBn
   clear D2n D3n D4n HBn
   have RA := RAn
   clear RAn
   have D6 := D6x
   clear D6x G6
   refine hK.out _ _ ⟨D2, D3⟩ (fun hS => ?_)
   clear hK K hb
   try simp only [Act.put, zB, zC, zD]
   refine wpAnyLast_ready (rs := [7]) (by kernel_rfl) (by simp) ?_
   refine AllReadyL.cons (o := Oper.mk _ _ _ _ _ _) rfl (by decide) (fun K hK => ?_) ?_
   ·have HN := HB.le
    refine call_ 63 #[.int .i64 (s.size : Int), .int .i64 (most : Int)] (by rfl) rfl (by first|(go_simp;done)|(go_simp;rfl)) ((RW.out 44 _).mono ?_)
    rintro e W' ⟨vb, rfl, hS, hb'⟩
    obtain ⟨A2, c2, rfl⟩ := Kd.S_slice hS
    generalize (rowsB s 44 most (nextP s 0)).length = n2 at hS ⊢
    have hb := zA hb'
    obtain ⟨N7, RAy, RBy⟩ : ∃ N7 : Nat, Aside0 (Kd.S k34 34 W' w.heap.size (fun k => k < N7) (.slice A1 n1 c1) (rowsB s 58 most (nextP s 0))) ∧ Aside0 (Kd.S k34 34 W' w.heap.size (fun k => N7 ≤ k) (.slice A2 n2 c2) (rowsB s 44 most (nextP s 0))) :=
     ⟨_, ⟨yy10 (Kd.S_mono (Kd.S_bound RA.out) (fun _ hk => hk.2.2.1)) hb.out⟩, ⟨Kd.S_lower (Kd.S_mono (Kd.S_bound hS) (fun _ hk => hk.2.1)) HN⟩⟩
    clear hS hb' HN
    have D2n := D2.below hb.out
    have D3n := D3.below hb.out
    have D4n := D4.below hb.out
    have HBn := HB.step hb.out
    have D6n := D6.below hb.out
    clear D2 D3 D4 HB D6
    have D2 := D2n
    have D3 := D3n
    have D4 := D4n
    have HB := HBn
    clear D2n D3n D4n HBn
    have D6 := D6n
    clear D6n
    clear RA
    have RA := RAy
    have RB := RBy
    clear RAy RBy
    refine ⟨_, rfl, ?_⟩
    refine hK.out _ _ ⟨D2, D3⟩ (fun hS => ?_)
    clear hK K hb
    try simp only [Act.put, zB, zC, zD]
    refine' zM (i := 8) (oi := Oper.mk _ _ _ _ _ _) rfl (by kernel_rfl) (by kernel_rfl) (by kernel_rfl) (by kernel_rfl) (by kernel_rfl) (fun _ _ _ h => h) (Or.inl ⟨by rfl, ?hy30⟩) hS ?rest30
    case hy30 => (intro w hSw;(try dsimp only at hSw);first|(go_simp;done)|(go_simp;with_reducible rfl))
    try simp only [Act.put, zB, zC, zD]
    refine wpAnyLast_ready (rs := [10]) (by kernel_rfl) (by simp) ?_
    refine AllReadyL.cons_last (o := Oper.mk _ _ _ _ _ _) rfl (by decide) (fun K hK => ?_) ?_
    ·refine rg_store HB (by rfl) D6 GE6 48 _ _ rfl rfl rfl (by kernel_rfl) rfl (by simp [Value.oneCell']) ?_
     intro W' B6 HBx K6
     have D2n := D2.other K6 (D2.ne D6 (by decide))
     have D3n := D3.other K6 (D3.ne D6 (by decide))
     have D4n := D4.other K6 N46.out
     have RAn := zA (S_away_store RA.out D6 rfl K6.out)
     have RBn := zA (S_away_store RB.out D6 rfl K6.out)
     clear D2 D3 D4 RA RB HB
     refine hK.out _ _ ?_
     clear hK K
     try simp only [Act.put, zB, zC, zD]
     refine wpAnyLast_done (by kernel_rfl) ?_ _
     refine NoPanic.normal ?_
     obtain ⟨X, hX⟩ : ∃ X : List Nat, X = (List.range' w.heap.size (W'.heap.size - w.heap.size)).filter fun k => decide (k ≠ g4) := ⟨_, rfl⟩
     have hmem : ∀ k, w.heap.size ≤ k → k < W'.heap.size → k ≠ g4 → k ∈ X := fun k h1 h2 h3 => by
      rw [hX]
      exact List.mem_filter.2 ⟨List.mem_range'_1.2 ⟨h1, by omega⟩, zz1 h3⟩
     have HXM : Aside0 (∀ k ∈ X, (w.heap.size ≤ k ∧ k < W'.heap.size) ∧ k ≠ g4) := ⟨fun k hk => by
      rw [hX] at hk
      obtain ⟨h1, h2⟩ := List.mem_filter.1 hk
      have h3 := List.mem_range'_1.1 h1
      exact ⟨⟨h3.1, by have := HBx.le;omega⟩, zE h2⟩⟩
     have RA4 := Kd.S_bound (Kd.S_types RAn.out D4n.out (by decide))
     have RB4 := Kd.S_bound (Kd.S_types RBn.out D4n.out (by decide))
     have I0 : Aside0 (BuI s most g3 g2 g6 (.slice A1 n1 c1) (.slice A2 n2 c2) w.heap.size X (fun k => k < N7 ∧ k ∈ X) (fun k => N7 ≤ k ∧ k ∈ X) (nextP s 0) W') :=
      ⟨⟨D3n, D2n, B6, Kd.S_mono RA4 (fun k hk => ⟨hk.1.1, hmem k hk.2.1 hk.2.2.1 hk.1.2⟩), Kd.S_mono RB4 (fun k hk => ⟨hk.1.1, hmem k hk.2.1 hk.2.2.1 hk.1.2⟩), fun k h1 h2 => absurd h1.1 (by have := h2.1;omega), fun k hk => hk.2, fun k hk => hk.2⟩⟩
     have HWK := zA (WK.out g2 g3 g6 X _ _ _ _ W' (HT.out.stepH HBx) HBx (fun k hk => (HXM.out k hk).1) I0.out)
     have c2 : W'.cell? ⟨g2, 0, none⟩ = some (.string s) := D2n.cell (i := 0) rfl
     have D4z := D4n
     have hx4 : Aside0 (g4 ∉ X) := ⟨fun h => (HXM.out g4 h).2 rfl⟩
     clear hX hmem RA4 RB4 I0 RAn RBn D2n D3n D4n B6 K6 HXM
     go_wp2_with (first
      | (go_at_call 64;refine HWK.out.mono ?_;rintro e w9 ⟨⟨d, rfl⟩, hI9, HB9, hT9⟩;have I9 := zA hI9;have D9 := D4z.turned hT9 hx4.out;have B9 := hI9.bl;clear hI9 hT9 c2)
      | ((with_reducible refine gate_dst (N := 26) rfl ?_);refine ev_loadS B9 rfl 48 _ rfl rfl Tryd.underlying48 rfl (by kernel_rfl) ?_)
      | ((with_reducible refine gate_ (Op.store 48 (.tmp 4) (.tmp 26)) rfl ?_);refine ev_store HB9 D9 GE_g4 rfl 48 _ _ rfl rfl rfl (by kernel_rfl) rfl (by simp [Value.oneCell']) ?_;intro w10 B10 HB10 K10))
     refine bodyPost_ret (results_cellT rfl _ _ g4 48 _ _ _ rfl rfl B10 Tryd.underlying48 rfl (by kernel_rfl)) rfl ?_
     have hA := Kd.S_bound (S_away_store I9.out.ra D9 rfl K10.out)
     have hB := Kd.S_bound (S_away_store I9.out.rb D9 rfl K10.out)
     refine ⟨_, _, rfl, Kd.S_mono hA (fun k hk => fun e => ?_), Kd.S_mono hB (fun k hk => fun e => ?_), HB10.out⟩
     ·exact I9.out.dis k hk.1 ((Kd.S_R I9.out.rb).1 k e.symm)
     ·exact I9.out.dis k ((Kd.S_R I9.out.ra).1 k e.symm) hk.1
    exact AllReadyL.nil
   exact AllReadyL.nil
  exact AllReadyL.nil
 refine AllReadyL.cons (o := Oper.mk _ _ _ _ _ _) rfl (by decide) (fun K hK => ?_) ?_
 ·refine rg_alloc HB (by rfl) #[.slice none 0 0, .slice none 0 0] 48 (by first|(go_simp;done)|(go_simp;rfl)) ?_
  intro g6 W' G6 GE6 D6x HBx hb
  clear HBx
  have N46 : Aside0 (g4 ≠ g6) := ⟨by have := D4.lt;have := G6.out;omega⟩
  have D2n := D2.below hb.out
  have D3n := D3.below hb.out
  have D4n := D4.below hb.out
  have HBn := HB.step hb.out
  clear D2 D3 D4 HB
  have D2 := D2n
  have D3 := D3n
  have D4 := D4n
  have HB := HBn
  clear D2n D3n D4n HBn
  have D6 := D6x
  clear D6x G6
  refine hK.out _ _ ⟨D2, D3⟩ (fun hS => ?_)
  clear hK K hb
  try simp only [Act.put, zB, zC, zD]
  refine wpAnyLast_ready (rs := [3]) (by kernel_rfl) (by simp) ?_
  refine AllReadyL.cons (o := Oper.mk _ _ _ _ _ _) rfl (by decide) (fun K hK => ?_) ?_
  ·refine call_ 63 #[.int .i64 (s.size : Int), .int .i64 (most : Int)] (by rfl) rfl (by first|(go_simp;done)|(go_simp;rfl)) ((RW.out 58 _).mono ?_)
   rintro e W' ⟨va, rfl, hS, hb'⟩
   obtain ⟨A1, c1, rfl⟩ := Kd.S_slice hS
   generalize (rowsB s 58 most (nextP s 0)).length = n1 at hS ⊢
   have hb := zA hb'
   have RAx := zA (Kd.S_lower hS HB.le)
   clear hS hb'
   have D2n := D2.below hb.out
   have D3n := D3.below hb.out
   have D4n := D4.below hb.out
   have HBn := HB.step hb.out
   have D6n := D6.below hb.out
   clear D2 D3 D4 HB D6
   have D2 := D2n
   have D3 := D3n
   have D4 := D4n
   have HB := HBn
   clear D2n D3n D4n HBn
   have D6 := D6n
   clear D6n
   have RA := RAx
   clear RAx
   refine ⟨_, rfl, ?_⟩
   refine hK.out _ _ ⟨D2, D3⟩ (fun hS => ?_)
   clear hK K hb
   try simp only [Act.put, zB, zC, zD]
   refine wpAnyLast_ready (rs := [7]) (by kernel_rfl) (by simp) ?_
   refine AllReadyL.cons (o := Oper.mk _ _ _ _ _ _) rfl (by decide) (fun K hK => ?_) ?_
   ·have HN := HB.le
    refine call_ 63 #[.int .i64 (s.size : Int), .int .i64 (most : Int)] (by rfl) rfl (by first|(go_simp;done)|(go_simp;rfl)) ((RW.out 44 _).mono ?_)
    rintro e W' ⟨vb, rfl, hS, hb'⟩
    obtain ⟨A2, c2, rfl⟩ := Kd.S_slice hS
    generalize (rowsB s 44 most (nextP s 0)).length = n2 at hS ⊢
    have hb := zA hb'
    obtain ⟨N7, RAy, RBy⟩ : ∃ N7 : Nat, Aside0 (Kd.S k34 34 W' w.heap.size (fun k => k < N7) (.slice A1 n1 c1) (rowsB s 58 most (nextP s 0))) ∧ Aside0 (Kd.S k34 34 W' w.heap.size (fun k => N7 ≤ k) (.slice A2 n2 c2) (rowsB s 44 most (nextP s 0))) :=
     ⟨_, ⟨yy10 (Kd.S_mono (Kd.S_bound RA.out) (fun _ hk => hk.2.2.1)) hb.out⟩, ⟨Kd.S_lower (Kd.S_mono (Kd.S_bound hS) (fun _ hk => hk.2.1)) HN⟩⟩
    clear hS hb' HN
    have D2n := D2.below hb.out
    have D3n := D3.below hb.out
    have D4n := D4.below hb.out
    have HBn := HB.step hb.out
    have D6n := D6.below hb.out
    clear D2 D3 D4 HB D6
    have D2 := D2n
    have D3 := D3n
    have D4 := D4n
    have HB := HBn
    clear D2n D3n D4n HBn
    have D6 := D6n
    clear D6n
    clear RA
    have RA := RAy
    have RB := RBy
    clear RAy RBy
    refine ⟨_, rfl, ?_⟩
    refine hK.out _ _ ⟨D2, D3⟩ (fun hS => ?_)
    clear hK K hb
    try simp only [Act.put, zB, zC, zD]
    refine' zM (i := 8) (oi := Oper.mk _ _ _ _ _ _) rfl (by kernel_rfl) (by kernel_rfl) (by kernel_rfl) (by kernel_rfl) (by kernel_rfl) (fun _ _ _ h => h) (Or.inl ⟨by rfl, ?hy31⟩) hS ?rest31
    case hy31 => (intro w hSw;(try dsimp only at hSw);first|(go_simp;done)|(go_simp;with_reducible rfl))
    try simp only [Act.put, zB, zC, zD]
    refine wpAnyLast_ready (rs := [10]) (by kernel_rfl) (by simp) ?_
    refine AllReadyL.cons_last (o := Oper.mk _ _ _ _ _ _) rfl (by decide) (fun K hK => ?_) ?_
    ·refine rg_store HB (by rfl) D6 GE6 48 _ _ rfl rfl rfl (by kernel_rfl) rfl (by simp [Value.oneCell']) ?_
     intro W' B6 HBx K6
     have D2n := D2.other K6 (D2.ne D6 (by decide))
     have D3n := D3.other K6 (D3.ne D6 (by decide))
     have D4n := D4.other K6 N46.out
     have RAn := zA (S_away_store RA.out D6 rfl K6.out)
     have RBn := zA (S_away_store RB.out D6 rfl K6.out)
     clear D2 D3 D4 RA RB HB
     refine hK.out _ _ ?_
     clear hK K
     try simp only [Act.put, zB, zC, zD]
     refine wpAnyLast_done (by kernel_rfl) ?_ _
     refine NoPanic.normal ?_
     obtain ⟨X, hX⟩ : ∃ X : List Nat, X = (List.range' w.heap.size (W'.heap.size - w.heap.size)).filter fun k => decide (k ≠ g4) := ⟨_, rfl⟩
     have hmem : ∀ k, w.heap.size ≤ k → k < W'.heap.size → k ≠ g4 → k ∈ X := fun k h1 h2 h3 => by
      rw [hX]
      exact List.mem_filter.2 ⟨List.mem_range'_1.2 ⟨h1, by omega⟩, zz1 h3⟩
     have HXM : Aside0 (∀ k ∈ X, (w.heap.size ≤ k ∧ k < W'.heap.size) ∧ k ≠ g4) := ⟨fun k hk => by
      rw [hX] at hk
      obtain ⟨h1, h2⟩ := List.mem_filter.1 hk
      have h3 := List.mem_range'_1.1 h1
      exact ⟨⟨h3.1, by have := HBx.le;omega⟩, zE h2⟩⟩
     have RA4 := Kd.S_bound (Kd.S_types RAn.out D4n.out (by decide))
     have RB4 := Kd.S_bound (Kd.S_types RBn.out D4n.out (by decide))
     have I0 : Aside0 (BuI s most g3 g2 g6 (.slice A1 n1 c1) (.slice A2 n2 c2) w.heap.size X (fun k => k < N7 ∧ k ∈ X) (fun k => N7 ≤ k ∧ k ∈ X) (nextP s 0) W') :=
      ⟨⟨D3n, D2n, B6, Kd.S_mono RA4 (fun k hk => ⟨hk.1.1, hmem k hk.2.1 hk.2.2.1 hk.1.2⟩), Kd.S_mono RB4 (fun k hk => ⟨hk.1.1, hmem k hk.2.1 hk.2.2.1 hk.1.2⟩), fun k h1 h2 => absurd h1.1 (by have := h2.1;omega), fun k hk => hk.2, fun k hk => hk.2⟩⟩
     have HWK := zA (WK.out g2 g3 g6 X _ _ _ _ W' (HT.out.stepH HBx) HBx (fun k hk => (HXM.out k hk).1) I0.out)
     have c2 : W'.cell? ⟨g2, 0, none⟩ = some (.string s) := D2n.cell (i := 0) rfl
     have D4z := D4n
     have hx4 : Aside0 (g4 ∉ X) := ⟨fun h => (HXM.out g4 h).2 rfl⟩
     clear hX hmem RA4 RB4 I0 RAn RBn D2n D3n D4n B6 K6 HXM
     go_wp2_with (first
      | (go_at_call 64;refine HWK.out.mono ?_;rintro e w9 ⟨⟨d, rfl⟩, hI9, HB9, hT9⟩;have I9 := zA hI9;have D9 := D4z.turned hT9 hx4.out;have B9 := hI9.bl;clear hI9 hT9 c2)
      | ((with_reducible refine gate_dst (N := 26) rfl ?_);refine ev_loadS B9 rfl 48 _ rfl rfl Tryd.underlying48 rfl (by kernel_rfl) ?_)
      | ((with_reducible refine gate_ (Op.store 48 (.tmp 4) (.tmp 26)) rfl ?_);refine ev_store HB9 D9 GE_g4 rfl 48 _ _ rfl rfl rfl (by kernel_rfl) rfl (by simp [Value.oneCell']) ?_;intro w10 B10 HB10 K10))
     refine bodyPost_ret (results_cellT rfl _ _ g4 48 _ _ _ rfl rfl B10 Tryd.underlying48 rfl (by kernel_rfl)) rfl ?_
     have hA := Kd.S_bound (S_away_store I9.out.ra D9 rfl K10.out)
     have hB := Kd.S_bound (S_away_store I9.out.rb D9 rfl K10.out)
     refine ⟨_, _, rfl, Kd.S_mono hA (fun k hk => fun e => ?_), Kd.S_mono hB (fun k hk => fun e => ?_), HB10.out⟩
     ·exact I9.out.dis k hk.1 ((Kd.S_R I9.out.rb).1 k e.symm)
     ·exact I9.out.dis k ((Kd.S_R I9.out.ra).1 k e.symm) hk.1
    exact AllReadyL.nil
   exact AllReadyL.nil
  exact AllReadyL.nil
 exact AllReadyL.nil
set_option maxHeartbeats 4000000 in
theorem levels_Build.none_ (s : ByteArray) (a1 : Int) (h1 : a1 < 1 ∨ 64 < a1) (w : World) :
  Calls Tryd.prog 28 #[.string s, .int .i64 a1] w fun e w' => e = .returned (.tuple #[.agg #[.slice none 0 0, .slice none 0 0], .int .i64 2]) ∧ Below w.heap.size w w' := by
 have HB := BelowH.refl w
 have fin : ∀ x1 x2 : Bool, decide (a1 < 1) = x1 → decide (64 < a1) = x2 → (x1 = true ∨ (x1 = false ∧ x2 = true)) → Calls Tryd.prog 28 #[.string s, .int .i64 a1] w fun e w' => e = .returned (.tuple #[.agg #[.slice none 0 0, .slice none 0 0], .int .i64 2]) ∧ Below w.heap.size w w' := fun x1 x2 q1 q2 q3 => by
  clear h1
  rcases q3 with rfl | ⟨rfl, rfl⟩
  all_goals
   go_enter Tryd.func28, Tryd.ntmps28
   go_wp2_with (first
    | ((with_reducible refine gate_dst (N := 2) rfl ?_);refine ev_alloc HB rfl (#[.string s]) 9 ?hr ?_;(case hr => first|(go_simp;done)|(go_simp;rfl));intro g2 w2 G_g2 GE_g2 B_g2 HBn K_g2;clear HB;have HB := HBn;clear HBn)
    | ((with_reducible refine gate_dst (N := 3) rfl ?_);refine ev_alloc HB rfl (#[.int .i64 a1]) 3 ?hr ?_;(case hr => first|(go_simp;done)|(go_simp;rfl));intro g3 w3 G_g3 GE_g3 B_g3 HBn K_g3;clear HB;have HB := HBn;clear HBn)
    | (((with_reducible refine gate_dst (N := 4) rfl ?_);refine ev_alloc HB rfl (#[.slice none 0 0, .slice none 0 0]) 48 ?hr ?_;(case hr => first|(go_simp;done)|(go_simp;rfl));intro g4 w4 G_g4 GE_g4 B_g4 HBn K_g4;clear HB;have HB := HBn;clear HBn);have c3 : w4.cell? ⟨g3, 0, none⟩ = some (.int .i64 a1) := (B_g3.below K_g4.out).cell (i := 0) rfl)
    | ((with_reducible refine gate_ (Op.store 48 (.tmp 4) (.tmp 13)) rfl ?_);refine ev_store HB B_g4 GE_g4 rfl 48 _ _ rfl rfl rfl (by kernel_rfl) rfl (by simp [Value.oneCell']) ?_;intro w10 B10 HB10 K10))
   refine bodyPost_ret (results_cellT rfl _ _ g4 48 _ _ _ rfl rfl B10 Tryd.underlying48 rfl (by kernel_rfl)) rfl ?_
   exact ⟨rfl, HB10.out⟩
 refine fin _ _ rfl rfl ?_
 by_cases c : a1 < 1
 ·exact .inl (zz1 c)
 ·exact .inr ⟨decide_eq_false c, zz1 (h1.resolve_left c)⟩
theorem levels_Build.calls (a0 : ByteArray) (a1 : Int) (r1 r2 : List S34) (r3 : Int) (w : World) (hT : TabOk w) (h : levels_Build.f a0 a1 = some (r1, r2, r3)) :
  Calls Tryd.prog 28 #[.string a0, .int .i64 a1] w fun e w' => ∃ v0_ v1_ : Value, e = .returned (.tuple #[.agg #[v0_, v1_], .int .i64 r3]) ∧ Kd.S k34 34 w' w.heap.size (fun k_ => some k_ ≠ (v1_ : Value).ownBlock) v0_ r1 ∧ Kd.S k34 34 w' w.heap.size (fun k_ => some k_ ≠ (v0_ : Value).ownBlock) v1_ r2 ∧ Below w.heap.size w w' := by
 unfold levels_Build.f at h
 by_cases h1 : a1 < 1 ∨ 64 < a1
 ·rw [if_pos h1] at h
  simp only [Option.some.injEq, Prod.mk.injEq] at h
  obtain ⟨rfl, rfl, rfl⟩ := h
  exact (levels_Build.none_ a0 a1 h1 w).mono fun e w' ⟨he, hb⟩ => ⟨_, _, he, Kd.S_nil _ _ _ _ _, Kd.S_nil _ _ _ _ _, hb⟩
 ·rw [if_neg h1] at h
  by_cases h2 : a0.size ≤ 1048576
  case neg => rw [if_neg h2] at h;cases h
  rw [if_pos h2] at h
  simp only [Option.some.injEq, Prod.mk.injEq] at h
  obtain ⟨rfl, rfl, rfl⟩ := h
  obtain ⟨m, rfl⟩ : ∃ m : Nat, a1 = (m : Int) := ⟨a1.toNat, by omega⟩
  rw [Int.toNat_natCast]
  exact levels_Build.some_ a0 h2 m (by omega) w hT
end


def quarryref00_SameInts.l0 : Nat → List Int → List Int → Int → Option (Bool)
 | 0, _, _, _ => none
 | k + 1, x0, x1, x5 => if x5 < (x0.length : Int) then (if 0 ≤ x5 then (if x5 < (x1.length : Int) then (if (rd x0 x5) = (rd x1 x5) then (quarryref00_SameInts.l0 k x0 x1 (wrap64 (x5 + 1))) else (some false)) else (none)) else (none)) else (some true)
def quarryref00_SameInts.f (k : Nat) (l0 : List Int) (l1 : List Int) : Option (Bool) := if (l0.length : Int) = (l1.length : Int) then (quarryref00_SameInts.l0 k l0 l1 0) else (some false)
set_option maxHeartbeats 8000000 in
set_option maxRecDepth 100000 in
theorem quarryref00_SameInts.calls (k : Nat) (A0 : Option Addr) (c0 : Nat) (l0 : List Int) (A1 : Option Addr) (c1 : Nat) (l1 : List Int) (r : Bool) (w : World) (hr0 : Kd.C (Kd.int .i64) w A0 l0.length l0) (hc0 : l0.length ≤ c0) (hr1 : Kd.C (Kd.int .i64) w A1 l1.length l1) (hc1 : l1.length ≤ c1) (h : quarryref00_SameInts.f k l0 l1 = some r) :
  Calls Tryd.prog 25 #[.slice A0 l0.length c0, .slice A1 l1.length c1] w fun e w' => e = .returned (.bool r) ∧ Drawn0 w w' := by
 have HR0 := zA hr0
 have HC0 := zA hc0
 clear hr0 hc0
 have HR1 := zA hr1
 have HC1 := zA hc1
 clear hr1 hc1
 have H : (if (l0.length : Int) = (l1.length : Int) then (quarryref00_SameInts.l0 k l0 l1 0) else (some false)) = some r := h
 clear h
 by_cases c3 : (l0.length : Int) = (l1.length : Int)
 ·rw [if_pos c3] at H
  have c3b0 : ((l0.length : Int) == (l1.length : Int)) = true := beq_iff_eq.mpr c3
  have c3b1 : ((l0.length : Int) != (l1.length : Int)) = false := bne_eq_false_iff_eq.mpr c3
  have c3b2 : (l0.length == l1.length) = true := by first|simpa using c3|(simp at c3 ⊢;omega)
  clear c3
  have H' := zA H
  clear H
  go_enter Tryd.func25, Tryd.ntmps25
  go_wp2
  repeat (go_quiet (fail);try go_wp2)
  go_loopg [5] k (fun kq v5 w' => ∃ (x5_1 : Int), v5 = .int .i64 x5_1 ∧ Aside0 (quarryref00_SameInts.l0 kq l0 l1 x5_1 = some r) ∧ Aside0 (kq ≤ k) ∧ Drawn0 w w')
  case atStart => exact ⟨(0), (by first|rfl|(simp;done)|(simp [*];done)), H', ⟨Nat.le_refl _⟩, by repeat (first|exact Drawn0.refl _|apply Drawn0.step)⟩
  case round =>
   clear H'
   try clear c1
   try clear c2
   try clear p2
   try clear c3
   try clear c3b0
   try clear c3b1
   try clear c3b2
   obtain ⟨x5_1, rfl, HA, HK1, ⟨m1, rfl⟩⟩ := hrel
   cases gk with
   | zero => exact absurd HA.out (by simp [quarryref00_SameInts.l0])
   | succ k1 =>
    have H := HA.out
    clear HA
    simp only [quarryref00_SameInts.l0] at H
    by_cases c4 : x5_1 < (l0.length : Int)
    ·rw [if_pos c4] at H
     have c4b0 : decide (x5_1 < (l0.length : Int)) = true := zz1 c4
     clear c4
     by_cases c5 : 0 ≤ x5_1
     ·rw [if_pos c5] at H
      have c5b0 : decide (0 ≤ x5_1) = true := zz1 c5
      clear c5
      by_cases c6 : x5_1 < (l1.length : Int)
      ·rw [if_pos c6] at H
       have c6b0 : decide (x5_1 < (l1.length : Int)) = true := zz1 c6
       clear c6
       by_cases c7 : (rd l0 x5_1) = (rd l1 x5_1)
       ·rw [if_pos c7] at H
        have c7b0 : ((rd l0 x5_1) == (rd l1 x5_1)) = true := beq_iff_eq.mpr c7
        have c7b1 : ((rd l0 x5_1) != (rd l1 x5_1)) = false := bne_eq_false_iff_eq.mpr c7
        clear c7
        have H' := zA H
        clear H
        have p109 : 0 ≤ (x5_1 : Int) := zE (by first|(with_reducible assumption)|assumption)
        have q109 : x5_1 < (l0.length : Int) := zE (by first|(with_reducible assumption)|assumption)
        obtain ⟨ad109, e109, hx109_0⟩ := Kd.at_int HR0.out x5_1 p109 q109
        cases e109
        replace p109 := eq_true p109
        replace q109 := eq_true q109
        have p110 : 0 ≤ (x5_1 : Int) := zE (by first|(with_reducible assumption)|assumption)
        have q110 : x5_1 < (l1.length : Int) := zE (by first|(with_reducible assumption)|assumption)
        obtain ⟨ad110, e110, hx110_0⟩ := Kd.at_int HR1.out x5_1 p110 q110
        cases e110
        replace p110 := eq_true p110
        replace q110 := eq_true q110
        go_wp2
        repeat (go_quiet (fail);try go_wp2)
        go_roundg k1
        case measure => have := HK1.out;omega
        case rel => exact ⟨(wrap64 (x5_1 + 1)), (by first|rfl|(simp;done)|(simp [*];done)), H', ⟨by have := HK1.out;omega⟩, by repeat (first|exact Drawn0.refl _|apply Drawn0.step)⟩
       ·rw [if_neg c7] at H
        have c7b0 : ((rd l0 x5_1) == (rd l1 x5_1)) = false := beq_eq_false_iff_ne.mpr c7
        have c7b1 : ((rd l0 x5_1) != (rd l1 x5_1)) = true := bne_iff_ne.mpr c7
        obtain rfl := Option.some.inj H
        have p109 : 0 ≤ (x5_1 : Int) := zE (by first|(with_reducible assumption)|assumption)
        have q109 : x5_1 < (l0.length : Int) := zE (by first|(with_reducible assumption)|assumption)
        obtain ⟨ad109, e109, hx109_0⟩ := Kd.at_int HR0.out x5_1 p109 q109
        cases e109
        replace p109 := eq_true p109
        replace q109 := eq_true q109
        have p110 : 0 ≤ (x5_1 : Int) := zE (by first|(with_reducible assumption)|assumption)
        have q110 : x5_1 < (l1.length : Int) := zE (by first|(with_reducible assumption)|assumption)
        obtain ⟨ad110, e110, hx110_0⟩ := Kd.at_int HR1.out x5_1 p110 q110
        cases e110
        replace p110 := eq_true p110
        replace q110 := eq_true q110
        go_wp2
        repeat (go_quiet (fail);try go_wp2)
        go_ret
        exact ⟨by first|rfl|(simp;done)|(simp [*];done), by repeat (first|exact Drawn0.refl _|apply Drawn0.step)⟩
      ·rw [if_neg c6] at H
       exact absurd H (by simp)
     ·rw [if_neg c5] at H
      exact absurd H (by simp)
    ·rw [if_neg c4] at H
     have c4b0 : decide (x5_1 < (l0.length : Int)) = false := decide_eq_false c4
     clear c4
     obtain rfl := Option.some.inj H
     go_wp2
     repeat (go_quiet (fail);try go_wp2)
     go_ret
     exact ⟨by first|rfl|(simp;done)|(simp [*];done), by repeat (first|exact Drawn0.refl _|apply Drawn0.step)⟩
 ·rw [if_neg c3] at H
  have c3b0 : ((l0.length : Int) == (l1.length : Int)) = false := beq_eq_false_iff_ne.mpr c3
  have c3b1 : ((l0.length : Int) != (l1.length : Int)) = true := bne_iff_ne.mpr c3
  have c3b2 : (l0.length == l1.length) = false := by first|simpa using c3|(simp at c3 ⊢;omega)
  obtain rfl := Option.some.inj H
  go_enter Tryd.func25, Tryd.ntmps25
  go_wp2
  repeat (go_quiet (fail);try go_wp2)
  go_ret
  exact ⟨by first|rfl|(simp;done)|(simp [*];done), by repeat (first|exact Drawn0.refl _|apply Drawn0.step)⟩

def bitmap_size.f (a0 : Int) : Option (Int) := if (Int.tmod a0 64) = 0 then (some (wrap64 (Int.tdiv a0 64))) else (some (wrap64 ((wrap64 (Int.tdiv a0 64)) + 1)))
set_option maxHeartbeats 8000000 in
set_option maxRecDepth 100000 in
theorem bitmap_size.calls (a0 : Int) (r : Int) (w : World) (h : bitmap_size.f a0 = some r) :
  Calls Tryd.prog 97 #[.int .i64 a0] w fun e w' => e = .returned (.int .i64 r) ∧ Drawn0 w w' := by
 have H : (if (Int.tmod a0 64) = 0 then (some (wrap64 (Int.tdiv a0 64))) else (some (wrap64 ((wrap64 (Int.tdiv a0 64)) + 1)))) = some r := h
 clear h
 by_cases c2 : (Int.tmod a0 64) = 0
 ·rw [if_pos c2] at H
  have c2b0 : ((Int.tmod a0 64) == 0) = true := beq_iff_eq.mpr c2
  have c2b1 : ((Int.tmod a0 64) != 0) = false := bne_eq_false_iff_eq.mpr c2
  clear c2
  obtain rfl := Option.some.inj H
  go_enter Tryd.func97, Tryd.ntmps97
  go_wp2
  go_ret
  exact ⟨by first|rfl|(simp;done)|(simp [*];done), by repeat (first|exact Drawn0.refl _|apply Drawn0.step)⟩
 ·rw [if_neg c2] at H
  have c2b0 : ((Int.tmod a0 64) == 0) = false := beq_eq_false_iff_ne.mpr c2
  have c2b1 : ((Int.tmod a0 64) != 0) = true := bne_iff_ne.mpr c2
  obtain rfl := Option.some.inj H
  go_enter Tryd.func97, Tryd.ntmps97
  go_wp2
  go_ret
  exact ⟨by first|rfl|(simp;done)|(simp [*];done), by repeat (first|exact Drawn0.refl _|apply Drawn0.step)⟩

def bitmap_tail.f (a0 : Int) : Option (Int) := if (Int.tmod a0 64) = 0 then (some 18446744073709551615) else (if 0 ≤ (Int.tmod a0 64) then (some (IntKind.u64.wrap ((shl .u64 1 (Int.tmod a0 64)) - 1))) else (none))
set_option maxHeartbeats 8000000 in
set_option maxRecDepth 100000 in
theorem bitmap_tail.calls (a0 : Int) (r : Int) (w : World) (h : bitmap_tail.f a0 = some r) :
  Calls Tryd.prog 98 #[.int .i64 a0] w fun e w' => e = .returned (.int .u64 r) ∧ Drawn0 w w' := by
 have H : (if (Int.tmod a0 64) = 0 then (some 18446744073709551615) else (if 0 ≤ (Int.tmod a0 64) then (some (IntKind.u64.wrap ((shl .u64 1 (Int.tmod a0 64)) - 1))) else (none))) = some r := h
 clear h
 by_cases c2 : (Int.tmod a0 64) = 0
 ·rw [if_pos c2] at H
  have c2b0 : ((Int.tmod a0 64) == 0) = true := beq_iff_eq.mpr c2
  have c2b1 : ((Int.tmod a0 64) != 0) = false := bne_eq_false_iff_eq.mpr c2
  clear c2
  obtain rfl := Option.some.inj H
  go_enter Tryd.func98, Tryd.ntmps98
  go_wp2
  go_ret
  exact ⟨by first|rfl|(simp;done)|(simp [*];done), by repeat (first|exact Drawn0.refl _|apply Drawn0.step)⟩
 ·rw [if_neg c2] at H
  have c2b0 : ((Int.tmod a0 64) == 0) = false := beq_eq_false_iff_ne.mpr c2
  have c2b1 : ((Int.tmod a0 64) != 0) = true := bne_iff_ne.mpr c2
  obtain ⟨ji3, hji3⟩ : ∃ j_ : Int, (Int.tmod a0 64) = j_ := ⟨_, rfl⟩
  replace H : (if 0 ≤ (ji3) then (some (IntKind.u64.wrap ((shl .u64 1 (ji3)) - 1))) else (none)) = some r := by first|(rw [hji3] at H;exact H)|(simp only [hji3] at H ⊢;exact H)
  (try rw [hji3] at c2b0)
  (try rw [hji3] at c2b1)
  by_cases c4 : 0 ≤ (ji3)
  ·rw [if_pos c4] at H
   have c4b0 := eq_true c4
   have c4b1 : decide (0 ≤ (ji3)) = true := zz1 c4
   clear c4
   obtain ⟨ji5, hji5⟩ : ∃ j_ : Int, (shl .u64 1 (ji3)) = j_ := ⟨_, rfl⟩
   replace H : (some (IntKind.u64.wrap ((ji5) - 1))) = some r := by first|(rw [hji5] at H;exact H)|(simp only [hji5] at H ⊢;exact H)
   have hji5_ : (IntKind.u64.wrap (1 * 2 ^ min (ji3).toNat 64)) = ji5 := hji5
   have hji5z : (ji3) ≤ 64 → (IntKind.u64.wrap (1 * 2 ^ (ji3).toNat)) = ji5 := shl_small hji5
   have hji5u : (IntKind.u64.wrap (2 ^ min (ji3).toNat 64)) = ji5 := by have h_ := hji5_;rw [Int.one_mul] at h_;exact h_
   have hji5v : (ji3) ≤ 64 → (IntKind.u64.wrap (2 ^ (ji3).toNat)) = ji5 := fun hle_ => by have h_ := hji5z hle_;rw [Int.one_mul] at h_;exact h_
   obtain rfl := Option.some.inj H
   go_enter Tryd.func98, Tryd.ntmps98
   go_wp2
   go_ret
   exact ⟨by first|rfl|(simp;done)|(simp only [← hji3, ← hji5] <;> (first|rfl|simp))|(simp [*];done), by repeat (first|exact Drawn0.refl _|apply Drawn0.step)⟩
  ·rw [if_neg c4] at H
   exact absurd H (by simp)

def bitmap_Formed.f (a0_0 : Int) (l0_1 : List Int) : Option (Bool) := if a0_0 < 0 then (some false) else ((bitmap_size.f a0_0).bind fun t112 => (if (l0_1.length : Int) = t112 then (if a0_0 = 0 then (some true) else (if 0 ≤ (wrap64 ((l0_1.length : Int) - 1)) then (if (wrap64 ((l0_1.length : Int) - 1)) < (l0_1.length : Int) then ((bitmap_tail.f a0_0).bind fun t114 => (some ((Go.bits .andNot .u64 (rd l0_1 (wrap64 ((l0_1.length : Int) - 1))) t114) == 0))) else (none)) else (none))) else (some false)))
set_option maxHeartbeats 8000000 in
set_option maxRecDepth 100000 in
theorem bitmap_Formed.calls (a0_0 : Int) (A0_1 : Option Addr) (c0_1 : Nat) (l0_1 : List Int) (r : Bool) (w : World) (hr0_1 : Kd.C (Kd.int .u64) w A0_1 l0_1.length l0_1) (hc0_1 : l0_1.length ≤ c0_1) (h : bitmap_Formed.f a0_0 l0_1 = some r) :
  Calls Tryd.prog 61 #[.agg #[.int .i64 a0_0, .slice A0_1 l0_1.length c0_1]] w fun e w' => e = .returned (.bool r) ∧ Below w.heap.size w w' := by
 have hu34 := Tryd.underlying34
 have HR0_1 := zA hr0_1
 have HC0_1 := zA hc0_1
 clear hr0_1 hc0_1
 have HB := zA (Below.refl w.heap.size w)
 have H : (if a0_0 < 0 then (some false) else ((bitmap_size.f a0_0).bind fun t112 => (if (l0_1.length : Int) = t112 then (if a0_0 = 0 then (some true) else (if 0 ≤ (wrap64 ((l0_1.length : Int) - 1)) then (if (wrap64 ((l0_1.length : Int) - 1)) < (l0_1.length : Int) then ((bitmap_tail.f a0_0).bind fun t114 => (some ((Go.bits .andNot .u64 (rd l0_1 (wrap64 ((l0_1.length : Int) - 1))) t114) == 0))) else (none)) else (none))) else (some false)))) = some r := h
 clear h
 by_cases c2 : a0_0 < 0
 ·rw [if_pos c2] at H
  have c2b0 : decide (a0_0 < 0) = true := zz1 c2
  clear c2
  obtain rfl := Option.some.inj H
  go_enter Tryd.func61, Tryd.ntmps61
  go_wp2_with (first|((with_reducible refine gate_dst (N := 1) rfl ?_);(try (refine gate_guard (by rfl) ?_;dsimp only));refine box_event ?hg (N := 1) ?hd (cs := #[.int .i64 a0_0, .slice A0_1 l0_1.length c0_1]) (t := 34) ?hr ?_;(case hd => rfl);(case hg => rfl);(case hr => first|(go_simp;done)|(go_simp;rfl));intro gb111 hg w3 hbox hb;have n0_ := zA (zN (by repeat (first|(with_reducible first|exact HB.out|apply zG|apply zF|apply zH)|exact HB.out)) hb);have n1_ := zA (hbox);have n2_ := zA ((by rw [hg];exact (zO (by repeat (first|(with_reducible first|exact HB.out|apply zG|apply zF|apply zH)|exact HB.out))) : w.heap.size ≤ gb111));have n3_ := zA ((by rw [hg];exact (zO (by repeat (first|(with_reducible first|exact HB.out|apply zG|apply zF|apply zH)|exact HB.out))) : w.heap.size ≤ gb111));clear HB;have HB := n0_;have BK111 := n1_;have GW111 := n2_;have GE111 := n3_;clear n0_ n1_ n2_ n3_;clear hb hbox hg;have hcz4_0 : w3.cell? ⟨gb111, 0, none⟩ = some (.int .i64 a0_0) := (zP BK111.out 0).trans rfl;have hcz4_1 : w3.cell? ⟨gb111, 1, none⟩ = some (.slice A0_1 l0_1.length c0_1) := (zP BK111.out 1).trans rfl;have hfz4_0 := zR BK111.out 0;have hfz4_1 := zR BK111.out 1))
  repeat (go_quiet (first|((with_reducible refine gate_dst (N := 1) rfl ?_);(try (refine gate_guard (by rfl) ?_;dsimp only));refine box_event ?hg (N := 1) ?hd (cs := #[.int .i64 a0_0, .slice A0_1 l0_1.length c0_1]) (t := 34) ?hr ?_;(case hd => rfl);(case hg => rfl);(case hr => first|(go_simp;done)|(go_simp;rfl));intro gb111 hg w3 hbox hb;have n0_ := zA (zN (by repeat (first|(with_reducible first|exact HB.out|apply zG|apply zF|apply zH)|exact HB.out)) hb);have n1_ := zA (hbox);have n2_ := zA ((by rw [hg];exact (zO (by repeat (first|(with_reducible first|exact HB.out|apply zG|apply zF|apply zH)|exact HB.out))) : w.heap.size ≤ gb111));have n3_ := zA ((by rw [hg];exact (zO (by repeat (first|(with_reducible first|exact HB.out|apply zG|apply zF|apply zH)|exact HB.out))) : w.heap.size ≤ gb111));clear HB;have HB := n0_;have BK111 := n1_;have GW111 := n2_;have GE111 := n3_;clear n0_ n1_ n2_ n3_;clear hb hbox hg;have hcz4_0 : w3.cell? ⟨gb111, 0, none⟩ = some (.int .i64 a0_0) := (zP BK111.out 0).trans rfl;have hcz4_1 : w3.cell? ⟨gb111, 1, none⟩ = some (.slice A0_1 l0_1.length c0_1) := (zP BK111.out 1).trans rfl;have hfz4_0 := zR BK111.out 0;have hfz4_1 := zR BK111.out 1));try go_wp2_with (first|((with_reducible refine gate_dst (N := 1) rfl ?_);(try (refine gate_guard (by rfl) ?_;dsimp only));refine box_event ?hg (N := 1) ?hd (cs := #[.int .i64 a0_0, .slice A0_1 l0_1.length c0_1]) (t := 34) ?hr ?_;(case hd => rfl);(case hg => rfl);(case hr => first|(go_simp;done)|(go_simp;rfl));intro gb111 hg w3 hbox hb;have n0_ := zA (zN (by repeat (first|(with_reducible first|exact HB.out|apply zG|apply zF|apply zH)|exact HB.out)) hb);have n1_ := zA (hbox);have n2_ := zA ((by rw [hg];exact (zO (by repeat (first|(with_reducible first|exact HB.out|apply zG|apply zF|apply zH)|exact HB.out))) : w.heap.size ≤ gb111));have n3_ := zA ((by rw [hg];exact (zO (by repeat (first|(with_reducible first|exact HB.out|apply zG|apply zF|apply zH)|exact HB.out))) : w.heap.size ≤ gb111));clear HB;have HB := n0_;have BK111 := n1_;have GW111 := n2_;have GE111 := n3_;clear n0_ n1_ n2_ n3_;clear hb hbox hg;have hcz4_0 : w3.cell? ⟨gb111, 0, none⟩ = some (.int .i64 a0_0) := (zP BK111.out 0).trans rfl;have hcz4_1 : w3.cell? ⟨gb111, 1, none⟩ = some (.slice A0_1 l0_1.length c0_1) := (zP BK111.out 1).trans rfl;have hfz4_0 := zR BK111.out 0;have hfz4_1 := zR BK111.out 1)))
  go_ret
  exact ⟨by first|rfl|(simp [errW_none, errW_some] <;> rfl)|(simp [*, errW_none, errW_some] <;> rfl), by repeat (first|(with_reducible first|exact HB.out|apply zG|apply zF|apply zH|refine zI ?_ GE111.out)|exact HB.out)⟩
 ·rw [if_neg c2] at H
  have c2b0 : decide (a0_0 < 0) = false := decide_eq_false c2
  clear c2
  replace H := Option.bind_eq_some_iff.mp H
  obtain ⟨t112, A50, H⟩ := H
  replace H : (if (l0_1.length : Int) = t112 then (if a0_0 = 0 then (some true) else (if 0 ≤ (wrap64 ((l0_1.length : Int) - 1)) then (if (wrap64 ((l0_1.length : Int) - 1)) < (l0_1.length : Int) then ((bitmap_tail.f a0_0).bind fun t114 => (some ((Go.bits .andNot .u64 (rd l0_1 (wrap64 ((l0_1.length : Int) - 1))) t114) == 0))) else (none)) else (none))) else (some false)) = some r := H
  have A5 := zA A50
  clear A50
  by_cases c6 : (l0_1.length : Int) = t112
  ·rw [if_pos c6] at H
   have c6b0 : ((l0_1.length : Int) == t112) = true := beq_iff_eq.mpr c6
   have c6b1 : ((l0_1.length : Int) != t112) = false := bne_eq_false_iff_eq.mpr c6
   clear c6
   by_cases c7 : a0_0 = 0
   ·rw [if_pos c7] at H
    have c7b0 : (a0_0 == 0) = true := beq_iff_eq.mpr c7
    have c7b1 : (a0_0 != 0) = false := bne_eq_false_iff_eq.mpr c7
    clear c7
    obtain rfl := Option.some.inj H
    go_enter Tryd.func61, Tryd.ntmps61
    go_wp2_with (first|((with_reducible refine gate_dst (N := 1) rfl ?_);(try (refine gate_guard (by rfl) ?_;dsimp only));refine box_event ?hg (N := 1) ?hd (cs := #[.int .i64 a0_0, .slice A0_1 l0_1.length c0_1]) (t := 34) ?hr ?_;(case hd => rfl);(case hg => rfl);(case hr => first|(go_simp;done)|(go_simp;rfl));intro gb111 hg w8 hbox hb;have n0_ := zA (zN (by repeat (first|(with_reducible first|exact HB.out|apply zG|apply zF|apply zH)|exact HB.out)) hb);have n1_ := zA (hbox);have n2_ := zA ((by rw [hg];exact (zO (by repeat (first|(with_reducible first|exact HB.out|apply zG|apply zF|apply zH)|exact HB.out))) : w.heap.size ≤ gb111));have n3_ := zA ((by rw [hg];exact (zO (by repeat (first|(with_reducible first|exact HB.out|apply zG|apply zF|apply zH)|exact HB.out))) : w.heap.size ≤ gb111));clear HB;have HB := n0_;have BK111 := n1_;have GW111 := n2_;have GE111 := n3_;clear n0_ n1_ n2_ n3_;clear hb hbox hg;have hcz9_0 : w8.cell? ⟨gb111, 0, none⟩ = some (.int .i64 a0_0) := (zP BK111.out 0).trans rfl;have hcz9_1 : w8.cell? ⟨gb111, 1, none⟩ = some (.slice A0_1 l0_1.length c0_1) := (zP BK111.out 1).trans rfl;have hfz9_0 := zR BK111.out 0;have hfz9_1 := zR BK111.out 1)|(go_at_call 97;(with_reducible refine (bitmap_size.calls a0_0 t112 _ A5.out).mono ?_);rintro e w' ⟨rfl, ⟨nd, rfl⟩⟩;(try first|exact ⟨rfl, _, World.drewN_drewN _ _ _⟩|exact ⟨rfl, _, Eq.trans (World.drewN_drewN _ _ _) (congrArg (World.drewN _) (Nat.add_assoc _ _ _))⟩)))
    repeat (go_quiet (first|((with_reducible refine gate_dst (N := 1) rfl ?_);(try (refine gate_guard (by rfl) ?_;dsimp only));refine box_event ?hg (N := 1) ?hd (cs := #[.int .i64 a0_0, .slice A0_1 l0_1.length c0_1]) (t := 34) ?hr ?_;(case hd => rfl);(case hg => rfl);(case hr => first|(go_simp;done)|(go_simp;rfl));intro gb111 hg w8 hbox hb;have n0_ := zA (zN (by repeat (first|(with_reducible first|exact HB.out|apply zG|apply zF|apply zH)|exact HB.out)) hb);have n1_ := zA (hbox);have n2_ := zA ((by rw [hg];exact (zO (by repeat (first|(with_reducible first|exact HB.out|apply zG|apply zF|apply zH)|exact HB.out))) : w.heap.size ≤ gb111));have n3_ := zA ((by rw [hg];exact (zO (by repeat (first|(with_reducible first|exact HB.out|apply zG|apply zF|apply zH)|exact HB.out))) : w.heap.size ≤ gb111));clear HB;have HB := n0_;have BK111 := n1_;have GW111 := n2_;have GE111 := n3_;clear n0_ n1_ n2_ n3_;clear hb hbox hg;have hcz9_0 : w8.cell? ⟨gb111, 0, none⟩ = some (.int .i64 a0_0) := (zP BK111.out 0).trans rfl;have hcz9_1 : w8.cell? ⟨gb111, 1, none⟩ = some (.slice A0_1 l0_1.length c0_1) := (zP BK111.out 1).trans rfl;have hfz9_0 := zR BK111.out 0;have hfz9_1 := zR BK111.out 1)|(go_at_call 97;(with_reducible refine (bitmap_size.calls a0_0 t112 _ A5.out).mono ?_);rintro e w' ⟨rfl, ⟨nd, rfl⟩⟩;(try first|exact ⟨rfl, _, World.drewN_drewN _ _ _⟩|exact ⟨rfl, _, Eq.trans (World.drewN_drewN _ _ _) (congrArg (World.drewN _) (Nat.add_assoc _ _ _))⟩)));try go_wp2_with (first|((with_reducible refine gate_dst (N := 1) rfl ?_);(try (refine gate_guard (by rfl) ?_;dsimp only));refine box_event ?hg (N := 1) ?hd (cs := #[.int .i64 a0_0, .slice A0_1 l0_1.length c0_1]) (t := 34) ?hr ?_;(case hd => rfl);(case hg => rfl);(case hr => first|(go_simp;done)|(go_simp;rfl));intro gb111 hg w8 hbox hb;have n0_ := zA (zN (by repeat (first|(with_reducible first|exact HB.out|apply zG|apply zF|apply zH)|exact HB.out)) hb);have n1_ := zA (hbox);have n2_ := zA ((by rw [hg];exact (zO (by repeat (first|(with_reducible first|exact HB.out|apply zG|apply zF|apply zH)|exact HB.out))) : w.heap.size ≤ gb111));have n3_ := zA ((by rw [hg];exact (zO (by repeat (first|(with_reducible first|exact HB.out|apply zG|apply zF|apply zH)|exact HB.out))) : w.heap.size ≤ gb111));clear HB;have HB := n0_;have BK111 := n1_;have GW111 := n2_;have GE111 := n3_;clear n0_ n1_ n2_ n3_;clear hb hbox hg;have hcz9_0 : w8.cell? ⟨gb111, 0, none⟩ = some (.int .i64 a0_0) := (zP BK111.out 0).trans rfl;have hcz9_1 : w8.cell? ⟨gb111, 1, none⟩ = some (.slice A0_1 l0_1.length c0_1) := (zP BK111.out 1).trans rfl;have hfz9_0 := zR BK111.out 0;have hfz9_1 := zR BK111.out 1)|(go_at_call 97;(with_reducible refine (bitmap_size.calls a0_0 t112 _ A5.out).mono ?_);rintro e w' ⟨rfl, ⟨nd, rfl⟩⟩;(try first|exact ⟨rfl, _, World.drewN_drewN _ _ _⟩|exact ⟨rfl, _, Eq.trans (World.drewN_drewN _ _ _) (congrArg (World.drewN _) (Nat.add_assoc _ _ _))⟩))))
    go_ret
    exact ⟨by first|rfl|(simp [errW_none, errW_some] <;> rfl)|(simp [*, errW_none, errW_some] <;> rfl), by repeat (first|(with_reducible first|exact HB.out|apply zG|apply zF|apply zH|refine zI ?_ GE111.out)|exact HB.out)⟩
   ·rw [if_neg c7] at H
    have c7b0 : (a0_0 == 0) = false := beq_eq_false_iff_ne.mpr c7
    have c7b1 : (a0_0 != 0) = true := bne_iff_ne.mpr c7
    obtain ⟨ji10, hji10⟩ : ∃ j_ : Int, (wrap64 ((l0_1.length : Int) - 1)) = j_ := ⟨_, rfl⟩
    replace H : (if 0 ≤ (ji10) then (if (ji10) < (l0_1.length : Int) then ((bitmap_tail.f a0_0).bind fun t114 => (some ((Go.bits .andNot .u64 (rd l0_1 (ji10)) t114) == 0))) else (none)) else (none)) = some r := by first|(rw [hji10] at H;exact H)|(simp only [hji10] at H ⊢;exact H)
    (try rw [hji10] at A5)
    have hji10w : (IntKind.i64.wrap ((l0_1.length : Int) - 1)) = ji10 := (i64_w _).trans hji10
    by_cases c11 : 0 ≤ (ji10)
    ·rw [if_pos c11] at H
     have c11b0 : decide (0 ≤ (ji10)) = true := zz1 c11
     clear c11
     by_cases c12 : (ji10) < (l0_1.length : Int)
     ·rw [if_pos c12] at H
      have c12b0 : decide ((ji10) < (l0_1.length : Int)) = true := zz1 c12
      clear c12
      replace H := Option.bind_eq_some_iff.mp H
      obtain ⟨t114, A130, H⟩ := H
      replace H : (some ((Go.bits .andNot .u64 (rd l0_1 (ji10)) t114) == 0)) = some r := H
      have A13 := zA A130
      clear A130
      obtain rfl := Option.some.inj H
      go_enter Tryd.func61, Tryd.ntmps61
      go_wp2_with (first|((with_reducible refine gate_dst (N := 1) rfl ?_);(try (refine gate_guard (by rfl) ?_;dsimp only));refine box_event ?hg (N := 1) ?hd (cs := #[.int .i64 a0_0, .slice A0_1 l0_1.length c0_1]) (t := 34) ?hr ?_;(case hd => rfl);(case hg => rfl);(case hr => first|(go_simp;done)|(go_simp;rfl));intro gb111 hg w14 hbox hb;have n0_ := zA (zN (by repeat (first|(with_reducible first|exact HB.out|apply zG|apply zF|apply zH)|exact HB.out)) hb);have n1_ := zA (hbox);have n2_ := zA ((by rw [hg];exact (zO (by repeat (first|(with_reducible first|exact HB.out|apply zG|apply zF|apply zH)|exact HB.out))) : w.heap.size ≤ gb111));have n3_ := zA ((by rw [hg];exact (zO (by repeat (first|(with_reducible first|exact HB.out|apply zG|apply zF|apply zH)|exact HB.out))) : w.heap.size ≤ gb111));clear HB;have HB := n0_;have BK111 := n1_;have GW111 := n2_;have GE111 := n3_;clear n0_ n1_ n2_ n3_;clear hb hbox hg;have hcz15_0 : w14.cell? ⟨gb111, 0, none⟩ = some (.int .i64 a0_0) := (zP BK111.out 0).trans rfl;have hcz15_1 : w14.cell? ⟨gb111, 1, none⟩ = some (.slice A0_1 l0_1.length c0_1) := (zP BK111.out 1).trans rfl;have hfz15_0 := zR BK111.out 0;have hfz15_1 := zR BK111.out 1)|(go_at_call 97;(with_reducible refine (bitmap_size.calls a0_0 t112 _ A5.out).mono ?_);rintro e w' ⟨rfl, ⟨nd, rfl⟩⟩;(try first|exact ⟨rfl, _, World.drewN_drewN _ _ _⟩|exact ⟨rfl, _, Eq.trans (World.drewN_drewN _ _ _) (congrArg (World.drewN _) (Nat.add_assoc _ _ _))⟩);have p113 : 0 ≤ ((ji10) : Int) := zE (by first|(with_reducible assumption)|assumption);have q113 : (ji10) < (l0_1.length : Int) := zE (by first|(with_reducible assumption)|assumption);obtain ⟨ad113, e113, hx113_0⟩ := Kd.at_int HR0_1.out (ji10) p113 q113;cases e113;replace hx113_0 := (HB.out.cell (zz4 w _ hx113_0)).trans hx113_0;replace p113 := eq_true p113;replace q113 := eq_true q113)|(go_at_call 98;(with_reducible refine (bitmap_tail.calls a0_0 t114 _ A13.out).mono ?_);rintro e w' ⟨rfl, ⟨nd, rfl⟩⟩;(try first|exact ⟨rfl, _, World.drewN_drewN _ _ _⟩|exact ⟨rfl, _, Eq.trans (World.drewN_drewN _ _ _) (congrArg (World.drewN _) (Nat.add_assoc _ _ _))⟩)))
      repeat (go_quiet (first|((with_reducible refine gate_dst (N := 1) rfl ?_);(try (refine gate_guard (by rfl) ?_;dsimp only));refine box_event ?hg (N := 1) ?hd (cs := #[.int .i64 a0_0, .slice A0_1 l0_1.length c0_1]) (t := 34) ?hr ?_;(case hd => rfl);(case hg => rfl);(case hr => first|(go_simp;done)|(go_simp;rfl));intro gb111 hg w14 hbox hb;have n0_ := zA (zN (by repeat (first|(with_reducible first|exact HB.out|apply zG|apply zF|apply zH)|exact HB.out)) hb);have n1_ := zA (hbox);have n2_ := zA ((by rw [hg];exact (zO (by repeat (first|(with_reducible first|exact HB.out|apply zG|apply zF|apply zH)|exact HB.out))) : w.heap.size ≤ gb111));have n3_ := zA ((by rw [hg];exact (zO (by repeat (first|(with_reducible first|exact HB.out|apply zG|apply zF|apply zH)|exact HB.out))) : w.heap.size ≤ gb111));clear HB;have HB := n0_;have BK111 := n1_;have GW111 := n2_;have GE111 := n3_;clear n0_ n1_ n2_ n3_;clear hb hbox hg;have hcz15_0 : w14.cell? ⟨gb111, 0, none⟩ = some (.int .i64 a0_0) := (zP BK111.out 0).trans rfl;have hcz15_1 : w14.cell? ⟨gb111, 1, none⟩ = some (.slice A0_1 l0_1.length c0_1) := (zP BK111.out 1).trans rfl;have hfz15_0 := zR BK111.out 0;have hfz15_1 := zR BK111.out 1)|(go_at_call 97;(with_reducible refine (bitmap_size.calls a0_0 t112 _ A5.out).mono ?_);rintro e w' ⟨rfl, ⟨nd, rfl⟩⟩;(try first|exact ⟨rfl, _, World.drewN_drewN _ _ _⟩|exact ⟨rfl, _, Eq.trans (World.drewN_drewN _ _ _) (congrArg (World.drewN _) (Nat.add_assoc _ _ _))⟩);have p113 : 0 ≤ ((ji10) : Int) := zE (by first|(with_reducible assumption)|assumption);have q113 : (ji10) < (l0_1.length : Int) := zE (by first|(with_reducible assumption)|assumption);obtain ⟨ad113, e113, hx113_0⟩ := Kd.at_int HR0_1.out (ji10) p113 q113;cases e113;replace hx113_0 := (HB.out.cell (zz4 w _ hx113_0)).trans hx113_0;replace p113 := eq_true p113;replace q113 := eq_true q113)|(go_at_call 98;(with_reducible refine (bitmap_tail.calls a0_0 t114 _ A13.out).mono ?_);rintro e w' ⟨rfl, ⟨nd, rfl⟩⟩;(try first|exact ⟨rfl, _, World.drewN_drewN _ _ _⟩|exact ⟨rfl, _, Eq.trans (World.drewN_drewN _ _ _) (congrArg (World.drewN _) (Nat.add_assoc _ _ _))⟩)));try go_wp2_with (first|((with_reducible refine gate_dst (N := 1) rfl ?_);(try (refine gate_guard (by rfl) ?_;dsimp only));refine box_event ?hg (N := 1) ?hd (cs := #[.int .i64 a0_0, .slice A0_1 l0_1.length c0_1]) (t := 34) ?hr ?_;(case hd => rfl);(case hg => rfl);(case hr => first|(go_simp;done)|(go_simp;rfl));intro gb111 hg w14 hbox hb;have n0_ := zA (zN (by repeat (first|(with_reducible first|exact HB.out|apply zG|apply zF|apply zH)|exact HB.out)) hb);have n1_ := zA (hbox);have n2_ := zA ((by rw [hg];exact (zO (by repeat (first|(with_reducible first|exact HB.out|apply zG|apply zF|apply zH)|exact HB.out))) : w.heap.size ≤ gb111));have n3_ := zA ((by rw [hg];exact (zO (by repeat (first|(with_reducible first|exact HB.out|apply zG|apply zF|apply zH)|exact HB.out))) : w.heap.size ≤ gb111));clear HB;have HB := n0_;have BK111 := n1_;have GW111 := n2_;have GE111 := n3_;clear n0_ n1_ n2_ n3_;clear hb hbox hg;have hcz15_0 : w14.cell? ⟨gb111, 0, none⟩ = some (.int .i64 a0_0) := (zP BK111.out 0).trans rfl;have hcz15_1 : w14.cell? ⟨gb111, 1, none⟩ = some (.slice A0_1 l0_1.length c0_1) := (zP BK111.out 1).trans rfl;have hfz15_0 := zR BK111.out 0;have hfz15_1 := zR BK111.out 1)|(go_at_call 97;(with_reducible refine (bitmap_size.calls a0_0 t112 _ A5.out).mono ?_);rintro e w' ⟨rfl, ⟨nd, rfl⟩⟩;(try first|exact ⟨rfl, _, World.drewN_drewN _ _ _⟩|exact ⟨rfl, _, Eq.trans (World.drewN_drewN _ _ _) (congrArg (World.drewN _) (Nat.add_assoc _ _ _))⟩);have p113 : 0 ≤ ((ji10) : Int) := zE (by first|(with_reducible assumption)|assumption);have q113 : (ji10) < (l0_1.length : Int) := zE (by first|(with_reducible assumption)|assumption);obtain ⟨ad113, e113, hx113_0⟩ := Kd.at_int HR0_1.out (ji10) p113 q113;cases e113;replace hx113_0 := (HB.out.cell (zz4 w _ hx113_0)).trans hx113_0;replace p113 := eq_true p113;replace q113 := eq_true q113)|(go_at_call 98;(with_reducible refine (bitmap_tail.calls a0_0 t114 _ A13.out).mono ?_);rintro e w' ⟨rfl, ⟨nd, rfl⟩⟩;(try first|exact ⟨rfl, _, World.drewN_drewN _ _ _⟩|exact ⟨rfl, _, Eq.trans (World.drewN_drewN _ _ _) (congrArg (World.drewN _) (Nat.add_assoc _ _ _))⟩))))
      go_ret
      exact ⟨by first|rfl|(simp [errW_none, errW_some] <;> rfl)|(simp only [← hji10];first|rfl|(simp [errW_none, errW_some] <;> rfl))|(simp [*, errW_none, errW_some] <;> rfl), by repeat (first|(with_reducible first|exact HB.out|apply zG|apply zF|apply zH|refine zI ?_ GE111.out)|exact HB.out)⟩
     ·rw [if_neg c12] at H
      exact absurd H (by simp)
    ·rw [if_neg c11] at H
     exact absurd H (by simp)
  ·rw [if_neg c6] at H
   have c6b0 : ((l0_1.length : Int) == t112) = false := beq_eq_false_iff_ne.mpr c6
   have c6b1 : ((l0_1.length : Int) != t112) = true := bne_iff_ne.mpr c6
   obtain rfl := Option.some.inj H
   go_enter Tryd.func61, Tryd.ntmps61
   go_wp2_with (first|((with_reducible refine gate_dst (N := 1) rfl ?_);(try (refine gate_guard (by rfl) ?_;dsimp only));refine box_event ?hg (N := 1) ?hd (cs := #[.int .i64 a0_0, .slice A0_1 l0_1.length c0_1]) (t := 34) ?hr ?_;(case hd => rfl);(case hg => rfl);(case hr => first|(go_simp;done)|(go_simp;rfl));intro gb111 hg w16 hbox hb;have n0_ := zA (zN (by repeat (first|(with_reducible first|exact HB.out|apply zG|apply zF|apply zH)|exact HB.out)) hb);have n1_ := zA (hbox);have n2_ := zA ((by rw [hg];exact (zO (by repeat (first|(with_reducible first|exact HB.out|apply zG|apply zF|apply zH)|exact HB.out))) : w.heap.size ≤ gb111));have n3_ := zA ((by rw [hg];exact (zO (by repeat (first|(with_reducible first|exact HB.out|apply zG|apply zF|apply zH)|exact HB.out))) : w.heap.size ≤ gb111));clear HB;have HB := n0_;have BK111 := n1_;have GW111 := n2_;have GE111 := n3_;clear n0_ n1_ n2_ n3_;clear hb hbox hg;have hcz17_0 : w16.cell? ⟨gb111, 0, none⟩ = some (.int .i64 a0_0) := (zP BK111.out 0).trans rfl;have hcz17_1 : w16.cell? ⟨gb111, 1, none⟩ = some (.slice A0_1 l0_1.length c0_1) := (zP BK111.out 1).trans rfl;have hfz17_0 := zR BK111.out 0;have hfz17_1 := zR BK111.out 1)|(go_at_call 97;(with_reducible refine (bitmap_size.calls a0_0 t112 _ A5.out).mono ?_);rintro e w' ⟨rfl, ⟨nd, rfl⟩⟩;(try first|exact ⟨rfl, _, World.drewN_drewN _ _ _⟩|exact ⟨rfl, _, Eq.trans (World.drewN_drewN _ _ _) (congrArg (World.drewN _) (Nat.add_assoc _ _ _))⟩)))
   repeat (go_quiet (first|((with_reducible refine gate_dst (N := 1) rfl ?_);(try (refine gate_guard (by rfl) ?_;dsimp only));refine box_event ?hg (N := 1) ?hd (cs := #[.int .i64 a0_0, .slice A0_1 l0_1.length c0_1]) (t := 34) ?hr ?_;(case hd => rfl);(case hg => rfl);(case hr => first|(go_simp;done)|(go_simp;rfl));intro gb111 hg w16 hbox hb;have n0_ := zA (zN (by repeat (first|(with_reducible first|exact HB.out|apply zG|apply zF|apply zH)|exact HB.out)) hb);have n1_ := zA (hbox);have n2_ := zA ((by rw [hg];exact (zO (by repeat (first|(with_reducible first|exact HB.out|apply zG|apply zF|apply zH)|exact HB.out))) : w.heap.size ≤ gb111));have n3_ := zA ((by rw [hg];exact (zO (by repeat (first|(with_reducible first|exact HB.out|apply zG|apply zF|apply zH)|exact HB.out))) : w.heap.size ≤ gb111));clear HB;have HB := n0_;have BK111 := n1_;have GW111 := n2_;have GE111 := n3_;clear n0_ n1_ n2_ n3_;clear hb hbox hg;have hcz17_0 : w16.cell? ⟨gb111, 0, none⟩ = some (.int .i64 a0_0) := (zP BK111.out 0).trans rfl;have hcz17_1 : w16.cell? ⟨gb111, 1, none⟩ = some (.slice A0_1 l0_1.length c0_1) := (zP BK111.out 1).trans rfl;have hfz17_0 := zR BK111.out 0;have hfz17_1 := zR BK111.out 1)|(go_at_call 97;(with_reducible refine (bitmap_size.calls a0_0 t112 _ A5.out).mono ?_);rintro e w' ⟨rfl, ⟨nd, rfl⟩⟩;(try first|exact ⟨rfl, _, World.drewN_drewN _ _ _⟩|exact ⟨rfl, _, Eq.trans (World.drewN_drewN _ _ _) (congrArg (World.drewN _) (Nat.add_assoc _ _ _))⟩)));try go_wp2_with (first|((with_reducible refine gate_dst (N := 1) rfl ?_);(try (refine gate_guard (by rfl) ?_;dsimp only));refine box_event ?hg (N := 1) ?hd (cs := #[.int .i64 a0_0, .slice A0_1 l0_1.length c0_1]) (t := 34) ?hr ?_;(case hd => rfl);(case hg => rfl);(case hr => first|(go_simp;done)|(go_simp;rfl));intro gb111 hg w16 hbox hb;have n0_ := zA (zN (by repeat (first|(with_reducible first|exact HB.out|apply zG|apply zF|apply zH)|exact HB.out)) hb);have n1_ := zA (hbox);have n2_ := zA ((by rw [hg];exact (zO (by repeat (first|(with_reducible first|exact HB.out|apply zG|apply zF|apply zH)|exact HB.out))) : w.heap.size ≤ gb111));have n3_ := zA ((by rw [hg];exact (zO (by repeat (first|(with_reducible first|exact HB.out|apply zG|apply zF|apply zH)|exact HB.out))) : w.heap.size ≤ gb111));clear HB;have HB := n0_;have BK111 := n1_;have GW111 := n2_;have GE111 := n3_;clear n0_ n1_ n2_ n3_;clear hb hbox hg;have hcz17_0 : w16.cell? ⟨gb111, 0, none⟩ = some (.int .i64 a0_0) := (zP BK111.out 0).trans rfl;have hcz17_1 : w16.cell? ⟨gb111, 1, none⟩ = some (.slice A0_1 l0_1.length c0_1) := (zP BK111.out 1).trans rfl;have hfz17_0 := zR BK111.out 0;have hfz17_1 := zR BK111.out 1)|(go_at_call 97;(with_reducible refine (bitmap_size.calls a0_0 t112 _ A5.out).mono ?_);rintro e w' ⟨rfl, ⟨nd, rfl⟩⟩;(try first|exact ⟨rfl, _, World.drewN_drewN _ _ _⟩|exact ⟨rfl, _, Eq.trans (World.drewN_drewN _ _ _) (congrArg (World.drewN _) (Nat.add_assoc _ _ _))⟩))))
   go_ret
   exact ⟨by first|rfl|(simp [errW_none, errW_some] <;> rfl)|(simp [*, errW_none, errW_some] <;> rfl), by repeat (first|(with_reducible first|exact HB.out|apply zG|apply zF|apply zH|refine zI ?_ GE111.out)|exact HB.out)⟩

section
open Go.Proofs.YtgddljealeklkaaDoorQ Go.Proofs.YtgddljealeklkaaDoorM Go.Shelf
attribute [local go_sem] Oper.semAt_some
structure RowV (v : Value) (g : Nat) (l : List Int) (W : World) : Prop where mk ::
 out : (v = .slice none 0 0 ∧ l = []) ∨ ∃ cap cur, v = .slice (some ⟨g, 0, none⟩) l.length cap ∧ Blk W g cur 75 ∧ RowA cur (l.map (Value.int .u64))
theorem RowV.heap {v : Value} {g : Nat} {l : List Int} {W W' : World} (h : RowV v g l W) (e : W'.heap[g]? = W.heap[g]?) : RowV v g l W' := by
 rcases h.out with h0 | ⟨cap, cur, h1, h2, h3⟩
 ·exact ⟨.inl h0⟩
 ·exact ⟨.inr ⟨cap, cur, h1, ⟨e.trans h2.out⟩, h3⟩⟩
def bitL (l : List Int) (p : Nat) : Bool := (l.getD (p / 64) 0).toNat.testBit (p % 64)
theorem iv_bitsE {x : Int} (h0 : 0 ≤ x) (h1 : x < 18446744073709551616) : x = iv (word fun j => x.toNat.testBit j) := by
 obtain ⟨v, rfl⟩ := iv_of h0 h1
 exact congrArg iv (eq_word fun i _ => rfl)
theorem bitL_word (l : List Int) (i : Nat) (h : ∀ x ∈ l, 0 ≤ x ∧ x < 18446744073709551616) (hi : i < l.length) : (l.map (Value.int .u64))[i]? = some (.int .u64 (iv (word fun j => bitL l (64 * i + j)))) := by
 have hg : l[i]? = some (l.getD i 0) := by rw [List.getD_eq_getElem?_getD, List.getElem?_eq_getElem hi];rfl
 rw [List.getElem?_map, hg, Option.map_some]
 obtain ⟨h0, h1⟩ := h (l.getD i 0) (List.mem_of_getElem? hg)
 have e : word (fun j => bitL l (64 * i + j)) = word (fun j => (l.getD i 0).toNat.testBit j) := word_ext fun j hj => by
  unfold bitL
  rw [show (64 * i + j) / 64 = i by omega, show (64 * i + j) % 64 = j by omega]
 rw [e, ← iv_bitsE h0 h1]
def inRow (l : List Int) (i : Nat) (hi : i < l.length) (x : SetP 64 fun j => bitL l (64 * i + j)) : SetP (64 * l.length) (bitL l) := ⟨64 * i + x.val, by have := x.2.1;omega, x.2.2⟩
theorem row_set (l : List Int) (i : Nat) (hi : i < l.length) : ∀ k, k ≤ 64 → setP (64 * l.length) (bitL l) (64 * i + k) = setP (64 * l.length) (bitL l) (64 * i) ++ (setP 64 (fun j => bitL l (64 * i + j)) k).map (inRow l i hi)
 | 0, _ => by simp [setP]
 | k + 1, hk => by
  have ih := row_set l i hi k (by omega)
  by_cases h : bitL l (64 * i + k) = true
  ·rw [show 64 * i + (k + 1) = (64 * i + k) + 1 by omega, setP_at ⟨by omega, h⟩, setP_at (n := 64) (q := fun j => bitL l (64 * i + j)) ⟨by omega, h⟩, ih, List.map_append, ← List.append_assoc]
   rfl
  ·rw [show 64 * i + (k + 1) = (64 * i + k) + 1 by omega, setP_skip (fun c => h c.2), setP_skip (n := 64) (q := fun j => bitL l (64 * i + j)) (fun c => h c.2), ih]
structure BEI (α : Type) (J : List Nat → List α → World → Prop) (X : List Nat) (pre0 : List α) {β : Type} (f : β → α) (g2 g5 : Nat) (l i : Nat) (v : Value) (gr : Nat) (L : List Int) (W0 : World) (Ds : List Nat) (m : Nat) (pre : List β) (W : World) : Prop where mk ::
 j : J X (pre0 ++ pre.map f) W
 b2 : Blk W g2 #[.func (.yield l) #[] #[]] 107
 b5 : Blk W g5 #[.int .i64 (i : Int)] 3
 rv : RowV v gr L W
 ht : TabOk W
 mk_ : Marks W0.heap.size Ds W
 sz : m ≤ W.heap.size
theorem RowV.kept {v : Value} {g : Nat} {l : List Int} {W W' : World} (h : RowV v g l W) {row : Option Nat} (hg : W.grownBy W' row) (hr : ∀ r, row = some r → ∃ o : Obj, W.heap[r]? = some o ∧ o.isCells = false) : RowV v g l W' := by
 rcases h.out with h0 | ⟨cap, cur, h1, h2, h3⟩
 ·exact ⟨.inl h0⟩
 ·exact ⟨.inr ⟨cap, cur, h1, h2.kept hg hr, h3⟩⟩
theorem RowV.below {v : Value} {g : Nat} {l : List Int} {W W' : World} (h : RowV v g l W) (hb : Below W.heap.size W W') : RowV v g l W' := by
 rcases h.out with h0 | ⟨cap, cur, h1, h2, h3⟩
 ·exact ⟨.inl h0⟩
 ·exact ⟨.inr ⟨cap, cur, h1, h2.below hb, h3⟩⟩
theorem BEI.kept {α : Type} {J : List Nat → List α → World → Prop} {X : List Nat} {pre0 : List α} {β : Type} {f : β → α} {g2 g5 l i : Nat} {v : Value} {gr : Nat} {L : List Int} {W0 : World} {Ds : List Nat} {m : Nat} {pre : List β} {W W' : World}
  (h : BEI α J X pre0 f g2 g5 l i v gr L W0 Ds m pre W) (hJ : OwnFrom W0.heap.size (J X)) (hm : W0.heap.size ≤ m) (hD : ∀ D ∈ Ds, D < m) {row : Option Nat} (hg : W.grownBy W' row) (hr : ∀ r, row = some r → m ≤ r ∧ ∃ o : Obj, W.heap[r]? = some o ∧ o.isCells = false) : BEI α J X pre0 f g2 g5 l i v gr L W0 Ds m pre W' := by
 have hr' : ∀ r, row = some r → ∃ o : Obj, W.heap[r]? = some o ∧ o.isCells = false := fun r e => (hr r e).2
 exact ⟨hJ _ _ _ _ h.j hg (fun r e => ⟨zz2 hm (hr r e).1, (hr r e).2⟩), h.b2.kept hg hr', h.b5.kept hg hr', h.rv.kept hg hr', h.ht.kept hg hr', h.mk_.grown hg hD (fun r e => (hr r e).1), zz2 h.sz hg.size⟩
set_option maxHeartbeats 4000000 in
set_option maxRecDepth 100000 in
theorem bitmap_Each_1.stops (F : Fence) (HF : Aside0 (F = Fence.wide)) (n : Nat) (hn : 5 ≤ n) (g3 gr : Nat) (v : Value) (L : List Int) (hL : ∀ x ∈ L, 0 ≤ x ∧ x < 18446744073709551616) (hl8 : L.length ≤ 17592186044416) (w : World)
  (B3 : Blk w g3 #[v] 32) (hRV : RowV v gr L w) (hgr : gr < w.heap.size) (hT : TabOk w) :
  SeqO F n Tryd.prog 82 #[.pointer (some ⟨g3, 0, none⟩)] (fun x : SetP (64 * L.length) (bitL L) => #[.int .i64 (x.val : Int)]) (Keep2 0 gr) (fun ys => ys = setP (64 * L.length) (bitL L) (64 * L.length)) (fun pre => pre <+: setP (64 * L.length) (bitL L) (64 * L.length)) w := by
 intro l J Jx W0 hW hJo hJxo hE hA hY h0
 have HAB := zA hA
 clear hA
 have HY := zA hY
 have HJ0 := zA h0
 have HT := zA (hT.step hW)
 have HRV := zA (hRV.below hW)
 have HGR := zA (Nat.lt_of_lt_of_le hgr hW.size)
 have HJO := zA hJo
 have HJXO := zA hJxo
 have HE := zA hE
 have HL := zA hL
 have HL8 := zA hl8
 have C3 := B3.below hW
 clear hJo hJxo hE hY h0 hT hRV hgr hW hL hl8 B3
 have f0 := wide_fn HF 62
 have f2 := wide_fn HF 99
 have n1 : 1 ≤ n := by omega
 have n2 : 1 ≤ n - 1 := by omega
 have n3 : 1 ≤ n - 1 - 1 := by omega
 have hro := wide_round HF
 have HB := BelowH.refl W0
 have c3 := C3.cell (i := 0) rfl
 rcases HRV.out.out with ⟨rfl, rfl⟩ | ⟨cap, cur, rfl, _, _⟩
 ·refine callsIn_of_wp_marks Tryd.func82 rfl (wide_fn HF _) ?_ hro
  simp only [Tryd.ntmps82, List.size_toArray, List.length_cons, List.length_nil, Nat.reduceAdd, Nat.reduceSub, Array.replicate_succ, Array.replicate_zero, List.push_toArray, List.append_toArray, List.nil_append, List.cons_append]
  gi_wp2_with (first
   | (((with_reducible refine gate_dstIn (N := 2) rfl ?_);refine ev_allocIn HB rfl rfl (#[.func (.yield l) #[] #[]]) 107 ?hr ?_;(case hr => first|(go_simp;done)|(go_simp;rfl));intro g2 w2 G_g2 GE_g2 B_g2 HBn K_g2 KO_w2;clear HB;have HB := HBn;clear HBn);have c3' := (C3.below K_g2.out).cell (i := 0) rfl))
  refine wpIn_loopM (fun k a W => a = { tmps := #[.func (.yield l) #[] #[], .pointer (some ⟨g3, 0, none⟩), .pointer (some ⟨g2, 0, none⟩), undef, undef, undef, .slice none 0 0, .int .i64 0, .int .i64 0, undef, undef, undef, undef, undef, undef, undef, undef, undef, undef, undef, undef, undef, undef, undef], defers := [] } ∧ W = w2) 0 ⟨rfl, rfl⟩ ?_
  rintro k a W ⟨rfl, rfl⟩ K hK
  gi_wp2
  exact ⟨_, results_none rfl _ _ _, ⟨_, rfl⟩, .inl ⟨[], [], rfl, fun k hk => (List.not_mem_nil hk).elim, HJO.out [] [] _ _ none HJ0.out ⟨K_g2.out.os, K_g2.out.tape, K_g2.out.output, K_g2.out.size, fun k hk _ => K_g2.out.block k hk⟩ (fun r e => by cases e)⟩⟩
 refine callsIn_of_wp_marks Tryd.func82 rfl (wide_fn HF _) ?_ hro
 simp only [Tryd.ntmps82, List.size_toArray, List.length_cons, List.length_nil, Nat.reduceAdd, Nat.reduceSub, Array.replicate_succ, Array.replicate_zero, List.push_toArray, List.append_toArray, List.nil_append, List.cons_append]
 gi_wp2_with (first
  | (((with_reducible refine gate_dstIn (N := 2) rfl ?_);refine ev_allocIn HB rfl rfl (#[.func (.yield l) #[] #[]]) 107 ?hr ?_;(case hr => first|(go_simp;done)|(go_simp;rfl));intro g2 w2 G_g2 GE_g2 B_g2 HBn K_g2 KO_w2;clear HB;have HB := HBn;clear HBn);have c3' := (C3.below K_g2.out).cell (i := 0) rfl))
 have HJ2 := zA (HJO.out [g2] [] _ _ none (HE.out [] [] W0 g2 HJ0.out G_g2.out) ⟨K_g2.out.os, K_g2.out.tape, K_g2.out.output, K_g2.out.size, fun k hk _ => K_g2.out.block k hk⟩ (fun r e => by cases e))
 have HX2 : Aside0 (∀ k ∈ [g2], W0.heap.size ≤ k ∧ k < w2.heap.size) := ⟨fun k hk => by rw [List.mem_singleton.1 hk];exact ⟨G_g2.out, B_g2.lt⟩⟩
 have HRV2 := zA (HRV.out.below K_g2.out)
 have HT2 := zA (HT.out.step K_g2.out)
 have HZ2 := zA K_g2.out.size
 refine wpIn_loopM (fun m a W => ∃ (i : Nat) (X Ds : List Nat) (z8 : Int) (u3 u4 u5 u9 u10 u11 u12 u13 u14 u15 u16 u17 u18 u19 u20 u21 u22 u23 : Value), m = L.length - i ∧ z8 = (i : Int) ∧ i ≤ L.length ∧ a = { tmps := #[.func (.yield l) #[] #[], .pointer (some ⟨g3, 0, none⟩), .pointer (some ⟨g2, 0, none⟩), u3, u4, u5, .slice (some ⟨gr, 0, none⟩) L.length cap, .int .i64 (L.length : Int), .int .i64 z8, u9, u10, u11, u12, u13, u14, u15, u16, u17, u18, u19, u20, u21, u22, u23], defers := marksD Ds } ∧
  Aside0 (J X (setP (64 * L.length) (bitL L) (64 * i)) W) ∧ Aside0 (g2 ∈ X ∧ ∀ k ∈ X, W0.heap.size ≤ k ∧ k < W.heap.size) ∧ Aside0 (Blk W g2 #[.func (.yield l) #[] #[]] 107) ∧ Aside0 (RowV (.slice (some ⟨gr, 0, none⟩) L.length cap) gr L W) ∧ Aside0 (TabOk W) ∧ Aside0 (Marks W0.heap.size Ds W) ∧ Aside0 (W0.heap.size ≤ W.heap.size)) L.length
  ⟨0, [g2], [], 0, _, _, _, _, _, _, _, _, _, _, _, _, _, _, _, _, _, _, rfl, rfl, Nat.zero_le _, rfl, HJ2, ⟨List.mem_singleton.2 rfl, HX2.out⟩, ⟨B_g2⟩, HRV2, HT2, ⟨Marks.nil⟩, HZ2⟩ ?_
 rintro m a W ⟨i, X, Ds, z8, u3, u4, u5, u9, u10, u11, u12, u13, u14, u15, u16, u17, u18, u19, u20, u21, u22, u23, rfl, hz8, hi, rfl, HJ, HX, B2, HRV, HT, HM, HZ⟩ K hK
 have HKK := zA hK
 clear hK HJ0 HJ2 HX2 HRV2 HT2 HZ2 B_g2 C3 c3 c3' HB K_g2 KO_w2 G_g2 GE_g2
 by_cases hlt : i < L.length
 ·have HLT := zA hlt
  rcases HRV.out.out with ⟨h0, _⟩ | ⟨cap', cur', he, BG, HA⟩
  ·cases h0
  have cw := BG.cell (HA.get (bitL_word L i HL.out hlt))
  obtain ⟨x, hx⟩ : ∃ x, x = iv (word fun j => bitL L (64 * i + j)) := ⟨_, rfl⟩
  rw [← hx] at cw
  have HX0 := zA hx
  have hq1 : (i : Int) < (L.length : Int) := by omega
  have hq2 : (0 : Int) ≤ (i : Int) := by omega
  subst hz8
  have HB := BelowH.refl W
  clear hx hlt BG HA he hi
  gi_wp2_with (first
   | ((with_reducible refine gate_dstIn (N := 3) rfl ?_);refine ev_allocIn HB rfl rfl (#[.int .i64 0]) 3 ?hr ?_;(case hr => first|(go_simp;done)|(go_simp;rfl));intro g5 w5 G_g5 GE_g5 B_g5 HBn K_g5 KO_w5;clear HB;have HB := HBn;clear HBn)
   | ((with_reducible refine gate_In (Op.store 3 (.tmp 3) (.tmp 10)) rfl ?_);refine ev_store1In (i := 0) HB B_g5 GE_g5 rfl 3 _ _ rfl rfl (.int .i64 (i : Int)) rfl (by simp) (by kernel_rfl) rfl ?_;intro w6 B6 HBn K_w6 KO_w6;clear HB;have HB := HBn;clear HBn)
   | (gi_at_call 62;refine (callsIn_of HF (words_Each.calls x _)).mono ?_;rintro e w7 ⟨g1, rfl, GE1, B1, HB7⟩))
  have HBW := HB.step HB7.out
  have B5 := B6.below HB7.out
  have E2 := B2.out.below HBW.out
  have RV7 := HRV.out.below HBW.out
  have HT7 := zA (HT.out.step HBW.out)
  have HM7 := HM.out.below HBW.out
  have hD7 : ∀ D ∈ Ds, D < w7.heap.size := fun D hD => HM7.lt hD
  have hm7 : W0.heap.size ≤ w7.heap.size := zz2 HZ.out HBW.le
  have G15 : W.heap.size ≤ g1 := by have := HB.le;omega
  have HJ7 := HJO.out (g1 :: g5 :: X) _ _ _ none (HE.out _ _ _ g1 (HE.out _ _ _ g5 HJ.out G_g5.out) G15) ⟨HBW.out.os, HBW.out.tape, HBW.out.output, HBW.out.size, fun k hk _ => HBW.out.block k hk⟩ (fun r e => by cases e)
  have HXX : Aside0 (∀ k ∈ g1 :: g5 :: X, W0.heap.size ≤ k ∧ k < w7.heap.size) := ⟨fun k hk => by
   have z1 := HZ.out
   have z2 := HBW.le
   have z3 := B1.lt
   have z4 := B5.lt
   have z5 := G_g5.out
   rcases List.mem_cons.1 hk with rfl|hk
   ·omega
   ·rcases List.mem_cons.1 hk with rfl|hk
    ·omega
    ·have := HX.out.2 k hk
     omega⟩
  rw [HX0.out] at B1
  have P0 := HT7.out.pos
  have L1 := B1.lt
  have HP := zA (And.intro hD7 hm7)
  have HG2 := zA HX.out.1
  clear HB HB7 B6 B_g5 K_g5 K_w6 KO_w5 KO_w6 G_g5 GE_g5 GE1 G15 hD7 hm7 HX B2 HRV HT HM HJ cw
  refine wpIn_rangeFunc_O hro n1 (gf := 99) (lb := #[.pointer (some ⟨g1, 0, none⟩)]) rfl f2 (enters_of Tryd.func99 (by kernel_rfl) rfl)
   (words_Each_1.stopsO F HF (n - 1) (by omega) g1 (fun j => bitL L (64 * i + j)) w7 B1 HT7.out) Keep2.trans (fun W l o o' hl ho hc hw => Keep2.putObj P0 P0 W l o o' hl ho hc hw) (Below.refl _ _) (fun _ => rfl)
   (fun X' => BEI _ J (X' ++ g1 :: g5 :: X) (setP (64 * L.length) (bitL L) (64 * i)) (inRow L i HLT.out) g2 g5 l i (.slice (some ⟨gr, 0, none⟩) L.length cap) gr L W0 Ds w7.heap.size)
   (fun c pre W => c = .ret ∧ Jx (setP (64 * L.length) (bitL L) (64 * i) ++ pre.map (inRow L i HLT.out)) W ∧ Marks W0.heap.size Ds W)
   (fun _ pre A B row hs hg hr => hs.kept (HJO.out _) HP.out.2 HP.out.1 hg hr)
   (fun c pre A B row hs hg hr => ⟨hs.1, HJXO.out _ _ _ _ hs.2.1 hg (fun r e => ⟨zz2 HP.out.2 (hr r e).1, (hr r e).2⟩), hs.2.2.grown hg HP.out.1 (fun r e => (hr r e).1)⟩)
   (fun X' pre A k h hk => ⟨HE.out _ _ _ k h.j hk, h.b2, h.b5, h.rv, h.ht, h.mk_, h.sz⟩)
   (fun X' pre A C hX' h ht => by
    have z1 := HP.out.2
    have z2 := h.sz
    have hXA : ∀ k ∈ X' ++ g1 :: g5 :: X, W0.heap.size ≤ k := fun k hk => by
     rcases List.mem_append.1 hk with hk|hk
     ·have := hX' k hk
      omega
     ·exact (HXX.out k hk).1
    have n2 : g2 ∉ X' := not_mem_above hX' (HXX.out g2 (List.mem_cons_of_mem _ (List.mem_cons_of_mem _ HG2.out))).2
    have n5 : g5 ∉ X' := not_mem_above hX' (HXX.out g5 (List.mem_cons_of_mem _ (List.mem_cons_self ..))).2
    have nr : gr ∉ X' := not_mem_above hX' (by have := HGR.out;omega)
    have n0 : 0 ∉ X' := not_mem_above hX' (by have := HT7.out.pos;omega)
    exact ⟨HAB.out _ _ _ _ hXA h.j (ht.mono fun k hk => List.mem_append_left _ hk), h.b2.turned ht n2, h.b5.turned ht n5, h.rv.heap (ht.block gr (by have := HGR.out;omega) nr), h.ht.heap (ht.block 0 h.ht.pos n0), h.mk_.same (fun D hD => ht.block D (h.mk_.lt hD) (not_mem_above hX' (HP.out.1 D hD))), zz2 h.sz ht.size⟩)
   ⟨by rw [List.map_nil, List.append_nil];exact HJ7, E2, B5, RV7, HT7.out, HM7, Nat.le_refl _⟩
   (fun y a' W => a' = { tmps := #[.func (.yield l) #[] #[], .pointer (some ⟨g3, 0, none⟩), .pointer (some ⟨g2, 0, none⟩), .pointer (some ⟨g5, 0, none⟩), .int .u64 x, .int .i64 ((y.val : Nat) : Int), .slice (some ⟨gr, 0, none⟩) L.length cap, .int .i64 (L.length : Int), .int .i64 (i : Int), .bool true, .int .i64 (i : Int), .pointer (some ⟨gr, i, none⟩), .int .u64 x, .int .u64 x, .func (.func 99) #[] #[.pointer (some ⟨g1, 0, none⟩)], .int .i64 ((y.val : Nat) : Int), u16, u17, u18, u19, u20, u21, u22, u23], defers := [] })
   (fun x a' pre A B row hs hg hr => hs)
   ?assign ?body ?done ?stop
  case assign =>
   intro X' l' pre y W K' hX' hI hsp hK'
   dsimp only
   gi_wp2
   exact hK' _ _ ((KeepsOthers.refl _).from _) (fun _ _ => rfl) ⟨rfl, rfl, Nat.le_refl _⟩ hI rfl
  case body =>
   rintro X' l' pre y a' W' hX' hl ⟨r, hr⟩ hI rfl hsp
   clear hr
   have hpx : (setP (64 * L.length) (bitL L) (64 * i) ++ pre.map (inRow L i HLT.out)) ++ [inRow L i HLT.out y] <+: setP (64 * L.length) (bitL L) (64 * L.length) := by
    have h1 := row_set L i HLT.out 64 (Nat.le_refl _)
    refine List.IsPrefix.trans ?_ (setP_le (i := 64 * i + 64) (by have := HLT.out;omega))
    rw [h1, List.append_assoc]
    refine (List.prefix_append_right_inj _).2 ?_
    have h2 := hsp.map (inRow L i HLT.out)
    rwa [List.map_append] at h2
   have hXi : ∀ k ∈ X' ++ g1 :: g5 :: X, W0.heap.size ≤ k ∧ k < W'.heap.size := fun k hk => by
    rcases List.mem_append.1 hk with hk|hk
    ·have := hX' k hk
     have := HP.out.2
     omega
    ·have := HXX.out k hk
     have := hI.sz
     omega
   obtain ⟨fn, tmps, assign, body, hy, hR⟩ := HY.out (X' ++ g1 :: g5 :: X) _ (inRow L i HLT.out y) W' hXi hI.j hpx
   have e64 : (((inRow L i HLT.out y).val : Nat) : Int) = 64 * (i : Int) + ((y.val : Nat) : Int) := by
    show ((64 * i + y.val : Nat) : Int) = _
    omega
   rw [e64] at hy
   have HR := zA hR
   have c2 := hI.b2.cell (i := 0) rfl
   have c5 := hI.b5.cell (i := 0) rfl
   have hb1 : (i : Int) ≤ 17592186044416 := by have := HL8.out;have := HLT.out;omega
   have hb2 : ((y.val : Nat) : Int) < 64 := by have := y.2.1;omega
   have hw1 : wrap64 (64 * (i : Int)) = 64 * (i : Int) := by unfold wrap64;omega
   have hw2 : wrap64 (64 * (i : Int) + ((y.val : Nat) : Int)) = 64 * (i : Int) + ((y.val : Nat) : Int) := by unfold wrap64;omega
   clear hR e64 hpx hXi hsp
   gi_wp2
   refine (roundIn_wide HF HR.out).mono ?_
   rintro e W2 ⟨hkf, hx, (⟨rfl, hJ2, hk2⟩ | ⟨rfl, hJx2⟩)⟩
   ·have R5 := hx g5 (List.mem_append_right _ (List.mem_cons_of_mem _ (List.mem_cons_self ..)))
    have R2 := hx g2 (List.mem_append_right _ (List.mem_cons_of_mem _ (List.mem_cons_of_mem _ HG2.out)))
    have HJ2 := zA hJ2
    clear hJ2
    gi_wp2
    refine ⟨KeepsFrom.up hkf HP.out.2, fun k hk => hx k (List.mem_append_left _ hk), ⟨hk2.1, hk2.1, hkf.size⟩, ?_, ⟨R2.trans hI.b2.out⟩, ⟨R5.trans hI.b5.out⟩, hI.rv.heap hk2.2.1, hI.ht.keep hk2, hI.mk_.keeps hkf (Nat.le_refl _), zz2 hI.sz hkf.size⟩
    rw [List.map_append, ← List.append_assoc]
    exact HJ2.out
   ·have HJ2 := zA hJx2
    clear hJx2
    gi_wp2
    refine ⟨KeepsFrom.up hkf HP.out.2, fun k hk => hx k (List.mem_append_left _ hk), rfl, ?_, hI.mk_.keeps hkf (Nat.le_refl _)⟩
    rw [List.map_append, ← List.append_assoc]
    exact HJ2.out
  case done =>
   rintro D X' ys W' hD hX' rfl hI hK'
   have HXD := zA hX'
   clear hX'
   have HDn : D ∉ Ds := fun c => by have := HP.out.1 D c;omega
   have HM' := zA (hI.mk_.cons (zz2 HP.out.2 hD) hK' HDn)
   have hI' := zA hI
   have hb1 : (i : Int) ≤ 17592186044416 := by have := HL8.out;have := HLT.out;omega
   have hw1 : wrap64 ((i : Int) + 1) = (i : Int) + 1 := by unfold wrap64;omega
   have HD' := zA (zz2 HP.out.2 hI.sz)
   clear hI hK' hD HDn
   gi_wp2
   refine HKK.out (L.length - (i + 1)) _ _ (by have := HLT.out;omega) ⟨i + 1, X' ++ g1 :: g5 :: X, D :: Ds, _, _, _, _, _, _, _, _, _, _, _, _, _, _, _, _, _, _, _, rfl, by omega, by have := HLT.out;omega, rfl, ?_, ⟨List.mem_append_right _ (List.mem_cons_of_mem _ (List.mem_cons_of_mem _ HG2.out)), fun k hk => by
    rcases List.mem_append.1 hk with hk|hk
    ·have := HXD.out k hk
     have := HP.out.2
     omega
    ·have := HXX.out k hk
     have := hI'.out.sz
     omega⟩, ⟨hI'.out.b2⟩, ⟨hI'.out.rv⟩, ⟨hI'.out.ht⟩, HM', HD'⟩
   refine ⟨?_⟩
   rw [show 64 * (i + 1) = 64 * i + 64 by omega, row_set L i HLT.out 64 (Nat.le_refl _)]
   exact hI'.out.j
  case stop =>
   rintro D c pre W' hD hp ⟨rfl, hJ2, hM2⟩ hK'
   have HDn : D ∉ Ds := fun c => by have := HP.out.1 D c;omega
   have HM' := zA (hM2.cons (zz2 HP.out.2 hD) hK' HDn)
   have HJ2 := zA hJ2
   have HPR := zA hp
   clear hJ2 hM2 hK' hD HDn hp
   gi_wp2
   refine leaves_marksS (S := fun A => Jx (setP (64 * L.length) (bitL L) (64 * i) ++ pre.map (inRow L i HLT.out)) A) (fun A D' hs h1 h2 => HJXO.out.putObj _ hs h1 h2 rfl) (D :: Ds) W' HJ2.out HM'.out fun A hA => ⟨_, results_none rfl _ _ _, ⟨_, rfl⟩, .inr ⟨_, ?_, hA⟩⟩
   have h1 := row_set L i HLT.out 64 (Nat.le_refl _)
   refine List.IsPrefix.trans ?_ (setP_le (i := 64 * i + 64) (by have := HLT.out;omega))
   rw [h1]
   exact (List.prefix_append_right_inj _).2 (HPR.out.map _)
 ·have EI : i = L.length := by omega
  subst hz8
  have hq1 : decide (i < L.length) = false := decide_eq_false (by omega)
  have HI := zA EI
  clear EI hlt hi
  gi_wp2
  refine leaves_marksS (S := fun A => J X (setP (64 * L.length) (bitL L) (64 * i)) A ∧ W.heap.size ≤ A.heap.size) (fun A D' hs h1 h2 => ⟨(HJO.out X).putObj _ hs.1 h1 h2 rfl, by simpa using hs.2⟩) Ds W ⟨HJ.out, Nat.le_refl _⟩ HM.out fun A hA => ⟨_, results_none rfl _ _ _, ⟨_, rfl⟩, .inl ⟨_, X, ?_, ?_, hA.1⟩⟩
  ·rw [HI.out]
  ·intro k hk
   have := HX.out.2 k hk
   have := hA.2
   omega
end


section
open Go.Proofs.YtgddljealeklkaaDoorQ Go.Proofs.YtgddljealeklkaaDoorM
structure BEachO (w w' : World) (g3 : Nat) (l : List Int) : Prop where mk ::
 out : ∃ (gr : Nat) (v : Value), w.heap.size ≤ g3 ∧ w.heap.size ≤ gr ∧ gr < w'.heap.size ∧ Blk w' g3 #[v] 32 ∧ RowV v gr l w'
 hb : BelowH w w'
set_option maxHeartbeats 4000000 in
set_option maxRecDepth 100000 in
theorem bitmap_Each.calls (n : Int) (A : Option Addr) (cap : Nat) (l : List Int) (t : Bool) (w : World) (hr : Kd.C (Kd.int .u64) w A l.length l) (hc : l.length ≤ cap) (hb8 : l.length * 8 ≤ 140737488355328) (hF : bitmap_Formed.f n l = some t) :
  Calls Tryd.prog 47 #[.agg #[.int .i64 n, .slice A l.length cap]] w fun e w' => ∃ g3 : Nat, e = .returned (.func (.func 82) #[] #[.pointer (some ⟨g3, 0, none⟩)]) ∧ BEachO w w' g3 (if t then l else []) := by
 have HB := BelowH.refl w
 have HR := zA hr
 have HC := zA hc
 have HF := zA hF
 have H8 := zA hb8
 clear hr hc hF hb8
 cases t with
 | false =>
  go_enter Tryd.func47, Tryd.ntmps47
  go_wp2_with (first
   | ((with_reducible refine gate_dst (N := 1) rfl ?_);refine ev_alloc HB rfl (#[.int .i64 n, .slice A l.length cap]) 34 ?hr ?_;(case hr => first|(go_simp;done)|(go_simp;rfl));intro g1 w1 G_g1 GE_g1 B_g1 HBn K_g1;clear HB;have HB := HBn;clear HBn)
   | ((with_reducible refine gate_dst (N := 3) rfl ?_);refine ev_alloc HB rfl (#[.slice none 0 0]) 32 ?hr ?_;(case hr => first|(go_simp;done)|(go_simp;rfl));intro g3 w3 G_g3 GE_g3 B_g3 HBn K_g3;clear HB;have HB := HBn;clear HBn)
   | ((with_reducible refine gate_dst (N := 4) rfl ?_);refine ev_loadS (B_g1.below K_g3.out) rfl 34 _ rfl rfl Tryd.underlying34 rfl (by kernel_rfl) ?_)
   | (go_at_call 61;refine (bitmap_Formed.calls n A cap l false _ (Kd.C_below HR.out HB.out) HC.out HF.out).mono ?_;rintro e w4 ⟨rfl, hb4⟩;have HK4 := zA hb4;have HB4 := HB.step hb4;clear hb4))
  go_ret
  exact ⟨g3, rfl, ⟨g3, _, GE_g3.out, GE_g3.out, (B_g3.below HK4.out).lt, B_g3.below HK4.out, ⟨.inl ⟨rfl, rfl⟩⟩⟩, HB4⟩
 | true =>
  go_enter Tryd.func47, Tryd.ntmps47
  go_upto_region 3 with (first
   | ((with_reducible refine gate_dst (N := 1) rfl ?_);refine ev_alloc HB rfl (#[.int .i64 n, .slice A l.length cap]) 34 ?hr ?_;(case hr => first|(go_simp;done)|(go_simp;rfl));intro g1 w1 G_g1 GE_g1 B_g1 HBn K_g1;clear HB;have HB := HBn;clear HBn)
   | ((with_reducible refine gate_dst (N := 3) rfl ?_);refine ev_alloc HB rfl (#[.slice none 0 0]) 32 ?hr ?_;(case hr => first|(go_simp;done)|(go_simp;rfl));intro g3 w3 G_g3 GE_g3 B_g3 HBn K_g3;clear HB;have HB := HBn;clear HBn)
   | ((with_reducible refine gate_dst (N := 4) rfl ?_);refine ev_loadS (B_g1.below K_g3.out) rfl 34 _ rfl rfl Tryd.underlying34 rfl (by kernel_rfl) ?_)
   | (go_at_call 61;refine (bitmap_Formed.calls n A cap l true _ (Kd.C_below HR.out HB.out) HC.out HF.out).mono ?_;rintro e w4 ⟨rfl, hb4⟩;have HK4 := zA hb4;have HB4 := HB.step hb4;clear hb4))
  have D1 := (B_g1.below K_g3.out).below HK4.out
  have D3 := B_g3.below HK4.out
  have c11 := D1.cell (i := 1) rfl
  have c3 := D3.cell (i := 0) rfl
  go_wp2_with (first
   | ((with_reducible refine gate_dst (N := 9) rfl ?_);refine print_append_row_of (w0 := w) (Value.int .u64) (0 : Int) w.heap.size rfl _ _ 32 75 (.int .u64 0) 8 rfl Tryd.underlying32 (by kernel_rfl) rfl (by decide) (fun _ => rfl) (.slice none 0 0) [] l A l.length cap rfl rfl (World.ownsRow_nil _ _ _ _) (Kd.reads_of_C (d := (0 : Int)) (Kd.C_below HR.out HB4.out)) HB4.out HB4.le (by simpa using H8.out) ?_;intro v5 w5 hrow5 hb5 hg5 hat5;have HROW := zA hrow5;have HB5 : BelowH w w5 := ⟨hb5⟩;have HG5 := zA hg5;have d3 : Blk w5 g3 #[.slice none 0 0] 32 := ⟨(hg5.block _ D3.lt (fun e => by simp [Value.ownBlock] at e)).trans D3.out⟩;clear hrow5 hb5 hg5 hat5)
   | ((with_reducible refine gate_ (Op.store 32 (.tmp 3) (.tmp 9)) rfl ?_);refine ev_store1 (i := 0) HB5 d3 GE_g3 rfl 32 _ _ rfl rfl v5 rfl (by simp) (by kernel_rfl) (row_one HROW.out) ?_;intro w6 B6 HB6 K_w6))
  go_ret
  obtain ⟨hl, hv⟩ := row_open HROW.out
  rcases hv with ⟨rfl, h0⟩ | ⟨g, cap', cur, rfl, hbg, BG, h1, h2, h3, HA⟩
  ·refine ⟨g3, rfl, ⟨g3, _, GE_g3.out, GE_g3.out, B6.lt, B6, ⟨.inl ⟨rfl, ?_⟩⟩⟩, HB6⟩
   simpa using h0
  ·have hne : g ≠ g3 := BG.ne d3 (by decide)
   have BG6 := BG.other K_w6 hne
   refine ⟨g3, rfl, ⟨g, _, GE_g3.out, hbg, BG6.lt, B6, ⟨.inr ⟨cap', cur, ?_, BG6, ?_⟩⟩⟩, HB6⟩
   ·simp
   ·simpa [encs] using HA
end


section
open Go.Proofs.YtgddljealeklkaaDoorQ Go.Proofs.YtgddljealeklkaaDoorM Go.Shelf
attribute [local go_sem] Oper.semAt_some
def rowOk (L : List Int) : Bool := decide (L.length ≤ 268435456) && L.all fun x => decide (0 ≤ x) && decide (x < 18446744073709551616)
theorem rowOk_spec {L : List Int} (h : rowOk L = true) : L.length ≤ 268435456 ∧ ∀ x ∈ L, 0 ≤ x ∧ x < 18446744073709551616 := by
 unfold rowOk at h
 simp only [Bool.and_eq_true, decide_eq_true_eq, List.all_eq_true] at h
 exact h
def valI {n : Nat} {q : Nat → Bool} (l : List (SetP n q)) : List Int := l.map fun x => ((x.val : Nat) : Int)
theorem valI_snoc {n : Nat} {q : Nat → Bool} (l : List (SetP n q)) (x : SetP n q) : valI (l ++ [x]) = valI l ++ [((x.val : Nat) : Int)] := by unfold valI;rw [List.map_append];rfl
def setI (L : List Int) : List Int := valI (setP (64 * L.length) (bitL L) (64 * L.length))
def withinL (L : List Int) (a b : Int) : List Int := ((setI L).takeWhile fun p => decide (p < b)).filter fun p => decide (a ≤ p)
def levels_within.f (l0 : List S34) (a1 a2_0 a2_1 : Int) : Option (List Int) :=
 if a1 < 1 ∨ (l0.length : Int) < a1 then some [] else if l0.length ≤ 1099511627776 then
  (bitmap_Formed.f (rd_T34 l0 (a1 - 1)).f0 (rd_T34 l0 (a1 - 1)).f1).bind fun t => if rowOk (rd_T34 l0 (a1 - 1)).f1 = true then some (withinL (if t then (rd_T34 l0 (a1 - 1)).f1 else []) a2_0 a2_1) else none else none
def accW (a : Int) (l : List Int) : List Int := l.filter fun p => decide (a ≤ p)
theorem accW_snoc (a : Int) (l : List Int) (p : Int) : accW a (l ++ [p]) = if a ≤ p then accW a l ++ [p] else accW a l := by
 unfold accW
 rw [List.filter_append]
 by_cases h : a ≤ p
 ·rw [if_pos h]
  simp [h]
 ·rw [if_neg h]
  simp [h]
theorem take_all {L : List Int} {b : Int} (h : ∀ p ∈ L, p < b) : L.takeWhile (fun p => decide (p < b)) = L := by
 induction L with
 | nil => rfl
 | cons y ys ih =>
  have h1 : decide (y < b) = true := zz1 (h y (List.mem_cons_self ..))
  rw [List.takeWhile_cons, h1, if_pos rfl, ih (fun p hp => h p (List.mem_cons_of_mem _ hp))]
theorem take_stop {pre : List Int} {x b : Int} (h : ∀ p ∈ pre, p < b) (hx : ¬ x < b) : ∀ t, (pre ++ x :: t).takeWhile (fun p => decide (p < b)) = pre := by
 intro t
 induction pre with
 | nil => simp [List.takeWhile_cons, hx]
 | cons y ys ih =>
  have h1 : decide (y < b) = true := zz1 (h y (List.mem_cons_self ..))
  rw [List.cons_append, List.takeWhile_cons, h1, if_pos rfl, ih (fun p hp => h p (List.mem_cons_of_mem _ hp))]
structure WiI (L : List Int) (a b : Int) (w : World) (g5 g7 m : Nat) (X : List Nat) (pre : List Int) (W : World) : Prop where mk ::
 gr : Gr1 3 36 ((accW a pre).map (Value.int .i64)) w g7 m X W
 b5 : Blk W g5 #[.int .i64 a, .int .i64 b] 26
 lt : ∀ p ∈ pre, p < b
def WiStop (a b : Int) (L : List Int) (w : World) (g5 g7 m : Nat) {n : Nat} {q : Nat → Bool} (c : Code) (pre : List (SetP n q)) (W : World) : Prop :=
 c = .exit 0 ∧ ∃ pre' x, pre = pre' ++ [x] ∧ ¬ (((x.val : Nat) : Int) < b) ∧ ∃ X, WiI L a b w g5 g7 m X (valI pre') W
set_option maxHeartbeats 4000000 in
set_option maxRecDepth 100000 in
theorem levels_within.some_ (A0 : Option Addr) (c0 : Nat) (l0 : List S34) (a1 a2_0 a2_1 : Int) (t : Bool) (w : World) (hT : TabOk w) (hr0 : Kd.C k34 w A0 l0.length l0) (hl0 : l0.length ≤ 1099511627776) (h1 : 1 ≤ a1) (h2 : a1 ≤ (l0.length : Int))
    (hf : bitmap_Formed.f (rd_T34 l0 (a1 - 1)).f0 (rd_T34 l0 (a1 - 1)).f1 = some t) (hok : rowOk (rd_T34 l0 (a1 - 1)).f1 = true) :
    Calls Tryd.prog 71 #[.slice A0 l0.length c0, .int .i64 a1, .agg #[.int .i64 a2_0, .int .i64 a2_1]] w fun e w' => ∃ v : Value, e = .returned v ∧ w'.ownsRow w.heap.size 3 1 v (withinL (if t then (rd_T34 l0 (a1 - 1)).f1 else []) a2_0 a2_1).length ((withinL (if t then (rd_T34 l0 (a1 - 1)).f1 else []) a2_0 a2_1).map (Value.int .i64)) ∧ Below w.heap.size w w' := by
  obtain ⟨F, hF⟩ : ∃ F, F = Fence.wide := ⟨_, rfl⟩
  have HF := zA hF
  refine (callsIn_wide (n := 9)).1 ?_
  rw [← hF]
  clear hF
  have hro := wide_round HF
  have HB := BelowH.refl w
  have f1 := wide_fn HF 47
  have f2 := wide_fn HF 82
  have HT := zA hT
  obtain ⟨z, hz⟩ : ∃ z : Int, z = a1 - 1 := ⟨_, rfl⟩
  rw [← hz] at hf hok
  rw [← hz]
  obtain ⟨x, hx⟩ : ∃ x, x = rd_T34 l0 z := ⟨_, rfl⟩
  obtain ⟨ad, A1, c1, rfl, e0, e1, hc1, hC⟩ := at_T34 hr0 z (by omega) (by omega)
  rw [← hx] at e0 e1 hc1 hC hf hok
  rw [← hx]
  obtain ⟨hL8, hRG⟩ := rowOk_spec hok
  obtain ⟨n, L⟩ := x
  dsimp only at e0 e1 hc1 hC hf hL8 hRG ⊢
  obtain ⟨L', hL'⟩ : ∃ L', L' = (if t then L else []) := ⟨_, rfl⟩
  rw [← hL']
  obtain ⟨R, hR⟩ : ∃ R, R = withinL L' a2_0 a2_1 := ⟨_, rfl⟩
  rw [← hR]
  have HRR := zA hR
  have HL8 : Aside0 (L'.length ≤ 268435456) := ⟨by rw [hL'];cases t;exact Nat.zero_le _;exact hL8⟩
  have HRG : Aside0 (∀ x ∈ L', 0 ≤ x ∧ x < 18446744073709551616) := ⟨fun x hx => by rw [hL'] at hx;cases t;cases hx;exact hRG x hx⟩
  have EC : Aside0 (∀ W, Below w.heap.size w W → Calls Tryd.prog 47 #[.agg #[.int .i64 n, .slice A1 L.length c1]] W fun e w' => ∃ g3 : Nat, e = .returned (.func (.func 82) #[] #[.pointer (some ⟨g3, 0, none⟩)]) ∧ BEachO W w' g3 L') := ⟨fun W hb => by
    have := bitmap_Each.calls n A1 c1 L t W (Kd.C_below hC hb) hc1 (by omega) hf
    rw [← hL'] at this
    exact this⟩
  have HE0 := zA e0
  have HE1 := zA e1
  have HA : Aside0 ((ad.add (z.toNat * 2)).block < w.heap.size) := ⟨zz4 w _ e0⟩
  have q1 : decide (a1 < 1) = false := decide_eq_false (by omega)
  have q2 : decide ((l0.length : Int) < a1) = false := decide_eq_false (by omega)
  have q3 : wrap64 (a1 - 1) = z := by unfold wrap64;omega
  have q4 : IntKind.i64.wrap (a1 - 1) = z := by rw [i64_w];exact q3
  have q5 : (0 : Int) ≤ z := by omega
  have q6 : z < (l0.length : Int) := by omega
  have hu34 := Tryd.underlying34
  clear hT hr0 hf hok hz hx hR hL' hL8 hRG hC hc1 e0 e1 hl0 h1 h2
  refine callsIn_of_wp_marks Tryd.func71 rfl (wide_fn HF _) ?_ hro
  simp only [Tryd.ntmps71, List.size_toArray, List.length_cons, List.length_nil, Nat.reduceAdd, Nat.reduceSub, Array.replicate_succ, Array.replicate_zero, List.push_toArray, List.append_toArray, List.nil_append, List.cons_append]
  gi_wp2_with (first
    | ((with_reducible refine gate_dstIn (N := 5) rfl ?_);refine ev_allocIn HB rfl rfl (#[.int .i64 a2_0, .int .i64 a2_1]) 26 ?hr ?_;(case hr => first|(go_simp;done)|(go_simp;rfl));intro g5 w5 G_g5 GE_g5 B_g5 HBn K_g5 KO_w5;clear HB;have HB := HBn;clear HBn)
    | (((with_reducible refine gate_dstIn (N := 7) rfl ?_);refine ev_allocIn HB rfl rfl (#[.slice none 0 0]) 36 ?hr ?_;(case hr => first|(go_simp;done)|(go_simp;rfl));intro g7 w7 G_g7 GE_g7 B_g7 HBn K_g7 KO_w7;clear HB;have HB := HBn;clear HBn);have e0 : w7.cell? (ad.add (z.toNat * 2)) = some (.int .i64 n) := (HB.out.cell (p := ad.add (z.toNat * 2)) HA.out).trans HE0.out;have e1 : w7.cell? ⟨(ad.add (z.toNat * 2)).block, (ad.add (z.toNat * 2)).off + 1, none⟩ = some (.slice A1 L.length c1) := (HB.out.cell (p := ⟨(ad.add (z.toNat * 2)).block, (ad.add (z.toNat * 2)).off + 1, none⟩) HA.out).trans HE1.out)
    | (gi_at_call 47;refine (callsIn_of HF (EC.out _ HB.out)).mono ?_;rintro e w8 ⟨ge, rfl, hO⟩;have HO := zA hO;clear hO e0 e1))
  obtain ⟨⟨gr, vr, GEe, GEr, Lr, BE, RV⟩, HB8⟩ := HO.out
  have HBW := HB.step HB8.out
  have T8 := HT.out.stepH HBW
  have P0 := T8.pos
  have D5 := (B_g5.below K_g7.out).below HB8.out
  have D7 := B_g7.below HB8.out
  have I8 : Aside0 (WiI L a2_0 a2_1 w g5 g7 w8.heap.size [] [] w8) := ⟨⟨⟨⟨_, D7, World.ownsRow_nil _ _ _ _, fun b hb => by cases hb⟩, HBW, Nat.le_refl _⟩, D5, fun p hp => by cases hp⟩⟩
  have PM : Aside0 (g5 < w8.heap.size ∧ g7 < w8.heap.size ∧ w.heap.size ≤ g7 ∧ w.heap.size ≤ w8.heap.size ∧ gr ≠ g7 ∧ g7 ≠ 0 ∧ g5 ≠ g7) := ⟨⟨D5.lt, D7.lt, GE_g7.out, HBW.le, by have := D7.lt;have := B_g7.lt;omega, by have := HT.out.pos;have := GE_g7.out;omega, by have := B_g5.lt;have := G_g7.out;omega⟩⟩
  clear HO GEe GEr HB8 HBW HB D5 D7 B_g5 B_g7 K_g5 K_g7 KO_w5 KO_w7 G_g5 G_g7 GE_g5 GE_g7 HE0 HE1 HA EC
  refine wpIn_rangeFunc_O hro (by decide) (gf := 82) (lb := #[.pointer (some ⟨ge, 0, none⟩)]) rfl f2 (enters_of Tryd.func82 (by kernel_rfl) rfl)
    (bitmap_Each_1.stops F HF (9 - 1) (by decide) ge gr vr L' HRG.out (by have := HL8.out;omega) w8 BE RV Lr T8) Keep2.trans (fun W l o o' hl ho hc hw => Keep2.putObj P0 Lr W l o o' hl ho hc hw) (Below.refl _ _) (fun _ => rfl)
    (fun X pre W => WiI L a2_0 a2_1 w g5 g7 w8.heap.size X (valI pre) W)
    (fun c pre W => WiStop a2_0 a2_1 L w g5 g7 w8.heap.size c pre W)
    (fun X pre A B row hs hg hr => ⟨hs.gr.kept PM.out.2.2.2.1 hg hr, hs.b5.kept hg (fun r e => (hr r e).2), hs.lt⟩)
    (fun c pre A B row hs hg hr => ⟨hs.1, by
      obtain ⟨pre', x, h1, h2, X, h3⟩ := hs.2
      exact ⟨pre', x, h1, h2, X, h3.gr.kept PM.out.2.2.2.1 hg hr, h3.b5.kept hg (fun r e => (hr r e).2), h3.lt⟩⟩)
    (fun X pre A k h hk => ⟨h.gr.more hk, h.b5, h.lt⟩)
    (fun X pre A C hX h ht => ⟨h.gr.turned hX ht PM.out.2.1 PM.out.2.2.2.1, h.b5.turned ht (not_mem_above hX PM.out.1), h.lt⟩)
    I8.out
    (fun x a' W => ∃ (yz : Int) (y0 y1 y2 y3 y4 y6 y9 y10 y11 y12 y13 y14 y15 y16 y17 y18 y19 y20 y21 y22 y23 y24 y25 y26 y27 y28 y29 y30 y31 y32 y33 y34 y35 y36 : Value), Aside0 (yz = ((x.val : Nat) : Int)) ∧ a' = { tmps := #[y0, y1, y2, y3, y4, .pointer (some ⟨g5, 0, none⟩), y6, .pointer (some ⟨g7, 0, none⟩), .int .i64 yz, y9, y10, y11, y12, y13, y14, y15, y16, y17, y18, y19, y20, y21, y22, y23, y24, y25, y26, y27, y28, y29, y30, y31, y32, y33, y34, y35, y36], defers := [] })
    (fun x a' pre A B row hs hg hr => hs)
    ?assign ?body ?done ?stop
  case assign =>
    intro X l pre y W K hX hI hsp hK
    dsimp only
    gi_wp2
    exact hK _ _ ((KeepsOthers.refl _).from _) (fun _ _ => rfl) ⟨rfl, rfl, Nat.le_refl _⟩ hI ⟨_, _, _, _, _, _, _, _, _, _, _, _, _, _, _, _, _, _, _, _, _, _, _, _, _, _, _, _, _, _, _, _, _, _, _, ⟨rfl⟩, rfl⟩
  case body =>
    rintro X l pre y a' W hX hl ⟨r, hr⟩ hI ⟨yz, y0, y1, y2, y3, y4, y6, y9, y10, y11, y12, y13, y14, y15, y16, y17, y18, y19, y20, y21, y22, y23, y24, y25, y26, y27, y28, y29, y30, y31, y32, y33, y34, y35, y36, HY, rfl⟩ hsp
    have HXA := zA hX
    have HI := zA hI
    have c50 : W.cell? ⟨g5, 0, none⟩ = some (.int .i64 a2_0) := hI.b5.cell (i := 0) rfl
    have c51 : W.cell? ⟨g5, 1, none⟩ = some (.int .i64 a2_1) := hI.b5.cell (i := 1) rfl
    have hlen : Aside0 (((accW a2_0 (valI pre)).map (Value.int .i64)).length + 1 ≤ 17592186044416) := ⟨by
      have h1 := hsp.length_le
      have h2 := setP_length (n := 64 * L'.length) (q := bitL L') (64 * L'.length)
      have h3 := HL8.out
      rw [List.length_append, List.length_singleton] at h1
      have h4 : (accW a2_0 (valI pre)).length ≤ pre.length := by
        unfold accW
        have := List.length_filter_le (fun p => decide (a2_0 ≤ p)) (valI pre)
        have e9 : (valI pre).length = pre.length := by unfold valI;rw [List.length_map]
        rwa [e9] at this
      rw [List.length_map]
      omega⟩
    have hmap : Aside0 (valI (pre ++ [y]) = valI pre ++ [yz]) := ⟨by rw [valI_snoc, HY.out]⟩
    clear hX hl hr hI hsp
    by_cases k1 : yz < a2_1
    · have d1 : decide (a2_1 ≤ yz) = false := decide_eq_false (by omega)
      have K1 := zA k1
      clear k1
      by_cases k2 : a2_0 ≤ yz
      · have d2 : decide (a2_0 ≤ yz) = true := zz1 k2
        have HAC : Aside0 (accW a2_0 (valI (pre ++ [y])) = accW a2_0 (valI pre) ++ [yz]) := ⟨by rw [hmap.out, accW_snoc, if_pos k2]⟩
        clear k2
        obtain ⟨va, BV, _⟩ := HI.out.gr.g
        have c7 : W.cell? ⟨g7, 0, none⟩ = some va := BV.cell (i := 0) rfl
        have HBx := HI.out.gr.hb
        gi_wp2_with (first
          | ((with_reducible refine gate_dstIn (N := 34) rfl ?_);refine ev_lit1In HBx rfl rfl (.int .i64 yz) 3 ?hr ?_;(case hr => first|(go_simp;done)|(go_simp;rfl));intro gl w11 G_gl B_gl HB11 K_gl KO11;have G := zA (HI.out.gr.below K_gl.out);
              obtain ⟨v2, BV2, RV2, hgrow⟩ := G.out.grow PM.out.2.1 PM.out.2.2.1 (fun k hk => Nat.lt_of_lt_of_le (HXA.out k hk).2 K_gl.out.size) (fun k hk => (HXA.out k hk).1) (u := .int .i64 yz);
              obtain rfl : v2 = va := blk_same BV2 (BV.below K_gl.out);have HG := zA hgrow;clear hgrow)
          | ((with_reducible refine gate_dstIn (N := 35) rfl ?_);refine ev_append2In rfl _ _ 36 3 (.int .i64 0) 8 rfl Tryd.underlying36 (by kernel_rfl) rfl (by decide) v2 _ _ RV2 rfl ⟨gl, 0, none⟩ 1 1 [.int .i64 yz] rfl rfl (by decide) (lit_news B_gl) (lit_one rfl) (by have := hlen.out;omega) ?_;intro v3 w12 hA;
              obtain ⟨⟨BG, hone⟩, _⟩ := HG.out v3 w12 w12 hA.out)
          | ((with_reducible refine gate_In (Op.store 36 (.tmp 7) (.tmp 35)) rfl ?_);refine ev_put1In (i := 0) BG rfl 36 _ _ rfl rfl v3 rfl (by simp) (by kernel_rfl) hone ?_;intro w13 B13 hg13;
              have FIN := zA ((HG.out v3 w12 w13 hA.out).2 B13 hg13.out)))
        obtain ⟨GN, hXk, hlow, hsz, hKO⟩ := FIN.out
        have q := PM.out
        have Z := HI.out.gr.sz
        refine ⟨((keepsOthers_below K_gl.out).trans hKO).from _, fun k hk => (hXk k hk).trans (K_gl.out.block k (HXA.out k hk).2), ⟨(hlow 0 (by omega) (by omega)).trans (K_gl.out.block 0 (by omega)), (hlow gr (by omega) (by omega)).trans (K_gl.out.block gr (by omega)), zz2 K_gl.out.size hsz⟩, ?_⟩
        refine ⟨?_, ⟨(hlow g5 (by omega) q.2.2.2.2.2.2).trans ((K_gl.out.block g5 (by omega)).trans HI.out.b5.out)⟩, ?_⟩
        · rw [HAC.out, List.map_append]
          exact GN
        · rw [hmap.out]
          intro p hp
          rcases List.mem_append.1 hp with hp|hp
          · exact HI.out.lt p hp
          · rw [List.mem_singleton.1 hp]
            exact K1.out
      · have d2 : decide (a2_0 ≤ yz) = false := decide_eq_false k2
        have HAC : Aside0 (accW a2_0 (valI (pre ++ [y])) = accW a2_0 (valI pre)) := ⟨by rw [hmap.out, accW_snoc, if_neg k2]⟩
        clear k2
        gi_wp2
        refine ⟨(KeepsOthers.refl _).from _, fun _ _ => rfl, ⟨rfl, rfl, Nat.le_refl _⟩, ?_, HI.out.b5, ?_⟩
        · rw [HAC.out]
          exact HI.out.gr
        · rw [hmap.out]
          intro p hp
          rcases List.mem_append.1 hp with hp|hp
          · exact HI.out.lt p hp
          · rw [List.mem_singleton.1 hp]
            exact K1.out
    · have d1 : decide (a2_1 ≤ yz) = true := zz1 (by omega)
      have K1 := zA k1
      clear k1
      gi_wp2
      refine ⟨(KeepsOthers.refl _).from _, fun _ _ => rfl, rfl, pre, y, rfl, ?_, X, HI.out⟩
      rw [← HY.out]
      have := K1.out
      omega
  case done =>
    rintro D X ys W hD hX rfl hI hK
    have HM : Marks w.heap.size [D] W := Marks.nil.cons (zz2 PM.out.2.2.2.1 hD) hK (List.not_mem_nil)
    obtain ⟨va, BV, RVa, _⟩ := hI.gr.g
    have c7 : W.cell? ⟨g7, 0, none⟩ = some va := BV.cell (i := 0) rfl
    have HI := zA hI
    have HRV := zA RVa
    have HMM := zA HM
    have HR2 : Aside0 (accW a2_0 (valI (setP (64 * L'.length) (bitL L') (64 * L'.length))) = R) := ⟨by
      rw [HRR.out]
      unfold withinL
      rw [take_all (by unfold setI;exact hI.lt)]
      rfl⟩
    clear hX hK hI RVa HM hD
    gi_wp2
    exact leaves_marksS (S := fun A => A.ownsRow w.heap.size 3 1 va R.length (R.map (Value.int .i64)) ∧ BelowH w A) (fun A D' hs h1 h2 => by
      have hg := grownBy_putObj' A D' (.deferred none)
      exact ⟨row_kept hs.1 hg (fun r e => by cases e;exact ⟨_, h2, rfl⟩), hs.2.kept hg (Nat.le_refl _) (fun r e => by cases e;exact h1)⟩) [D] W (by
      have h := HRV.out
      rw [List.length_map, HR2.out] at h
      exact ⟨h, HI.out.gr.hb⟩) HMM.out fun A hA => ⟨_, results_tmp rfl _ _ _, va, rfl, hA.1, hA.2.out⟩
  case stop =>
    rintro D c pre W hD hp ⟨rfl, pre', x, rfl, hx, X, hI⟩ hK
    have HM : Marks w.heap.size [D] W := Marks.nil.cons (zz2 PM.out.2.2.2.1 hD) hK (List.not_mem_nil)
    obtain ⟨va, BV, RVa, _⟩ := hI.gr.g
    have c7 : W.cell? ⟨g7, 0, none⟩ = some va := BV.cell (i := 0) rfl
    have HI := zA hI
    have HRV := zA RVa
    have HMM := zA HM
    have HR2 : Aside0 (accW a2_0 (valI pre') = R) := ⟨by
      obtain ⟨tl, htl⟩ := hp
      rw [HRR.out]
      unfold withinL setI
      have e9 : valI (setP (64 * L'.length) (bitL L') (64 * L'.length)) = valI pre' ++ ((x.val : Nat) : Int) :: valI tl := by
        rw [← htl]
        unfold valI
        simp
      rw [e9]
      exact (congrArg (accW a2_0) (take_stop (x := ((x.val : Nat) : Int)) hI.lt hx (valI tl))).symm⟩
    clear hK hI RVa HM hD hp hx
    gi_wp2
    exact leaves_marksS (S := fun A => A.ownsRow w.heap.size 3 1 va R.length (R.map (Value.int .i64)) ∧ BelowH w A) (fun A D' hs h1 h2 => by
      have hg := grownBy_putObj' A D' (.deferred none)
      exact ⟨row_kept hs.1 hg (fun r e => by cases e;exact ⟨_, h2, rfl⟩), hs.2.kept hg (Nat.le_refl _) (fun r e => by cases e;exact h1)⟩) [D] W (by
      have h := HRV.out
      rw [List.length_map, HR2.out] at h
      exact ⟨h, HI.out.gr.hb⟩) HMM.out fun A hA => ⟨_, results_tmp rfl _ _ _, va, rfl, hA.1, hA.2.out⟩
theorem levels_within.calls (A0 : Option Addr) (c0 : Nat) (l0 : List S34) (a1 : Int) (a2_0 : Int) (a2_1 : Int) (r : List Int) (w : World) (hT : TabOk w) (hr0 : Kd.C k34 w A0 l0.length l0) (hc0 : l0.length ≤ c0) (h : levels_within.f l0 a1 a2_0 a2_1 = some r) :
  Calls Tryd.prog 71 #[.slice A0 l0.length c0, .int .i64 a1, .agg #[.int .i64 a2_0, .int .i64 a2_1]] w fun e w' => ∃ v0_ : Value, e = .returned (v0_) ∧ Kd.R (Kd.int .i64) 3 w' w.heap.size (fun _ => True) v0_ r ∧ Below w.heap.size w w' := by
 unfold levels_within.f at h
 by_cases h1 : a1 < 1 ∨ (l0.length : Int) < a1
 ·rw [if_pos h1] at h
  injection h with h
  subst h
  have HB := BelowH.refl w
  have fin : ∀ x1 x2 : Bool, decide (a1 < 1) = x1 → decide ((l0.length : Int) < a1) = x2 → (x1 = true ∨ (x1 = false ∧ x2 = true)) → Calls Tryd.prog 71 #[.slice A0 l0.length c0, .int .i64 a1, .agg #[.int .i64 a2_0, .int .i64 a2_1]] w fun e w' => ∃ v0_ : Value, e = .returned (v0_) ∧ Kd.R (Kd.int .i64) 3 w' w.heap.size (fun _ => True) v0_ [] ∧ Below w.heap.size w w' := fun x1 x2 q1 q2 q3 => by
   clear h1 hT hr0 hc0
   rcases q3 with rfl | ⟨rfl, rfl⟩
   all_goals
    go_enter Tryd.func71, Tryd.ntmps71
    go_wp2_with (first
     | ((with_reducible refine gate_dst (N := 5) rfl ?_);refine ev_alloc HB rfl (#[.int .i64 a2_0, .int .i64 a2_1]) 26 ?hr ?_;(case hr => first|(go_simp;done)|(go_simp;rfl));intro g5 w5 G_g5 GE_g5 B_g5 HBn K_g5;clear HB;have HB := HBn;clear HBn))
    go_ret
    exact ⟨_, rfl, Kd.R_nil _ _ _ _ _, HB.out⟩
  refine fin _ _ rfl rfl ?_
  by_cases c : a1 < 1
  ·exact .inl (zz1 c)
  ·exact .inr ⟨decide_eq_false c, zz1 (h1.resolve_left c)⟩
 ·rw [if_neg h1] at h
  by_cases h2 : l0.length ≤ 1099511627776
  case neg => rw [if_neg h2] at h;cases h
  rw [if_pos h2] at h
  obtain ⟨t, ht, h⟩ := Option.bind_eq_some_iff.1 h
  by_cases h3 : rowOk (rd_T34 l0 (a1 - 1)).f1 = true
  case neg => rw [if_neg h3] at h;cases h
  rw [if_pos h3] at h
  injection h with h
  subst h
  refine (levels_within.some_ A0 c0 l0 a1 a2_0 a2_1 t w hT hr0 h2 (by omega) (by omega) ht h3).mono ?_
  rintro e w' ⟨v, rfl, hrow, hb⟩
  exact ⟨v, rfl, Kd.R_of_own hrow (fun _ _ => trivial), hb⟩
end


def levels_Colons.f (l0_0 : List (S34)) (l0_1 : List (S34)) (a1 : Int) (a2_0 : Int) (a2_1 : Int) : Option (List Int) := (levels_within.f l0_0 a1 a2_0 a2_1).bind fun t117 => (some t117)
set_option maxHeartbeats 8000000 in
set_option maxRecDepth 100000 in
theorem levels_Colons.calls (A0_0 : Option Addr) (c0_0 : Nat) (l0_0 : List (S34)) (A0_1 : Option Addr) (c0_1 : Nat) (l0_1 : List (S34)) (a1 : Int) (a2_0 : Int) (a2_1 : Int) (r : List Int) (w : World) (hT : TabOk w) (hr0_0 : Kd.C k34 w A0_0 l0_0.length l0_0) (hc0_0 : l0_0.length ≤ c0_0) (hr0_1 : Kd.C k34 w A0_1 l0_1.length l0_1) (hc0_1 : l0_1.length ≤ c0_1) (h : levels_Colons.f l0_0 l0_1 a1 a2_0 a2_1 = some r) :
  Calls Tryd.prog 33 #[.agg #[.slice A0_0 l0_0.length c0_0, .slice A0_1 l0_1.length c0_1], .int .i64 a1, .agg #[.int .i64 a2_0, .int .i64 a2_1]] w fun e w' => ∃ v0_ : Value, e = .returned (v0_) ∧ Kd.R (Kd.int .i64) 3 w' w.heap.size (fun _ => True) v0_ r ∧ Below w.heap.size w w' := by
 have TK_ := zA hT
 clear hT
 have hu48 := Tryd.underlying48
 have hu26 := Tryd.underlying26
 have HR0_0 := zA hr0_0
 have HC0_0 := zA hc0_0
 clear hr0_0 hc0_0
 have HR0_1 := zA hr0_1
 have HC0_1 := zA hc0_1
 clear hr0_1 hc0_1
 have HB := zA (Below.refl w.heap.size w)
 have H : ((levels_within.f l0_0 a1 a2_0 a2_1).bind fun t117 => (some t117)) = some r := h
 clear h
 replace H := Option.bind_eq_some_iff.mp H
 obtain ⟨t117, A40, H⟩ := H
 replace H : (some t117) = some r := H
 have A4 := zA A40
 clear A40
 obtain rfl := Option.some.inj H
 go_enter Tryd.func33, Tryd.ntmps33
 go_wp2_with (first|((with_reducible refine gate_dst (N := 3) rfl ?_);refine box_event ?hg (N := 3) ?hd (cs := #[.slice A0_0 l0_0.length c0_0, .slice A0_1 l0_1.length c0_1]) (t := 48) ?hr ?_;(case hd => rfl);(case hg => rfl);(case hr => first|(go_simp;done)|(go_simp;rfl));intro gb115 hg w5 hbox hb;have n0_ := zA (zN (by repeat (first|(with_reducible first|exact HB.out|apply zG|apply zF|apply zH)|exact HB.out)) hb);have n1_ := zA (hbox);have n2_ := zA ((by rw [hg];exact (zO (by repeat (first|(with_reducible first|exact HB.out|apply zG|apply zF|apply zH)|exact HB.out))) : w.heap.size ≤ gb115));have n3_ := zA ((by rw [hg];exact (zO (by repeat (first|(with_reducible first|exact HB.out|apply zG|apply zF|apply zH)|exact HB.out))) : w.heap.size ≤ gb115));clear HB;have HB := n0_;have BK115 := n1_;have GW115 := n2_;have GE115 := n3_;clear n0_ n1_ n2_ n3_;clear hb hbox hg)|((with_reducible refine gate_dst (N := 5) rfl ?_);refine box_event ?hg (N := 5) ?hd (cs := #[.int .i64 a2_0, .int .i64 a2_1]) (t := 26) ?hr ?_;(case hd => rfl);(case hg => rfl);(case hr => first|(go_simp;done)|(go_simp;rfl));intro gb116 hg w6 hbox hb;have n0_ := zA (zQ (g := gb115) (o := .cells #[.slice A0_0 l0_0.length c0_0, .slice A0_1 l0_1.length c0_1] 48 (0, 0)) (by (with_reducible repeat (first|refine zJ ?_ _|refine zK ?_|refine zL ?_ _));exact BK115.out) hb);have n1_ := zA (zN (by repeat (first|(with_reducible first|exact HB.out|apply zG|apply zF|apply zH|refine zI ?_ GE115.out)|exact HB.out)) hb);have n2_ := zA (hbox);have n3_ := zA ((by rw [hg];exact (zO (by repeat (first|(with_reducible first|exact HB.out|apply zG|apply zF|apply zH|refine zI ?_ GE115.out)|exact HB.out))) : w.heap.size ≤ gb116));have n4_ := zA ((by rw [hg];exact (zO (by repeat (first|(with_reducible first|exact HB.out|apply zG|apply zF|apply zH|refine zI ?_ GE115.out)|exact HB.out))) : w.heap.size ≤ gb116));have n5_ := zA ((by rw [hg];exact Nat.ne_of_lt (blk_lt (g := gb115) (o := .cells #[.slice A0_0 l0_0.length c0_0, .slice A0_1 l0_1.length c0_1] 48 (0, 0)) (by (with_reducible repeat (first|refine zJ ?_ _|refine zK ?_|refine zL ?_ _));exact BK115.out)) : gb115 ≠ gb116));have n6_ := zA ((by rw [hg];exact Nat.ne_of_gt (blk_lt (g := gb115) (o := .cells #[.slice A0_0 l0_0.length c0_0, .slice A0_1 l0_1.length c0_1] 48 (0, 0)) (by (with_reducible repeat (first|refine zJ ?_ _|refine zK ?_|refine zL ?_ _));exact BK115.out)) : gb116 ≠ gb115));clear BK115;clear HB;have BK115 := n0_;have HB := n1_;have BK116 := n2_;have GW116 := n3_;have GE116 := n4_;have NB115_116 := n5_;have NB116_115 := n6_;clear n0_ n1_ n2_ n3_ n4_ n5_ n6_;clear hb hbox hg;have hnb7 := NB115_116.out;have hnc7 := NB116_115.out;have hcz8_0 : w6.cell? ⟨gb115, 0, none⟩ = some (.slice A0_0 l0_0.length c0_0) := (zP BK115.out 0).trans rfl;have hcz8_1 : w6.cell? ⟨gb115, 1, none⟩ = some (.slice A0_1 l0_1.length c0_1) := (zP BK115.out 1).trans rfl;have hfz8_0 := zR BK115.out 0;have hfz8_1 := zR BK115.out 1;have hcz9_0 : w6.cell? ⟨gb116, 0, none⟩ = some (.int .i64 a2_0) := (zP BK116.out 0).trans rfl;have hcz9_1 : w6.cell? ⟨gb116, 1, none⟩ = some (.int .i64 a2_1) := (zP BK116.out 1).trans rfl;have hfz9_0 := zR BK116.out 0;have hfz9_1 := zR BK116.out 1)|((with_reducible refine gate_callee (f := 71) rfl ?_);refine goesL_ (some 11) rfl rfl Tryd.func71 (by kernel_rfl) rfl #[.slice A0_0 l0_0.length c0_0, .int .i64 a1, .agg #[.int .i64 a2_0, .int .i64 a2_1]] rfl (by (try simp only [List.map_toArray, List.map_cons, List.map_nil]);first|done|rfl|(simp only [List.length_drop, List.length_take];rfl)) ?_;(with_reducible refine (levels_within.calls _ _ l0_0 a1 a2_0 a2_1 t117 _ ?tabk ?side1 ?side2 A4.out).mono ?_);(case tabk => exact TK_.out.step (by repeat (first|(with_reducible first|exact HB.out|apply zG|apply zF|apply zH|refine zI ?_ GE115.out|refine zI ?_ GE116.out)|exact HB.out)));(case side1 => repeat (first|exact (Kd.C_below HR0_0.out HB.out)|(with_reducible refine Kd.C_alloc ?_ _)|(with_reducible refine Kd.C_drewN ?_ _)|(with_reducible refine Kd.C_drew ?_)));(case side2 => exact HC0_0.out);rintro e w10 ⟨v118, rfl, ho0, hb⟩;refine ⟨_, rfl, ?_⟩;have n0_ := zA (Kd.R_lower ho0 (zO (by repeat (first|(with_reducible first|exact HB.out|apply zG|apply zF|apply zH|refine zI ?_ GE115.out|refine zI ?_ GE116.out)|exact HB.out))));have n1_ := zA (zQ (g := gb115) (o := .cells #[.slice A0_0 l0_0.length c0_0, .slice A0_1 l0_1.length c0_1] 48 (0, 0)) (by (with_reducible repeat (first|refine zJ ?_ _|refine zK ?_|refine zL ?_ _));exact BK115.out) hb);have n2_ := zA (zQ (g := gb116) (o := .cells #[.int .i64 a2_0, .int .i64 a2_1] 26 (0, 0)) (by (with_reducible repeat (first|refine zJ ?_ _|refine zK ?_|refine zL ?_ _));exact BK116.out) hb);have n3_ := zA (zN (by repeat (first|(with_reducible first|exact HB.out|apply zG|apply zF|apply zH|refine zI ?_ GE115.out|refine zI ?_ GE116.out)|exact HB.out)) hb);clear BK115;clear BK116;clear HB;have HO119 := n0_;have BK115 := n1_;have BK116 := n2_;have HB := n3_;clear n0_ n1_ n2_ n3_;(try clear hb);(try clear hb2);(try clear hk);(try clear hi);(try clear ho0)))
 go_ret
 exact ⟨_, by first|rfl|(simp [errW_none, errW_some] <;> rfl)|(simp [*, errW_none, errW_some] <;> rfl), by (with_reducible repeat (first|apply yy1|apply yy2|apply yy3));exact HO119.out, by repeat (first|(with_reducible first|exact HB.out|apply zG|apply zF|apply zH|refine zI ?_ GE115.out|refine zI ?_ GE116.out)|exact HB.out)⟩

def levels_Commas.f (l0_0 : List (S34)) (l0_1 : List (S34)) (a1 : Int) (a2_0 : Int) (a2_1 : Int) : Option (List Int) := (levels_within.f l0_1 a1 a2_0 a2_1).bind fun t122 => (some t122)
set_option maxHeartbeats 8000000 in
set_option maxRecDepth 100000 in
theorem levels_Commas.calls (A0_0 : Option Addr) (c0_0 : Nat) (l0_0 : List (S34)) (A0_1 : Option Addr) (c0_1 : Nat) (l0_1 : List (S34)) (a1 : Int) (a2_0 : Int) (a2_1 : Int) (r : List Int) (w : World) (hT : TabOk w) (hr0_0 : Kd.C k34 w A0_0 l0_0.length l0_0) (hc0_0 : l0_0.length ≤ c0_0) (hr0_1 : Kd.C k34 w A0_1 l0_1.length l0_1) (hc0_1 : l0_1.length ≤ c0_1) (h : levels_Commas.f l0_0 l0_1 a1 a2_0 a2_1 = some r) :
  Calls Tryd.prog 34 #[.agg #[.slice A0_0 l0_0.length c0_0, .slice A0_1 l0_1.length c0_1], .int .i64 a1, .agg #[.int .i64 a2_0, .int .i64 a2_1]] w fun e w' => ∃ v0_ : Value, e = .returned (v0_) ∧ Kd.R (Kd.int .i64) 3 w' w.heap.size (fun _ => True) v0_ r ∧ Below w.heap.size w w' := by
 have TK_ := zA hT
 clear hT
 have hu48 := Tryd.underlying48
 have hu26 := Tryd.underlying26
 have HR0_0 := zA hr0_0
 have HC0_0 := zA hc0_0
 clear hr0_0 hc0_0
 have HR0_1 := zA hr0_1
 have HC0_1 := zA hc0_1
 clear hr0_1 hc0_1
 have HB := zA (Below.refl w.heap.size w)
 have H : ((levels_within.f l0_1 a1 a2_0 a2_1).bind fun t122 => (some t122)) = some r := h
 clear h
 replace H := Option.bind_eq_some_iff.mp H
 obtain ⟨t122, A40, H⟩ := H
 replace H : (some t122) = some r := H
 have A4 := zA A40
 clear A40
 obtain rfl := Option.some.inj H
 go_enter Tryd.func34, Tryd.ntmps34
 go_wp2_with (first|((with_reducible refine gate_dst (N := 3) rfl ?_);refine box_event ?hg (N := 3) ?hd (cs := #[.slice A0_0 l0_0.length c0_0, .slice A0_1 l0_1.length c0_1]) (t := 48) ?hr ?_;(case hd => rfl);(case hg => rfl);(case hr => first|(go_simp;done)|(go_simp;rfl));intro gb120 hg w5 hbox hb;have n0_ := zA (zN (by repeat (first|(with_reducible first|exact HB.out|apply zG|apply zF|apply zH)|exact HB.out)) hb);have n1_ := zA (hbox);have n2_ := zA ((by rw [hg];exact (zO (by repeat (first|(with_reducible first|exact HB.out|apply zG|apply zF|apply zH)|exact HB.out))) : w.heap.size ≤ gb120));have n3_ := zA ((by rw [hg];exact (zO (by repeat (first|(with_reducible first|exact HB.out|apply zG|apply zF|apply zH)|exact HB.out))) : w.heap.size ≤ gb120));clear HB;have HB := n0_;have BK120 := n1_;have GW120 := n2_;have GE120 := n3_;clear n0_ n1_ n2_ n3_;clear hb hbox hg)|((with_reducible refine gate_dst (N := 5) rfl ?_);refine box_event ?hg (N := 5) ?hd (cs := #[.int .i64 a2_0, .int .i64 a2_1]) (t := 26) ?hr ?_;(case hd => rfl);(case hg => rfl);(case hr => first|(go_simp;done)|(go_simp;rfl));intro gb121 hg w6 hbox hb;have n0_ := zA (zQ (g := gb120) (o := .cells #[.slice A0_0 l0_0.length c0_0, .slice A0_1 l0_1.length c0_1] 48 (0, 0)) (by (with_reducible repeat (first|refine zJ ?_ _|refine zK ?_|refine zL ?_ _));exact BK120.out) hb);have n1_ := zA (zN (by repeat (first|(with_reducible first|exact HB.out|apply zG|apply zF|apply zH|refine zI ?_ GE120.out)|exact HB.out)) hb);have n2_ := zA (hbox);have n3_ := zA ((by rw [hg];exact (zO (by repeat (first|(with_reducible first|exact HB.out|apply zG|apply zF|apply zH|refine zI ?_ GE120.out)|exact HB.out))) : w.heap.size ≤ gb121));have n4_ := zA ((by rw [hg];exact (zO (by repeat (first|(with_reducible first|exact HB.out|apply zG|apply zF|apply zH|refine zI ?_ GE120.out)|exact HB.out))) : w.heap.size ≤ gb121));have n5_ := zA ((by rw [hg];exact Nat.ne_of_lt (blk_lt (g := gb120) (o := .cells #[.slice A0_0 l0_0.length c0_0, .slice A0_1 l0_1.length c0_1] 48 (0, 0)) (by (with_reducible repeat (first|refine zJ ?_ _|refine zK ?_|refine zL ?_ _));exact BK120.out)) : gb120 ≠ gb121));have n6_ := zA ((by rw [hg];exact Nat.ne_of_gt (blk_lt (g := gb120) (o := .cells #[.slice A0_0 l0_0.length c0_0, .slice A0_1 l0_1.length c0_1] 48 (0, 0)) (by (with_reducible repeat (first|refine zJ ?_ _|refine zK ?_|refine zL ?_ _));exact BK120.out)) : gb121 ≠ gb120));clear BK120;clear HB;have BK120 := n0_;have HB := n1_;have BK121 := n2_;have GW121 := n3_;have GE121 := n4_;have NB120_121 := n5_;have NB121_120 := n6_;clear n0_ n1_ n2_ n3_ n4_ n5_ n6_;clear hb hbox hg;have hnb7 := NB120_121.out;have hnc7 := NB121_120.out;have hcz8_0 : w6.cell? ⟨gb120, 0, none⟩ = some (.slice A0_0 l0_0.length c0_0) := (zP BK120.out 0).trans rfl;have hcz8_1 : w6.cell? ⟨gb120, 1, none⟩ = some (.slice A0_1 l0_1.length c0_1) := (zP BK120.out 1).trans rfl;have hfz8_0 := zR BK120.out 0;have hfz8_1 := zR BK120.out 1;have hcz9_0 : w6.cell? ⟨gb121, 0, none⟩ = some (.int .i64 a2_0) := (zP BK121.out 0).trans rfl;have hcz9_1 : w6.cell? ⟨gb121, 1, none⟩ = some (.int .i64 a2_1) := (zP BK121.out 1).trans rfl;have hfz9_0 := zR BK121.out 0;have hfz9_1 := zR BK121.out 1)|((with_reducible refine gate_callee (f := 71) rfl ?_);refine goesL_ (some 11) rfl rfl Tryd.func71 (by kernel_rfl) rfl #[.slice A0_1 l0_1.length c0_1, .int .i64 a1, .agg #[.int .i64 a2_0, .int .i64 a2_1]] rfl (by (try simp only [List.map_toArray, List.map_cons, List.map_nil]);first|done|rfl|(simp only [List.length_drop, List.length_take];rfl)) ?_;(with_reducible refine (levels_within.calls _ _ l0_1 a1 a2_0 a2_1 t122 _ ?tabk ?side1 ?side2 A4.out).mono ?_);(case tabk => exact TK_.out.step (by repeat (first|(with_reducible first|exact HB.out|apply zG|apply zF|apply zH|refine zI ?_ GE120.out|refine zI ?_ GE121.out)|exact HB.out)));(case side1 => repeat (first|exact (Kd.C_below HR0_1.out HB.out)|(with_reducible refine Kd.C_alloc ?_ _)|(with_reducible refine Kd.C_drewN ?_ _)|(with_reducible refine Kd.C_drew ?_)));(case side2 => exact HC0_1.out);rintro e w10 ⟨v123, rfl, ho0, hb⟩;refine ⟨_, rfl, ?_⟩;have n0_ := zA (Kd.R_lower ho0 (zO (by repeat (first|(with_reducible first|exact HB.out|apply zG|apply zF|apply zH|refine zI ?_ GE120.out|refine zI ?_ GE121.out)|exact HB.out))));have n1_ := zA (zQ (g := gb120) (o := .cells #[.slice A0_0 l0_0.length c0_0, .slice A0_1 l0_1.length c0_1] 48 (0, 0)) (by (with_reducible repeat (first|refine zJ ?_ _|refine zK ?_|refine zL ?_ _));exact BK120.out) hb);have n2_ := zA (zQ (g := gb121) (o := .cells #[.int .i64 a2_0, .int .i64 a2_1] 26 (0, 0)) (by (with_reducible repeat (first|refine zJ ?_ _|refine zK ?_|refine zL ?_ _));exact BK121.out) hb);have n3_ := zA (zN (by repeat (first|(with_reducible first|exact HB.out|apply zG|apply zF|apply zH|refine zI ?_ GE120.out|refine zI ?_ GE121.out)|exact HB.out)) hb);clear BK120;clear BK121;clear HB;have HO124 := n0_;have BK120 := n1_;have BK121 := n2_;have HB := n3_;clear n0_ n1_ n2_ n3_;(try clear hb);(try clear hb2);(try clear hk);(try clear hi);(try clear ho0)))
 go_ret
 exact ⟨_, by first|rfl|(simp [errW_none, errW_some] <;> rfl)|(simp [*, errW_none, errW_some] <;> rfl), by (with_reducible repeat (first|apply yy1|apply yy2|apply yy3));exact HO124.out, by repeat (first|(with_reducible first|exact HB.out|apply zG|apply zF|apply zH|refine zI ?_ GE120.out|refine zI ?_ GE121.out)|exact HB.out)⟩

end Go.Proofs.YtgddljealeklkaaDoor.PL
end
-- PLx6
section
namespace Go.Proofs.YtgddljealeklkaaDoor.PL
attribute [local go_sem] Go.Proofs.YtgddljealeklkaaDoorM.fieldBits0 Go.Proofs.YtgddljealeklkaaDoorM.fieldBits1
open Go.Proofs.YtgddljealeklkaaDoorM (TabOk)
open Go.RowKit Go.Proofs.YtgddljealeklkaaDoorW.PrintWords Go.Proofs.YtgddljealeklkaaDoorW.PrintLast Go.Proofs.YtgddljealeklkaaDoorW.PrintMore
attribute [local go_sem] max2_int min2_int max_two min_two max_three min_three max_four min_four   -- for this text's walks alone
set_option linter.unusedVariables false
set_option linter.unusedSimpArgs false

section
open Go.Proofs.YtgddljealeklkaaDoorQ Go.Proofs.YtgddljealeklkaaDoorM
set_option maxHeartbeats 1000000 in
theorem levels_Depth_1.calls (p d a : Int) (g : Nat) (w : World) (B : Blk w g #[.int .i64 a] 3) :
  Calls Tryd.prog 74 #[.int .i64 p, .int .i64 d, .pointer (some ⟨g, 0, none⟩)] w fun e w' => e = .returned (.bool (decide (p < a))) ∧ Below w.heap.size w w' := by
 have ca := B.cell (i := 0) rfl
 go_enter Tryd.func74, Tryd.ntmps74
 go_wp2
 go_ret
 exact ⟨rfl, Below.refl _ _⟩
end


section
open Go.Proofs.YtgddljealeklkaaDoorQ Go.Proofs.YtgddljealeklkaaDoorM
def levels_Depth.f (a0 : ByteArray) (a1 : Int) : Option Int := if a0.size ≤ 1048576 then some ((depAt a0 a1 : Nat) : Int) else none
set_option maxHeartbeats 4000000 in
theorem levels_Depth.calls (a0 : ByteArray) (a1 r : Int) (w : World) (hT : TabOk w) (h : levels_Depth.f a0 a1 = some r) :
  Calls Tryd.prog 37 #[.string a0, .int .i64 a1] w fun e w' => e = .returned (.int .i64 r) ∧ Below w.heap.size w w' := by
 unfold levels_Depth.f at h
 by_cases hs : a0.size ≤ 1048576
 case neg => rw [if_neg hs] at h;cases h
 rw [if_pos hs] at h
 injection h with hr
 have HB := BelowH.refl w
 have HT := zA hT
 have HR := zA hr
 have HS := zA hs
 clear hT hr hs
 have WK : Aside0 (∀ (g : Nat) (W : World), TabOk W → Blk W g #[.int .i64 a1] 3 → Calls Tryd.prog 64 #[.string a0, .func (.func 74) #[] #[.pointer (some ⟨g, 0, none⟩)]] W fun e w' => e = .returned (.int .i64 r) ∧ Below W.heap.size W w') := ⟨fun g W hTW B => by
  have := levels_walk.walk a0 HS.out W hTW 74 #[.pointer (some ⟨g, 0, none⟩)] []
   (fun i W' => Blk W' g #[.int .i64 a1] 3 ∧ ∀ (j q : Nat), j < i → (placesL a0)[j]? = some q → (q : Int) < a1)
   (fun i p _ => ¬ ((p : Int) < a1) ∧ ∀ (j q : Nat), j < i → (placesL a0)[j]? = some q → (q : Int) < a1)
   (enters_of Tryd.func74 (by kernel_rfl) rfl) (fun k hk => by cases hk) (fun W1 W2 h hb => ⟨h.1.below hb, h.2⟩)
   (fun i p W1 hp hB hJ => (levels_Depth_1.calls (p : Int) _ a1 g W1 hJ.1).mono fun e W2 ⟨he, hb⟩ => ⟨_, he, Turned.of_below hb, fun hd => ⟨hJ.1.below hb, fun j q hj hq => by
     by_cases c : j = i
     ·subst c
      rw [hp] at hq
      injection hq with hq
      rw [← hq]
      exact zE hd
     ·exact hJ.2 j q (by omega) hq⟩, fun hd => ⟨of_decide_eq_false hd, hJ.2⟩⟩)
   ⟨B, fun j q hj _ => absurd hj (Nat.not_lt_zero _)⟩
  refine this.mono fun e w' ⟨d, he, ht, hh⟩ => ⟨?_, ht.below (fun k hk => by cases hk) (Nat.le_refl _) (Below.refl _ _)⟩
  rw [he, ← HR.out]
  rcases hh with ⟨hd, _, h2⟩ | ⟨i, p, hp, hd, h1, h2⟩
  ·rw [hd, depAt_all (fun j q hq => h2 j q ((List.getElem?_eq_some_iff.1 hq).1) hq)]
  ·rw [hd, depAt_stop hp h1 h2]⟩
 clear HR HS
 go_enter Tryd.func37, Tryd.ntmps37
 go_wp2_with (first
  | ((with_reducible refine gate_dst (N := 3) rfl ?_);refine ev_alloc HB rfl (#[.int .i64 a1]) 3 ?hr ?_;(case hr => first|(go_simp;done)|(go_simp;rfl));intro g3 w3 G_g3 GE_g3 B_g3 HBn K_g3;clear HB;have HB := HBn;clear HBn)
  | (go_at_call 64;refine (WK.out g3 w3 (HT.out.stepH HB) B_g3).mono ?_;rintro e w4 ⟨rfl, hb4⟩;have HB4 := HB.step hb4;clear hb4))
 go_ret
 exact ⟨rfl, HB4.out⟩
end


mutual
def marks_Kind.j0 : Nat → ByteArray → Int → Bool → Option (Int)
 | 0, _, _, _ => none
 | k + 1, x0, x1, x16 => if x16 = true then (some 0) else ((marks_look.f x0).bind fun t125 => (if 0 ≤ (wrap64 (Int.tdiv x1 64)) then (if (wrap64 (Int.tdiv x1 64)) < (t125.length : Int) then (if 0 ≤ (Int.tmod x1 64) then (if x1 ≥ 64 then (if 0 ≤ (wrap64 ((wrap64 (Int.tdiv x1 64)) - 1)) then (if (wrap64 ((wrap64 (Int.tdiv x1 64)) - 1)) < (t125.length : Int) then ((marks_rows_ends.f ((rd_T77 t125 (wrap64 ((wrap64 (Int.tdiv x1 64)) - 1))).f0) ((rd_T77 t125 (wrap64 ((wrap64 (Int.tdiv x1 64)) - 1))).f1) ((rd_T77 t125 (wrap64 ((wrap64 (Int.tdiv x1 64)) - 1))).f2) ((rd_T77 t125 (wrap64 ((wrap64 (Int.tdiv x1 64)) - 1))).f3)).bind fun t131 => (marks_Kind.j1 k x0 x1 (shl .u64 1 (Int.tmod x1 64)) t131 ((rd_T77 t125 (wrap64 (Int.tdiv x1 64))).f0) ((rd_T77 t125 (wrap64 (Int.tdiv x1 64))).f1) ((rd_T77 t125 (wrap64 (Int.tdiv x1 64))).f2) ((rd_T77 t125 (wrap64 (Int.tdiv x1 64))).f3))) else (none)) else (none)) else (marks_Kind.j1 k x0 x1 (shl .u64 1 (Int.tmod x1 64)) false ((rd_T77 t125 (wrap64 (Int.tdiv x1 64))).f0) ((rd_T77 t125 (wrap64 (Int.tdiv x1 64))).f1) ((rd_T77 t125 (wrap64 (Int.tdiv x1 64))).f2) ((rd_T77 t125 (wrap64 (Int.tdiv x1 64))).f3))) else (none)) else (none)) else (none)))
def marks_Kind.j1 : Nat → ByteArray → Int → Int → Bool → Int → Int → Int → Int → Option (Int)
 | 0, _, _, _, _, _, _, _, _ => none
 | k + 1, x0, x1, x7, x8, x130000, x130001, x130002, x130003 => if (Go.bits .and .u64 (Go.bits .or .u64 x130000 x130002) x7) = 0 then ((marks_rows_starts.f x130000 x130001 x130002 x130003 x8).bind fun t132 => (if (Go.bits .and .u64 t132 x7) = 0 then (some 0) else (some 119))) else (if 0 ≤ x1 then (if x1 < (x0.size : Int) then (some (bt x0 x1)) else (none)) else (none))
end
def marks_Kind.f (k : Nat) (a0 : ByteArray) (a1 : Int) : Option (Int) := if a1 < 0 then (marks_Kind.j0 k a0 a1 true) else (marks_Kind.j0 k a0 a1 (decide (a1 ≥ (a0.size : Int))))
def marks_Kind.T4 : Bool × List (List Nat × List Nat) := (true, [([], []), ([], []), ([1], [1]), ([0, 2], [0, 2]), ([3], [3]), ([], []), ([5], [5]), ([6], [6]), ([], []), ([8, 4, 0, 1, 2, 3, 4, 8], [4, 8]), ([7, 9, 0, 1, 2, 3, 4, 5, 6, 7, 8, 9], [7])])
def marks_Kind.B4 : List Nat := [0, 0, 2, 7, 15, 0, 32, 96, 0, 287, 1023]
theorem marks_Kind.tab4 : rtab .any (opsOf Tryd.f22 4) = marks_Kind.T4 := by kernel_rfl
theorem marks_Kind.bits4 : waitsOk marks_Kind.T4.2 marks_Kind.B4 = true := by kernel_rfl
set_option maxHeartbeats 8000000 in
set_option maxRecDepth 100000 in
theorem marks_Kind.calls (k : Nat) (a0 : ByteArray) (a1 : Int) (r : Int) (w : World) (h : marks_Kind.f k a0 a1 = some r) :
  Calls Tryd.prog 22 #[.string a0, .int .i64 a1] w fun e w' => e = .returned (.int .u8 r) ∧ Below w.heap.size w w' := by
 have hu77 := Tryd.underlying77
 have HB := zA (Below.refl w.heap.size w)
 have H : (if a1 < 0 then (marks_Kind.j0 k a0 a1 true) else (marks_Kind.j0 k a0 a1 (decide (a1 ≥ (a0.size : Int))))) = some r := h
 clear h
 have HC3 := zA H
 clear H
 go_enter Tryd.func22, Tryd.ntmps22
 go_upto_region 1 with (fail)
 go_cut [16] (fun v16 wc => ∃ (kq : Nat) (x16_2 : Bool), v16 = .bool x16_2 ∧ Aside0 (marks_Kind.j0 kq a0 a1 x16_2 = some r) ∧ Aside0 (kq ≤ k) ∧ Aside0 (Below w.heap.size w wc))
 case first =>
  have H := HC3.out
  clear HC3
  by_cases c4 : a1 < 0
  ·rw [if_pos c4] at H
   have c4b0 : decide (a1 < 0) = true := zz1 c4
   clear c4
   (first|rw [c4b0]|(simp only [i64_w, i32_w];rw [c4b0])|skip)
   have H' := zA H
   clear H
   go_wp2
   go_meet
   case rel => exact ⟨_, (true), (by first|rfl|(simp;done)|(simp [*];done)), H', ⟨by first|omega|exact Nat.le_refl _⟩, ⟨by repeat (first|(with_reducible first|exact HB.out|apply zG|apply zF|apply zH)|exact HB.out)⟩⟩
  ·rw [if_neg c4] at H
   have c4b0 : decide (a1 < 0) = false := decide_eq_false c4
   clear c4
   (first|rw [c4b0]|(simp only [i64_w, i32_w];rw [c4b0])|skip)
   have H' := zA H
   clear H
   go_wp2
   go_meet
   case rel => exact ⟨_, (decide (a1 ≥ (a0.size : Int))), (by first|rfl|(simp;done)|(simp [*];done)), H', ⟨by first|omega|exact Nat.le_refl _⟩, ⟨by repeat (first|(with_reducible first|exact HB.out|apply zG|apply zF|apply zH)|exact HB.out)⟩⟩
 case rest =>
  clear HC3
  try clear c2
  try clear p2
  try clear c4
  try clear c4b0
  obtain ⟨kq, x16_2, rfl, HA, HJ2, HB⟩ := hcut
  cases kq with
  | zero => exact absurd HA.out (by simp [marks_Kind.j0])
  | succ kj2 =>
   have H := HA.out
   clear HA
   simp only [marks_Kind.j0] at H
   by_cases c5 : x16_2 = true
   ·subst c5
    have H1 : (some 0) = some r := by rw [if_pos rfl] at H;exact H
    clear H
    have H := H1
    clear H1
    obtain rfl := Option.some.inj H
    go_wp2
    go_ret
    exact ⟨by first|rfl|(simp [errW_none, errW_some] <;> rfl)|(simp [*, errW_none, errW_some] <;> rfl), by repeat (first|(with_reducible first|exact HB.out|apply zG|apply zF|apply zH)|exact HB.out)⟩
   ·replace c5 := Bool.eq_false_iff.mpr c5
    subst c5
    have H1 : ((marks_look.f a0).bind fun t125 => (if 0 ≤ (wrap64 (Int.tdiv a1 64)) then (if (wrap64 (Int.tdiv a1 64)) < (t125.length : Int) then (if 0 ≤ (Int.tmod a1 64) then (if a1 ≥ 64 then (if 0 ≤ (wrap64 ((wrap64 (Int.tdiv a1 64)) - 1)) then (if (wrap64 ((wrap64 (Int.tdiv a1 64)) - 1)) < (t125.length : Int) then ((marks_rows_ends.f ((rd_T77 t125 (wrap64 ((wrap64 (Int.tdiv a1 64)) - 1))).f0) ((rd_T77 t125 (wrap64 ((wrap64 (Int.tdiv a1 64)) - 1))).f1) ((rd_T77 t125 (wrap64 ((wrap64 (Int.tdiv a1 64)) - 1))).f2) ((rd_T77 t125 (wrap64 ((wrap64 (Int.tdiv a1 64)) - 1))).f3)).bind fun t131 => (marks_Kind.j1 kj2 a0 a1 (shl .u64 1 (Int.tmod a1 64)) t131 ((rd_T77 t125 (wrap64 (Int.tdiv a1 64))).f0) ((rd_T77 t125 (wrap64 (Int.tdiv a1 64))).f1) ((rd_T77 t125 (wrap64 (Int.tdiv a1 64))).f2) ((rd_T77 t125 (wrap64 (Int.tdiv a1 64))).f3))) else (none)) else (none)) else (marks_Kind.j1 kj2 a0 a1 (shl .u64 1 (Int.tmod a1 64)) false ((rd_T77 t125 (wrap64 (Int.tdiv a1 64))).f0) ((rd_T77 t125 (wrap64 (Int.tdiv a1 64))).f1) ((rd_T77 t125 (wrap64 (Int.tdiv a1 64))).f2) ((rd_T77 t125 (wrap64 (Int.tdiv a1 64))).f3))) else (none)) else (none)) else (none))) = some r := by rw [if_neg (show ¬ (false = true) by decide)] at H;exact H
    clear H
    have H := H1
    clear H1
    replace H := Option.bind_eq_some_iff.mp H
    obtain ⟨t125, A60, H⟩ := H
    replace H : (if 0 ≤ (wrap64 (Int.tdiv a1 64)) then (if (wrap64 (Int.tdiv a1 64)) < (t125.length : Int) then (if 0 ≤ (Int.tmod a1 64) then (if a1 ≥ 64 then (if 0 ≤ (wrap64 ((wrap64 (Int.tdiv a1 64)) - 1)) then (if (wrap64 ((wrap64 (Int.tdiv a1 64)) - 1)) < (t125.length : Int) then ((marks_rows_ends.f ((rd_T77 t125 (wrap64 ((wrap64 (Int.tdiv a1 64)) - 1))).f0) ((rd_T77 t125 (wrap64 ((wrap64 (Int.tdiv a1 64)) - 1))).f1) ((rd_T77 t125 (wrap64 ((wrap64 (Int.tdiv a1 64)) - 1))).f2) ((rd_T77 t125 (wrap64 ((wrap64 (Int.tdiv a1 64)) - 1))).f3)).bind fun t131 => (marks_Kind.j1 kj2 a0 a1 (shl .u64 1 (Int.tmod a1 64)) t131 ((rd_T77 t125 (wrap64 (Int.tdiv a1 64))).f0) ((rd_T77 t125 (wrap64 (Int.tdiv a1 64))).f1) ((rd_T77 t125 (wrap64 (Int.tdiv a1 64))).f2) ((rd_T77 t125 (wrap64 (Int.tdiv a1 64))).f3))) else (none)) else (none)) else (marks_Kind.j1 kj2 a0 a1 (shl .u64 1 (Int.tmod a1 64)) false ((rd_T77 t125 (wrap64 (Int.tdiv a1 64))).f0) ((rd_T77 t125 (wrap64 (Int.tdiv a1 64))).f1) ((rd_T77 t125 (wrap64 (Int.tdiv a1 64))).f2) ((rd_T77 t125 (wrap64 (Int.tdiv a1 64))).f3))) else (none)) else (none)) else (none)) = some r := H
    have A6 := zA A60
    clear A60
    obtain ⟨ji7, hji7⟩ : ∃ j_ : Int, (wrap64 (Int.tdiv a1 64)) = j_ := ⟨_, rfl⟩
    replace H : (if 0 ≤ (ji7) then (if (ji7) < (t125.length : Int) then (if 0 ≤ (Int.tmod a1 64) then (if a1 ≥ 64 then (if 0 ≤ (wrap64 ((ji7) - 1)) then (if (wrap64 ((ji7) - 1)) < (t125.length : Int) then ((marks_rows_ends.f ((rd_T77 t125 (wrap64 ((ji7) - 1))).f0) ((rd_T77 t125 (wrap64 ((ji7) - 1))).f1) ((rd_T77 t125 (wrap64 ((ji7) - 1))).f2) ((rd_T77 t125 (wrap64 ((ji7) - 1))).f3)).bind fun t131 => (marks_Kind.j1 kj2 a0 a1 (shl .u64 1 (Int.tmod a1 64)) t131 ((rd_T77 t125 (ji7)).f0) ((rd_T77 t125 (ji7)).f1) ((rd_T77 t125 (ji7)).f2) ((rd_T77 t125 (ji7)).f3))) else (none)) else (none)) else (marks_Kind.j1 kj2 a0 a1 (shl .u64 1 (Int.tmod a1 64)) false ((rd_T77 t125 (ji7)).f0) ((rd_T77 t125 (ji7)).f1) ((rd_T77 t125 (ji7)).f2) ((rd_T77 t125 (ji7)).f3))) else (none)) else (none)) else (none)) = some r := by first|(rw [hji7] at H;exact H)|(simp only [hji7] at H ⊢;exact H)
    (try rw [hji7] at A6)
    have hji7w : (IntKind.i64.wrap (Int.tdiv a1 64)) = ji7 := (i64_w _).trans hji7
    by_cases c8 : 0 ≤ (ji7)
    ·rw [if_pos c8] at H
     have c8b0 : decide (0 ≤ (ji7)) = true := zz1 c8
     clear c8
     by_cases c9 : (ji7) < (t125.length : Int)
     ·rw [if_pos c9] at H
      have c9b0 : decide ((ji7) < (t125.length : Int)) = true := zz1 c9
      clear c9
      obtain ⟨ji10, hji10⟩ : ∃ j_ : Int, (Int.tmod a1 64) = j_ := ⟨_, rfl⟩
      replace H : (if 0 ≤ (ji10) then (if a1 ≥ 64 then (if 0 ≤ (wrap64 ((ji7) - 1)) then (if (wrap64 ((ji7) - 1)) < (t125.length : Int) then ((marks_rows_ends.f ((rd_T77 t125 (wrap64 ((ji7) - 1))).f0) ((rd_T77 t125 (wrap64 ((ji7) - 1))).f1) ((rd_T77 t125 (wrap64 ((ji7) - 1))).f2) ((rd_T77 t125 (wrap64 ((ji7) - 1))).f3)).bind fun t131 => (marks_Kind.j1 kj2 a0 a1 (shl .u64 1 (ji10)) t131 ((rd_T77 t125 (ji7)).f0) ((rd_T77 t125 (ji7)).f1) ((rd_T77 t125 (ji7)).f2) ((rd_T77 t125 (ji7)).f3))) else (none)) else (none)) else (marks_Kind.j1 kj2 a0 a1 (shl .u64 1 (ji10)) false ((rd_T77 t125 (ji7)).f0) ((rd_T77 t125 (ji7)).f1) ((rd_T77 t125 (ji7)).f2) ((rd_T77 t125 (ji7)).f3))) else (none)) = some r := by first|(rw [hji10] at H;exact H)|(simp only [hji10] at H ⊢;exact H)
      (try rw [hji10] at A6)
      by_cases c11 : 0 ≤ (ji10)
      ·rw [if_pos c11] at H
       have c11b0 := eq_true c11
       have c11b1 : decide (0 ≤ (ji10)) = true := zz1 c11
       clear c11
       obtain ⟨ji12, hji12⟩ : ∃ j_ : Int, (shl .u64 1 (ji10)) = j_ := ⟨_, rfl⟩
       replace H : (if a1 ≥ 64 then (if 0 ≤ (wrap64 ((ji7) - 1)) then (if (wrap64 ((ji7) - 1)) < (t125.length : Int) then ((marks_rows_ends.f ((rd_T77 t125 (wrap64 ((ji7) - 1))).f0) ((rd_T77 t125 (wrap64 ((ji7) - 1))).f1) ((rd_T77 t125 (wrap64 ((ji7) - 1))).f2) ((rd_T77 t125 (wrap64 ((ji7) - 1))).f3)).bind fun t131 => (marks_Kind.j1 kj2 a0 a1 ji12 t131 ((rd_T77 t125 (ji7)).f0) ((rd_T77 t125 (ji7)).f1) ((rd_T77 t125 (ji7)).f2) ((rd_T77 t125 (ji7)).f3))) else (none)) else (none)) else (marks_Kind.j1 kj2 a0 a1 ji12 false ((rd_T77 t125 (ji7)).f0) ((rd_T77 t125 (ji7)).f1) ((rd_T77 t125 (ji7)).f2) ((rd_T77 t125 (ji7)).f3))) = some r := by first|(rw [hji12] at H;exact H)|(simp only [hji12] at H ⊢;exact H)
       (try rw [hji12] at A6)
       have hji12_ : (IntKind.u64.wrap (1 * 2 ^ min (ji10).toNat 64)) = ji12 := hji12
       have hji12z : (ji10) ≤ 64 → (IntKind.u64.wrap (1 * 2 ^ (ji10).toNat)) = ji12 := shl_small hji12
       have hji12u : (IntKind.u64.wrap (2 ^ min (ji10).toNat 64)) = ji12 := by have h_ := hji12_;rw [Int.one_mul] at h_;exact h_
       have hji12v : (ji10) ≤ 64 → (IntKind.u64.wrap (2 ^ (ji10).toNat)) = ji12 := fun hle_ => by have h_ := hji12z hle_;rw [Int.one_mul] at h_;exact h_
       have HC13 := zA H
       clear H
       try go_wp2_with (first|((with_reducible refine gate_callee (f := 50) rfl ?_);refine goesL_ (some 18) rfl rfl Tryd.func50 (by kernel_rfl) rfl #[.string a0] rfl (by (try simp only [List.map_toArray, List.map_cons, List.map_nil]);first|done|rfl|(simp only [List.length_drop, List.length_take];rfl)) ?_;(with_reducible refine (marks_look.calls a0 t125 _ A6.out).mono ?_);rintro e w14 ⟨v126, rfl, ho0, hb⟩;refine ⟨_, rfl, ?_⟩;have n0_ := zA (Kd.R_lower ho0 (zO (by repeat (first|(with_reducible first|exact HB.out|apply zG|apply zF|apply zH)|exact HB.out))));have n1_ := zA (zN (by repeat (first|(with_reducible first|exact HB.out|apply zG|apply zF|apply zH)|exact HB.out)) hb);clear HB;have HO127 := n0_;have HB := n1_;clear n0_ n1_;(try clear hb);(try clear hb2);(try clear hk);(try clear hi);(try clear ho0)))
       have n0_ := zA (yy3 HO127.out)
       have n1_ := zA (zH HB.out)
       clear HO127
       clear HB
       have HO127 := n0_
       have HB := n1_
       clear n0_ n1_
       obtain ⟨Ao16, co16, eo16⟩ := Kd.R_slice HO127.out
       (first|subst eo16|(injection eo16 with f1_ f2_ f3_;have f4_ := f1_.symm;have f5_ := f3_.symm;clear f1_ f2_ f3_;subst f4_;subst f5_))
       have p128 : 0 ≤ ((ji7) : Int) := zE (by first|(with_reducible assumption)|assumption)
       have q128 : (ji7) < (t125.length : Int) := zE (by first|(with_reducible assumption)|assumption)
       obtain ⟨ad128, e128, hx128_0, hx128_1, hx128_2, hx128_3⟩ := at_T77 (Kd.R_reads' HO127.out).2.2 (ji7) p128 q128
       cases e128
       replace p128 := eq_true p128
       replace q128 := eq_true q128
       refine start_ (n := 11) (S := fun w' => w'.cell? (ad128.add (((ji7)).toNat * 4)) = some (.int .u64 ((rd_T77 t125 (ji7)).f0)) ∧ w'.cell? ⟨(ad128.add (((ji7)).toNat * 4)).block, (ad128.add (((ji7)).toNat * 4)).off + 1, none⟩ = some (.int .u64 ((rd_T77 t125 (ji7)).f1)) ∧ w'.cell? ⟨(ad128.add (((ji7)).toNat * 4)).block, (ad128.add (((ji7)).toNat * 4)).off + 2, none⟩ = some (.int .u64 ((rd_T77 t125 (ji7)).f2)) ∧ w'.cell? ⟨(ad128.add (((ji7)).toNat * 4)).block, (ad128.add (((ji7)).toNat * 4)).off + 3, none⟩ = some (.int .u64 ((rd_T77 t125 (ji7)).f3))) (ds := []) #[false, false, false, false, false, false, false, false, false, false, false] (by kernel_rfl) rfl rfl ⟨hx128_0, hx128_1, hx128_2, hx128_3⟩ (fun hHeld => ?_);refine with_tabW marks_Kind.tab4 marks_Kind.bits4 (fun HT_ HW_ => ?_)
       generalize w14.drew = w15 at HO127 HB hx128_0 hx128_1 hx128_2 hx128_3 hHeld ⊢
       refine pure_ (i := 0) (N := some 19) (v := ?_) (a' := ?_) #[true, false, false, false, false, false, false, false, false, false, false] rfl rfl (any_of HT_.out (by kernel_rfl)) (fun _ _ _ h => h) (Or.inl ⟨by rfl, ?_⟩) ?_ ?_
       rotate_left
       ·intro w'
        go_simp
        with_reducible rfl
       rotate_left
       ·simp only [Act.put, zB, zC, zD, i64_w, i32_w]
        rfl
       refine pure_ (i := 1) (N := some 20) (v := ?_) (a' := ?_) #[true, true, false, false, false, false, false, false, false, false, false] rfl rfl (any_of HT_.out (by kernel_rfl)) (fun _ _ _ h => h) (Or.inl ⟨by rfl, ?_⟩) ?_ ?_
       rotate_left
       ·intro w'
        go_simp
        with_reducible rfl
       rotate_left
       ·simp only [Act.put, zB, zC, zD, i64_w, i32_w]
        rfl
       refine pure_ (i := 2) (N := some 21) (v := ?_) (a' := ?_) #[true, true, true, false, false, false, false, false, false, false, false] rfl rfl (any_of HT_.out (by kernel_rfl)) (fun _ _ _ h => h) (Or.inl ⟨by rfl, ?_⟩) ?_ ?_
       rotate_left
       ·intro w'
        go_simp
        with_reducible rfl
       rotate_left
       ·simp only [Act.put, zB, zC, zD, i64_w, i32_w]
        rfl
       refine pure_ (i := 3) (N := some 22) (v := ?_) (a' := ?_) #[true, true, true, true, false, false, false, false, false, false, false] rfl rfl (any_of HT_.out (by kernel_rfl)) (fun _ _ _ h => h) (Or.inl ⟨by rfl, ?_⟩) ?_ ?_
       rotate_left
       ·intro w'
        go_simp
        with_reducible rfl
       rotate_left
       ·simp only [Act.put, zB, zC, zD, i64_w, i32_w]
        rfl
       refine pure_ (i := 5) (N := some 24) (v := ?_) (a' := ?_) #[true, true, true, true, false, true, false, false, false, false, false] rfl rfl (any_of HT_.out (by kernel_rfl)) (fun _ _ _ h => h) (Or.inl ⟨by rfl, ?_⟩) ?_ ?_
       rotate_left
       ·intro w'
        go_simp
        with_reducible rfl
       rotate_left
       ·simp only [Act.put, zB, zC, zD, i64_w, i32_w]
        rfl
       refine pure_ (i := 6) (N := some 25) (v := ?_) (a' := ?_) #[true, true, true, true, false, true, true, false, false, false, false] rfl rfl (any_of HT_.out (by kernel_rfl)) (fun _ _ _ h => h) (Or.inl ⟨by rfl, ?_⟩) ?_ ?_
       rotate_left
       ·intro w'
        go_simp
        with_reducible rfl
       rotate_left
       ·simp only [Act.put, zB, zC, zD, i64_w, i32_w]
        rfl
       refine pure_ (i := 7) (N := some 26) (v := ?_) (a' := ?_) #[true, true, true, true, false, true, true, true, false, false, false] rfl rfl (any_of HT_.out (by kernel_rfl)) (fun _ _ _ h => h) (Or.inl ⟨by rfl, ?_⟩) ?_ ?_
       rotate_left
       ·intro w'
        go_simp
        with_reducible rfl
       rotate_left
       ·simp only [Act.put, zB, zC, zD, i64_w, i32_w]
        rfl
       refine take_ (i := 4) (N := some 23) (v := ?_) (a' := ?_) #[true, true, true, true, true, true, true, true, false, false, false] rfl rfl (take_ofW HT_.out HW_.out (by kernel_rfl)) (fun _ _ _ h => h) (Or.inl ⟨by rfl, ?_⟩) hHeld ?_ ?_
       rotate_left
       ·rintro w' ⟨s0, s1, s2, s3⟩
        go_simp
        with_reducible rfl
       rotate_left
       ·simp only [Act.put, zB, zC, zD, i64_w, i32_w]
        rfl
       refine one_ (i := 8) (N := some 6) #[true, true, true, true, true, true, true, true, true, false, false] rfl rfl (one_of HT_.out (by kernel_rfl)) (by decide) (fun K hK => ?_)
       refine box_step ?hg (N := 6) ?hd (cs := #[.int .u64 0, .int .u64 0, .int .u64 0, .int .u64 0]) (t := 77) ?hr ?_;(case hd => rfl);(case hg => rfl);(case hr => first|(go_simp;done)|(go_simp;rfl))
       intro gb129 hg w17 hbox hb
       have HS0_ := (hb.cell (zz4 _ _ (hHeld.1))).trans (hHeld.1)
       have HS1_ := (hb.cell (zz4 _ _ (hHeld.2.1))).trans (hHeld.2.1)
       have HS2_ := (hb.cell (zz4 _ _ (hHeld.2.2.1))).trans (hHeld.2.2.1)
       have HS3_ := (hb.cell (zz4 _ _ (hHeld.2.2.2))).trans (hHeld.2.2.2)
       have n0_ := zA (yy9 (Kd.R_elderB (by (with_reducible repeat (first|apply yy1|apply yy2|apply yy3));exact HO127.out) gb129 (Nat.le_of_eq hg.symm)) hb)
       have n1_ := zA (zN (by repeat (first|(with_reducible first|exact HB.out|apply zG|apply zF|apply zH)|exact HB.out)) hb)
       have n2_ := zA (hbox)
       have n3_ := zA ((by rw [hg];exact (zO (by repeat (first|(with_reducible first|exact HB.out|apply zG|apply zF|apply zH)|exact HB.out))) : w.heap.size ≤ gb129))
       have n4_ := zA ((by rw [hg];exact (zO (by repeat (first|(with_reducible first|exact HB.out|apply zG|apply zF|apply zH)|exact HB.out))) : w.heap.size ≤ gb129))
       clear HO127
       clear HB
       have HO127 := n0_
       have HB := n1_
       have BK129 := n2_
       have GW129 := n3_
       have GE129 := n4_
       clear n0_ n1_ n2_ n3_ n4_
       clear hb hbox hg
       refine hK.out _ _ ⟨HS0_, HS1_, HS2_, HS3_⟩ (fun hHeld => ?_)
       clear hK K
       refine norm_ (a' := ?_) ?_ ?_
       rotate_left
       ·show Act.put _ (some 6) _ = _
        simp only [Act.put, zB, zC, zD, i64_w, i32_w]
        rfl
       refine one_ (i := 9) (N := none) #[true, true, true, true, true, true, true, true, true, true, false] rfl rfl (one_of HT_.out (by kernel_rfl)) (by decide) (fun K hK => ?_)
       have hs18 : w17.cell? ⟨gb129, 0, none⟩ = some (.int .u64 0) := (zP BK129.out 0).trans rfl
       have hfs18 := zR BK129.out 0
       have hs19 : w17.cell? ⟨gb129, 1, none⟩ = some (.int .u64 0) := (zP BK129.out 1).trans rfl
       have hfs19 := zR BK129.out 1
       have hs20 : w17.cell? ⟨gb129, 2, none⟩ = some (.int .u64 0) := (zP BK129.out 2).trans rfl
       have hfs20 := zR BK129.out 2
       have hs21 : w17.cell? ⟨gb129, 3, none⟩ = some (.int .u64 0) := (zP BK129.out 3).trans rfl
       have hfs21 := zR BK129.out 3
       refine skip_ (w1 := ?_) (by rfl) rfl ?_ ?_
       rotate_left
       ·go_simp
        rfl
       refine hK.out _ _ ⟨((cell_far (p := ⟨gb129, _, none⟩) (by first|exact yy8 (yy7 HO127.out (fun _ hk => hk.2))|(rw [add_block];exact yy8 (yy7 HO127.out (fun _ hk => hk.2)))|(show (Addr.add _ _).block ≠ _;rw [add_block];exact yy8 (yy7 HO127.out (fun _ hk => hk.2)))|(dsimp only;exact yy8 (yy7 HO127.out (fun _ hk => hk.2)))) _).trans (((cell_far (p := ⟨gb129, _, none⟩) (by first|exact yy8 (yy7 HO127.out (fun _ hk => hk.2))|(rw [add_block];exact yy8 (yy7 HO127.out (fun _ hk => hk.2)))|(show (Addr.add _ _).block ≠ _;rw [add_block];exact yy8 (yy7 HO127.out (fun _ hk => hk.2)))|(dsimp only;exact yy8 (yy7 HO127.out (fun _ hk => hk.2)))) _).trans (((cell_far (p := ⟨gb129, _, none⟩) (by first|exact yy8 (yy7 HO127.out (fun _ hk => hk.2))|(rw [add_block];exact yy8 (yy7 HO127.out (fun _ hk => hk.2)))|(show (Addr.add _ _).block ≠ _;rw [add_block];exact yy8 (yy7 HO127.out (fun _ hk => hk.2)))|(dsimp only;exact yy8 (yy7 HO127.out (fun _ hk => hk.2)))) _).trans (((cell_far (p := ⟨gb129, _, none⟩) (by first|exact yy8 (yy7 HO127.out (fun _ hk => hk.2))|(rw [add_block];exact yy8 (yy7 HO127.out (fun _ hk => hk.2)))|(show (Addr.add _ _).block ≠ _;rw [add_block];exact yy8 (yy7 HO127.out (fun _ hk => hk.2)))|(dsimp only;exact yy8 (yy7 HO127.out (fun _ hk => hk.2)))) _).trans (hHeld.1)))))))), ((cell_far (p := ⟨gb129, _, none⟩) (by first|exact yy8 (yy7 HO127.out (fun _ hk => hk.2))|(rw [add_block];exact yy8 (yy7 HO127.out (fun _ hk => hk.2)))|(show (Addr.add _ _).block ≠ _;rw [add_block];exact yy8 (yy7 HO127.out (fun _ hk => hk.2)))|(dsimp only;exact yy8 (yy7 HO127.out (fun _ hk => hk.2)))) _).trans (((cell_far (p := ⟨gb129, _, none⟩) (by first|exact yy8 (yy7 HO127.out (fun _ hk => hk.2))|(rw [add_block];exact yy8 (yy7 HO127.out (fun _ hk => hk.2)))|(show (Addr.add _ _).block ≠ _;rw [add_block];exact yy8 (yy7 HO127.out (fun _ hk => hk.2)))|(dsimp only;exact yy8 (yy7 HO127.out (fun _ hk => hk.2)))) _).trans (((cell_far (p := ⟨gb129, _, none⟩) (by first|exact yy8 (yy7 HO127.out (fun _ hk => hk.2))|(rw [add_block];exact yy8 (yy7 HO127.out (fun _ hk => hk.2)))|(show (Addr.add _ _).block ≠ _;rw [add_block];exact yy8 (yy7 HO127.out (fun _ hk => hk.2)))|(dsimp only;exact yy8 (yy7 HO127.out (fun _ hk => hk.2)))) _).trans (((cell_far (p := ⟨gb129, _, none⟩) (by first|exact yy8 (yy7 HO127.out (fun _ hk => hk.2))|(rw [add_block];exact yy8 (yy7 HO127.out (fun _ hk => hk.2)))|(show (Addr.add _ _).block ≠ _;rw [add_block];exact yy8 (yy7 HO127.out (fun _ hk => hk.2)))|(dsimp only;exact yy8 (yy7 HO127.out (fun _ hk => hk.2)))) _).trans (hHeld.2.1)))))))), ((cell_far (p := ⟨gb129, _, none⟩) (by first|exact yy8 (yy7 HO127.out (fun _ hk => hk.2))|(rw [add_block];exact yy8 (yy7 HO127.out (fun _ hk => hk.2)))|(show (Addr.add _ _).block ≠ _;rw [add_block];exact yy8 (yy7 HO127.out (fun _ hk => hk.2)))|(dsimp only;exact yy8 (yy7 HO127.out (fun _ hk => hk.2)))) _).trans (((cell_far (p := ⟨gb129, _, none⟩) (by first|exact yy8 (yy7 HO127.out (fun _ hk => hk.2))|(rw [add_block];exact yy8 (yy7 HO127.out (fun _ hk => hk.2)))|(show (Addr.add _ _).block ≠ _;rw [add_block];exact yy8 (yy7 HO127.out (fun _ hk => hk.2)))|(dsimp only;exact yy8 (yy7 HO127.out (fun _ hk => hk.2)))) _).trans (((cell_far (p := ⟨gb129, _, none⟩) (by first|exact yy8 (yy7 HO127.out (fun _ hk => hk.2))|(rw [add_block];exact yy8 (yy7 HO127.out (fun _ hk => hk.2)))|(show (Addr.add _ _).block ≠ _;rw [add_block];exact yy8 (yy7 HO127.out (fun _ hk => hk.2)))|(dsimp only;exact yy8 (yy7 HO127.out (fun _ hk => hk.2)))) _).trans (((cell_far (p := ⟨gb129, _, none⟩) (by first|exact yy8 (yy7 HO127.out (fun _ hk => hk.2))|(rw [add_block];exact yy8 (yy7 HO127.out (fun _ hk => hk.2)))|(show (Addr.add _ _).block ≠ _;rw [add_block];exact yy8 (yy7 HO127.out (fun _ hk => hk.2)))|(dsimp only;exact yy8 (yy7 HO127.out (fun _ hk => hk.2)))) _).trans (hHeld.2.2.1)))))))), ((cell_far (p := ⟨gb129, _, none⟩) (by first|exact yy8 (yy7 HO127.out (fun _ hk => hk.2))|(rw [add_block];exact yy8 (yy7 HO127.out (fun _ hk => hk.2)))|(show (Addr.add _ _).block ≠ _;rw [add_block];exact yy8 (yy7 HO127.out (fun _ hk => hk.2)))|(dsimp only;exact yy8 (yy7 HO127.out (fun _ hk => hk.2)))) _).trans (((cell_far (p := ⟨gb129, _, none⟩) (by first|exact yy8 (yy7 HO127.out (fun _ hk => hk.2))|(rw [add_block];exact yy8 (yy7 HO127.out (fun _ hk => hk.2)))|(show (Addr.add _ _).block ≠ _;rw [add_block];exact yy8 (yy7 HO127.out (fun _ hk => hk.2)))|(dsimp only;exact yy8 (yy7 HO127.out (fun _ hk => hk.2)))) _).trans (((cell_far (p := ⟨gb129, _, none⟩) (by first|exact yy8 (yy7 HO127.out (fun _ hk => hk.2))|(rw [add_block];exact yy8 (yy7 HO127.out (fun _ hk => hk.2)))|(show (Addr.add _ _).block ≠ _;rw [add_block];exact yy8 (yy7 HO127.out (fun _ hk => hk.2)))|(dsimp only;exact yy8 (yy7 HO127.out (fun _ hk => hk.2)))) _).trans (((cell_far (p := ⟨gb129, _, none⟩) (by first|exact yy8 (yy7 HO127.out (fun _ hk => hk.2))|(rw [add_block];exact yy8 (yy7 HO127.out (fun _ hk => hk.2)))|(show (Addr.add _ _).block ≠ _;rw [add_block];exact yy8 (yy7 HO127.out (fun _ hk => hk.2)))|(dsimp only;exact yy8 (yy7 HO127.out (fun _ hk => hk.2)))) _).trans (hHeld.2.2.2))))))))⟩ (fun hHeld => ?_)
       clear hK K
       refine pure_ (i := 10) (N := some 7) (v := ?_) (a' := ?_) #[true, true, true, true, true, true, true, true, true, true, true] rfl rfl (any_of HT_.out (by kernel_rfl)) (fun _ _ _ h => h) (Or.inl ⟨by rfl, ?_⟩) ?_ ?_
       rotate_left
       ·intro w'
        go_simp
        with_reducible rfl
       rotate_left
       ·simp only [Act.put, zB, zC, zD, i64_w, i32_w]
        rfl
       refine done_ (done_of HT_.out (by kernel_rfl)) ?_
       go_upto_region 5 with (fail)
       go_cut [8] (fun v8 wc => ∃ (kq : Nat) (x8_12 : Bool), v8 = .bool x8_12 ∧ Aside0 (marks_Kind.j1 kq a0 a1 ji12 x8_12 ((rd_T77 t125 (ji7)).f0) ((rd_T77 t125 (ji7)).f1) ((rd_T77 t125 (ji7)).f2) ((rd_T77 t125 (ji7)).f3) = some r) ∧ Aside0 (kq ≤ kj2) ∧ Aside0 (wc.heap[gb129]? = some (.cells #[.int .u64 ((rd_T77 t125 (ji7)).f0), .int .u64 ((rd_T77 t125 (ji7)).f1), .int .u64 ((rd_T77 t125 (ji7)).f2), .int .u64 ((rd_T77 t125 (ji7)).f3)] 77 (0, 0))) ∧ Aside0 (Below w.heap.size w wc))
       case first =>
        have H := HC13.out
        clear HC13
        by_cases c22 : a1 ≥ 64
        ·rw [if_pos c22] at H
         have c22b0 : decide (64 ≤ a1) = true := zz1 c22
         clear c22
         (first|rw [c22b0]|(simp only [i64_w, i32_w];rw [c22b0])|skip)
         obtain ⟨ji23, hji23⟩ : ∃ j_ : Int, (wrap64 ((ji7) - 1)) = j_ := ⟨_, rfl⟩
         replace H : (if 0 ≤ (ji23) then (if (ji23) < (t125.length : Int) then ((marks_rows_ends.f ((rd_T77 t125 (ji23)).f0) ((rd_T77 t125 (ji23)).f1) ((rd_T77 t125 (ji23)).f2) ((rd_T77 t125 (ji23)).f3)).bind fun t131 => (marks_Kind.j1 kj2 a0 a1 ji12 t131 ((rd_T77 t125 (ji7)).f0) ((rd_T77 t125 (ji7)).f1) ((rd_T77 t125 (ji7)).f2) ((rd_T77 t125 (ji7)).f3))) else (none)) else (none)) = some r := by first|(rw [hji23] at H;exact H)|(simp only [hji23] at H ⊢;exact H)
         have hji23w : (IntKind.i64.wrap ((ji7) - 1)) = ji23 := (i64_w _).trans hji23
         by_cases c24 : 0 ≤ (ji23)
         ·rw [if_pos c24] at H
          have c24b0 : decide (0 ≤ (ji23)) = true := zz1 c24
          clear c24
          by_cases c25 : (ji23) < (t125.length : Int)
          ·rw [if_pos c25] at H
           have c25b0 : decide ((ji23) < (t125.length : Int)) = true := zz1 c25
           clear c25
           replace H := Option.bind_eq_some_iff.mp H
           obtain ⟨t131, A260, H⟩ := H
           replace H : (marks_Kind.j1 kj2 a0 a1 ji12 t131 ((rd_T77 t125 (ji7)).f0) ((rd_T77 t125 (ji7)).f1) ((rd_T77 t125 (ji7)).f2) ((rd_T77 t125 (ji7)).f3)) = some r := H
           have A26 := zA A260
           clear A260
           have H' := zA H
           clear H
           have p130 : 0 ≤ ((ji23) : Int) := zE (by first|(with_reducible assumption)|assumption)
           have q130 : (ji23) < (t125.length : Int) := zE (by first|(with_reducible assumption)|assumption)
           obtain ⟨ad130, e130, hx130_0, hx130_1, hx130_2, hx130_3⟩ := at_T77 (Kd.R_reads' HO127.out).2.2 (ji23) p130 q130
           obtain rfl : ad128 = ad130 := (by injection e130)
           have hn130_0 : ad128.block ≠ gb129 := (by first|exact yy8 (Kd.R_ne HO127.out BK129.out (by decide))|exact yy8 (yy7 HO127.out (fun _ hk => hk.2)))
           have hn130_1 : ad128.block ≠ gb129 := (by first|exact yy8 (Kd.R_ne HO127.out BK129.out (by decide))|exact yy8 (yy7 HO127.out (fun _ hk => hk.2)))
           have hn130_2 : ad128.block ≠ gb129 := (by first|exact yy8 (Kd.R_ne HO127.out BK129.out (by decide))|exact yy8 (yy7 HO127.out (fun _ hk => hk.2)))
           have hn130_3 : ad128.block ≠ gb129 := (by first|exact yy8 (Kd.R_ne HO127.out BK129.out (by decide))|exact yy8 (yy7 HO127.out (fun _ hk => hk.2)))
           replace hx130_0 := (cell_far (p := ⟨gb129, 0, none⟩) (by first|(rw [add_block];exact hn130_0)|(show (Addr.add _ _).block ≠ _;rw [add_block];exact hn130_0)|exact hn130_0) (.int .u64 ((rd_T77 t125 (ji7)).f0))).trans hx130_0
           replace hx130_1 := (cell_far (p := ⟨gb129, 0, none⟩) (by first|(rw [add_block];exact hn130_0)|(show (Addr.add _ _).block ≠ _;rw [add_block];exact hn130_0)|exact hn130_0) (.int .u64 ((rd_T77 t125 (ji7)).f0))).trans hx130_1
           replace hx130_2 := (cell_far (p := ⟨gb129, 0, none⟩) (by first|(rw [add_block];exact hn130_0)|(show (Addr.add _ _).block ≠ _;rw [add_block];exact hn130_0)|exact hn130_0) (.int .u64 ((rd_T77 t125 (ji7)).f0))).trans hx130_2
           replace hx130_3 := (cell_far (p := ⟨gb129, 0, none⟩) (by first|(rw [add_block];exact hn130_0)|(show (Addr.add _ _).block ≠ _;rw [add_block];exact hn130_0)|exact hn130_0) (.int .u64 ((rd_T77 t125 (ji7)).f0))).trans hx130_3
           replace hx130_0 := (cell_far (p := ⟨gb129, 1, none⟩) (by first|(rw [add_block];exact hn130_1)|(show (Addr.add _ _).block ≠ _;rw [add_block];exact hn130_1)|exact hn130_1) (.int .u64 ((rd_T77 t125 (ji7)).f1))).trans hx130_0
           replace hx130_1 := (cell_far (p := ⟨gb129, 1, none⟩) (by first|(rw [add_block];exact hn130_1)|(show (Addr.add _ _).block ≠ _;rw [add_block];exact hn130_1)|exact hn130_1) (.int .u64 ((rd_T77 t125 (ji7)).f1))).trans hx130_1
           replace hx130_2 := (cell_far (p := ⟨gb129, 1, none⟩) (by first|(rw [add_block];exact hn130_1)|(show (Addr.add _ _).block ≠ _;rw [add_block];exact hn130_1)|exact hn130_1) (.int .u64 ((rd_T77 t125 (ji7)).f1))).trans hx130_2
           replace hx130_3 := (cell_far (p := ⟨gb129, 1, none⟩) (by first|(rw [add_block];exact hn130_1)|(show (Addr.add _ _).block ≠ _;rw [add_block];exact hn130_1)|exact hn130_1) (.int .u64 ((rd_T77 t125 (ji7)).f1))).trans hx130_3
           replace hx130_0 := (cell_far (p := ⟨gb129, 2, none⟩) (by first|(rw [add_block];exact hn130_2)|(show (Addr.add _ _).block ≠ _;rw [add_block];exact hn130_2)|exact hn130_2) (.int .u64 ((rd_T77 t125 (ji7)).f2))).trans hx130_0
           replace hx130_1 := (cell_far (p := ⟨gb129, 2, none⟩) (by first|(rw [add_block];exact hn130_2)|(show (Addr.add _ _).block ≠ _;rw [add_block];exact hn130_2)|exact hn130_2) (.int .u64 ((rd_T77 t125 (ji7)).f2))).trans hx130_1
           replace hx130_2 := (cell_far (p := ⟨gb129, 2, none⟩) (by first|(rw [add_block];exact hn130_2)|(show (Addr.add _ _).block ≠ _;rw [add_block];exact hn130_2)|exact hn130_2) (.int .u64 ((rd_T77 t125 (ji7)).f2))).trans hx130_2
           replace hx130_3 := (cell_far (p := ⟨gb129, 2, none⟩) (by first|(rw [add_block];exact hn130_2)|(show (Addr.add _ _).block ≠ _;rw [add_block];exact hn130_2)|exact hn130_2) (.int .u64 ((rd_T77 t125 (ji7)).f2))).trans hx130_3
           replace hx130_0 := (cell_far (p := ⟨gb129, 3, none⟩) (by first|(rw [add_block];exact hn130_3)|(show (Addr.add _ _).block ≠ _;rw [add_block];exact hn130_3)|exact hn130_3) (.int .u64 ((rd_T77 t125 (ji7)).f3))).trans hx130_0
           replace hx130_1 := (cell_far (p := ⟨gb129, 3, none⟩) (by first|(rw [add_block];exact hn130_3)|(show (Addr.add _ _).block ≠ _;rw [add_block];exact hn130_3)|exact hn130_3) (.int .u64 ((rd_T77 t125 (ji7)).f3))).trans hx130_1
           replace hx130_2 := (cell_far (p := ⟨gb129, 3, none⟩) (by first|(rw [add_block];exact hn130_3)|(show (Addr.add _ _).block ≠ _;rw [add_block];exact hn130_3)|exact hn130_3) (.int .u64 ((rd_T77 t125 (ji7)).f3))).trans hx130_2
           replace hx130_3 := (cell_far (p := ⟨gb129, 3, none⟩) (by first|(rw [add_block];exact hn130_3)|(show (Addr.add _ _).block ≠ _;rw [add_block];exact hn130_3)|exact hn130_3) (.int .u64 ((rd_T77 t125 (ji7)).f3))).trans hx130_3
           clear hn130_0
           clear hn130_1
           clear hn130_2
           clear hn130_3
           replace p130 := eq_true p130
           replace q130 := eq_true q130
           go_wp2_with (first|(go_at_call 59;(with_reducible refine (marks_rows_ends.calls ((rd_T77 t125 (ji23)).f0) ((rd_T77 t125 (ji23)).f1) ((rd_T77 t125 (ji23)).f2) ((rd_T77 t125 (ji23)).f3) t131 _ A26.out).mono ?_);rintro e w27 ⟨rfl, hb⟩;have n0_ := zA (yy9 (by (with_reducible repeat (first|apply yy1|apply yy2|apply yy3));exact (Kd.R_mono (Kd.R_far (p := ⟨gb129, 3, none⟩) (Kd.R_far (p := ⟨gb129, 2, none⟩) (Kd.R_far (p := ⟨gb129, 1, none⟩) (Kd.R_far (p := ⟨gb129, 0, none⟩) (Kd.R_mono HO127.out (fun k_ hk => (⟨hk, hk.2⟩ : _ ∧ k_ ≠ gb129))) (fun _ hk => hk.2) (.int .u64 ((rd_T77 t125 (ji7)).f0))) (fun _ hk => hk.2) (.int .u64 ((rd_T77 t125 (ji7)).f1))) (fun _ hk => hk.2) (.int .u64 ((rd_T77 t125 (ji7)).f2))) (fun _ hk => hk.2) (.int .u64 ((rd_T77 t125 (ji7)).f3))) (fun _ h_ => h_.1))) hb);have n1_ := zA (zQ (g := gb129) (o := .cells #[.int .u64 ((rd_T77 t125 (ji7)).f0), .int .u64 ((rd_T77 t125 (ji7)).f1), .int .u64 ((rd_T77 t125 (ji7)).f2), .int .u64 ((rd_T77 t125 (ji7)).f3)] 77 (0, 0)) (by (with_reducible repeat (first|refine zJ ?_ _|refine zK ?_|refine zL ?_ _));refine blk_put (cs := #[.int .u64 ((rd_T77 t125 (ji7)).f0), .int .u64 ((rd_T77 t125 (ji7)).f1), .int .u64 ((rd_T77 t125 (ji7)).f2), .int .u64 0]) ?_ 3 _ rfl;(with_reducible repeat (first|refine zJ ?_ _|refine zK ?_|refine zL ?_ _));refine blk_put (cs := #[.int .u64 ((rd_T77 t125 (ji7)).f0), .int .u64 ((rd_T77 t125 (ji7)).f1), .int .u64 0, .int .u64 0]) ?_ 2 _ rfl;(with_reducible repeat (first|refine zJ ?_ _|refine zK ?_|refine zL ?_ _));refine blk_put (cs := #[.int .u64 ((rd_T77 t125 (ji7)).f0), .int .u64 0, .int .u64 0, .int .u64 0]) ?_ 1 _ rfl;(with_reducible repeat (first|refine zJ ?_ _|refine zK ?_|refine zL ?_ _));refine blk_put (cs := #[.int .u64 0, .int .u64 0, .int .u64 0, .int .u64 0]) ?_ 0 _ rfl;(with_reducible repeat (first|refine zJ ?_ _|refine zK ?_|refine zL ?_ _));exact BK129.out) hb);have n2_ := zA (zN (by repeat (first|(with_reducible first|exact HB.out|apply zG|apply zF|apply zH|refine zI ?_ GE129.out)|exact HB.out)) hb);clear HO127;clear BK129;clear HB;have HO127 := n0_;have BK129 := n1_;have HB := n2_;clear n0_ n1_ n2_;(try clear hb);(try clear hb2);(try clear hk);(try clear hi)))
           go_meet
           case rel => exact ⟨_, (t131), (by first|rfl|(simp;done)|(simp [*];done)), H', ⟨by have := HJ2.out;first|omega|exact Nat.le_refl _⟩, ⟨by (with_reducible repeat (first|refine zJ ?_ _|refine zK ?_|refine zL ?_ _));exact BK129.out⟩, ⟨by repeat (first|(with_reducible first|exact HB.out|apply zG|apply zF|apply zH|refine zI ?_ GE129.out)|exact HB.out)⟩⟩
          ·rw [if_neg c25] at H
           exact absurd H (by simp)
         ·rw [if_neg c24] at H
          exact absurd H (by simp)
        ·rw [if_neg c22] at H
         have c22b0 : decide (64 ≤ a1) = false := decide_eq_false c22
         clear c22
         (first|rw [c22b0]|(simp only [i64_w, i32_w];rw [c22b0])|skip)
         have H' := zA H
         clear H
         go_wp2
         go_meet
         case rel => exact ⟨_, (false), (by first|rfl|(simp;done)|(simp [*];done)), H', ⟨by have := HJ2.out;first|omega|exact Nat.le_refl _⟩, ⟨by (with_reducible repeat (first|refine zJ ?_ _|refine zK ?_|refine zL ?_ _));refine blk_put (cs := #[.int .u64 ((rd_T77 t125 (ji7)).f0), .int .u64 ((rd_T77 t125 (ji7)).f1), .int .u64 ((rd_T77 t125 (ji7)).f2), .int .u64 0]) ?_ 3 _ rfl;(with_reducible repeat (first|refine zJ ?_ _|refine zK ?_|refine zL ?_ _));refine blk_put (cs := #[.int .u64 ((rd_T77 t125 (ji7)).f0), .int .u64 ((rd_T77 t125 (ji7)).f1), .int .u64 0, .int .u64 0]) ?_ 2 _ rfl;(with_reducible repeat (first|refine zJ ?_ _|refine zK ?_|refine zL ?_ _));refine blk_put (cs := #[.int .u64 ((rd_T77 t125 (ji7)).f0), .int .u64 0, .int .u64 0, .int .u64 0]) ?_ 1 _ rfl;(with_reducible repeat (first|refine zJ ?_ _|refine zK ?_|refine zL ?_ _));refine blk_put (cs := #[.int .u64 0, .int .u64 0, .int .u64 0, .int .u64 0]) ?_ 0 _ rfl;(with_reducible repeat (first|refine zJ ?_ _|refine zK ?_|refine zL ?_ _));exact BK129.out⟩, ⟨by repeat (first|(with_reducible first|exact HB.out|apply zG|apply zF|apply zH|refine zI ?_ GE129.out)|exact HB.out)⟩⟩
       case rest =>
        clear HC13
        try clear c1
        try clear p1
        try clear q1
        try clear hx1
        try clear c2
        try clear p2
        try clear c4
        try clear c4b0
        try clear c5
        try clear p6
        try clear c8
        try clear c8b0
        try clear c9
        try clear c9b0
        try clear c11
        try clear c11b0
        try clear c11b1
        try clear p12
        try clear q12
        try clear hx12
        try clear p13
        try clear q13
        try clear hx13
        try clear c22
        try clear c22b0
        try clear c24
        try clear c24b0
        try clear c25
        try clear c25b0
        try clear hx128_0
        try clear hx128_1
        try clear hx128_2
        try clear hx128_3
        try clear hx130_0
        try clear hx130_1
        try clear hx130_2
        try clear hx130_3
        try clear p128
        try clear p130
        try clear p2
        try clear q128
        try clear q130
        obtain ⟨kq, x8_12, rfl, HA, HJ12, BK129, HB⟩ := hcut
        cases kq with
        | zero => exact absurd HA.out (by simp [marks_Kind.j1])
        | succ kj12 =>
         have H := HA.out
         clear HA
         simp only [marks_Kind.j1] at H
         by_cases c28 : (Go.bits .and .u64 (Go.bits .or .u64 ((rd_T77 t125 (ji7)).f0) ((rd_T77 t125 (ji7)).f2)) ji12) = 0
         ·rw [if_pos c28] at H
          have c28b0 : ((Go.bits .and .u64 (Go.bits .or .u64 ((rd_T77 t125 (ji7)).f0) ((rd_T77 t125 (ji7)).f2)) ji12) == 0) = true := beq_iff_eq.mpr c28
          have c28b1 : ((Go.bits .and .u64 (Go.bits .or .u64 ((rd_T77 t125 (ji7)).f0) ((rd_T77 t125 (ji7)).f2)) ji12) != 0) = false := bne_eq_false_iff_eq.mpr c28
          clear c28
          replace H := Option.bind_eq_some_iff.mp H
          obtain ⟨t132, A290, H⟩ := H
          replace H : (if (Go.bits .and .u64 t132 ji12) = 0 then (some 0) else (some 119)) = some r := H
          have A29 := zA A290
          clear A290
          by_cases c30 : (Go.bits .and .u64 t132 ji12) = 0
          ·rw [if_pos c30] at H
           have c30b0 : ((Go.bits .and .u64 t132 ji12) == 0) = true := beq_iff_eq.mpr c30
           have c30b1 : ((Go.bits .and .u64 t132 ji12) != 0) = false := bne_eq_false_iff_eq.mpr c30
           clear c30
           obtain rfl := Option.some.inj H
           have hcz31_0 : wc.cell? ⟨gb129, 0, none⟩ = some (.int .u64 ((rd_T77 t125 (ji7)).f0)) := (zP BK129.out 0).trans rfl
           have hcz31_1 : wc.cell? ⟨gb129, 1, none⟩ = some (.int .u64 ((rd_T77 t125 (ji7)).f1)) := (zP BK129.out 1).trans rfl
           have hcz31_2 : wc.cell? ⟨gb129, 2, none⟩ = some (.int .u64 ((rd_T77 t125 (ji7)).f2)) := (zP BK129.out 2).trans rfl
           have hcz31_3 : wc.cell? ⟨gb129, 3, none⟩ = some (.int .u64 ((rd_T77 t125 (ji7)).f3)) := (zP BK129.out 3).trans rfl
           have hfz31_0 := zR BK129.out 0
           have hfz31_1 := zR BK129.out 1
           have hfz31_2 := zR BK129.out 2
           have hfz31_3 := zR BK129.out 3
           go_wp2_with (first|((with_reducible refine gate_callee (f := 60) rfl ?_);refine goesL_ (some 53) rfl rfl Tryd.func60 (by kernel_rfl) rfl #[.agg #[.int .u64 ((rd_T77 t125 (ji7)).f0), .int .u64 ((rd_T77 t125 (ji7)).f1), .int .u64 ((rd_T77 t125 (ji7)).f2), .int .u64 ((rd_T77 t125 (ji7)).f3)], .bool x8_12] rfl (by (try simp only [List.map_toArray, List.map_cons, List.map_nil]);first|done|(simp only [hji7];rfl)|rfl|(simp only [List.length_drop, List.length_take];rfl)) ?_;(with_reducible refine (marks_rows_starts.calls ((rd_T77 t125 (ji7)).f0) ((rd_T77 t125 (ji7)).f1) ((rd_T77 t125 (ji7)).f2) ((rd_T77 t125 (ji7)).f3) x8_12 t132 _ A29.out).mono ?_);rintro e w32 ⟨rfl, hb⟩;refine ⟨_, rfl, ?_⟩;have n0_ := zA (zQ (g := gb129) (o := .cells #[.int .u64 ((rd_T77 t125 (ji7)).f0), .int .u64 ((rd_T77 t125 (ji7)).f1), .int .u64 ((rd_T77 t125 (ji7)).f2), .int .u64 ((rd_T77 t125 (ji7)).f3)] 77 (0, 0)) (by (with_reducible repeat (first|refine zJ ?_ _|refine zK ?_|refine zL ?_ _));exact BK129.out) hb);have n1_ := zA (zN (by repeat (first|(with_reducible first|exact HB.out|apply zG|apply zF|apply zH|refine zI ?_ GE129.out)|exact HB.out)) hb);clear BK129;clear HB;have BK129 := n0_;have HB := n1_;clear n0_ n1_;(try clear hb);(try clear hb2);(try clear hk);(try clear hi)))
           go_ret
           exact ⟨by first|rfl|(simp [errW_none, errW_some] <;> rfl)|(simp only [← hji7, ← hji10, ← hji12];first|rfl|(simp [errW_none, errW_some] <;> rfl))|(simp [*, errW_none, errW_some] <;> rfl), by repeat (first|(with_reducible first|exact HB.out|apply zG|apply zF|apply zH|refine zI ?_ GE129.out)|exact HB.out)⟩
          ·rw [if_neg c30] at H
           have c30b0 : ((Go.bits .and .u64 t132 ji12) == 0) = false := beq_eq_false_iff_ne.mpr c30
           have c30b1 : ((Go.bits .and .u64 t132 ji12) != 0) = true := bne_iff_ne.mpr c30
           obtain rfl := Option.some.inj H
           have hcz33_0 : wc.cell? ⟨gb129, 0, none⟩ = some (.int .u64 ((rd_T77 t125 (ji7)).f0)) := (zP BK129.out 0).trans rfl
           have hcz33_1 : wc.cell? ⟨gb129, 1, none⟩ = some (.int .u64 ((rd_T77 t125 (ji7)).f1)) := (zP BK129.out 1).trans rfl
           have hcz33_2 : wc.cell? ⟨gb129, 2, none⟩ = some (.int .u64 ((rd_T77 t125 (ji7)).f2)) := (zP BK129.out 2).trans rfl
           have hcz33_3 : wc.cell? ⟨gb129, 3, none⟩ = some (.int .u64 ((rd_T77 t125 (ji7)).f3)) := (zP BK129.out 3).trans rfl
           have hfz33_0 := zR BK129.out 0
           have hfz33_1 := zR BK129.out 1
           have hfz33_2 := zR BK129.out 2
           have hfz33_3 := zR BK129.out 3
           go_wp2_with (first|((with_reducible refine gate_callee (f := 60) rfl ?_);refine goesL_ (some 53) rfl rfl Tryd.func60 (by kernel_rfl) rfl #[.agg #[.int .u64 ((rd_T77 t125 (ji7)).f0), .int .u64 ((rd_T77 t125 (ji7)).f1), .int .u64 ((rd_T77 t125 (ji7)).f2), .int .u64 ((rd_T77 t125 (ji7)).f3)], .bool x8_12] rfl (by (try simp only [List.map_toArray, List.map_cons, List.map_nil]);first|done|(simp only [hji7];rfl)|rfl|(simp only [List.length_drop, List.length_take];rfl)) ?_;(with_reducible refine (marks_rows_starts.calls ((rd_T77 t125 (ji7)).f0) ((rd_T77 t125 (ji7)).f1) ((rd_T77 t125 (ji7)).f2) ((rd_T77 t125 (ji7)).f3) x8_12 t132 _ A29.out).mono ?_);rintro e w34 ⟨rfl, hb⟩;refine ⟨_, rfl, ?_⟩;have n0_ := zA (zQ (g := gb129) (o := .cells #[.int .u64 ((rd_T77 t125 (ji7)).f0), .int .u64 ((rd_T77 t125 (ji7)).f1), .int .u64 ((rd_T77 t125 (ji7)).f2), .int .u64 ((rd_T77 t125 (ji7)).f3)] 77 (0, 0)) (by (with_reducible repeat (first|refine zJ ?_ _|refine zK ?_|refine zL ?_ _));exact BK129.out) hb);have n1_ := zA (zN (by repeat (first|(with_reducible first|exact HB.out|apply zG|apply zF|apply zH|refine zI ?_ GE129.out)|exact HB.out)) hb);clear BK129;clear HB;have BK129 := n0_;have HB := n1_;clear n0_ n1_;(try clear hb);(try clear hb2);(try clear hk);(try clear hi)))
           go_ret
           exact ⟨by first|rfl|(simp [errW_none, errW_some] <;> rfl)|(simp only [← hji7, ← hji10, ← hji12];first|rfl|(simp [errW_none, errW_some] <;> rfl))|(simp [*, errW_none, errW_some] <;> rfl), by repeat (first|(with_reducible first|exact HB.out|apply zG|apply zF|apply zH|refine zI ?_ GE129.out)|exact HB.out)⟩
         ·rw [if_neg c28] at H
          have c28b0 : ((Go.bits .and .u64 (Go.bits .or .u64 ((rd_T77 t125 (ji7)).f0) ((rd_T77 t125 (ji7)).f2)) ji12) == 0) = false := beq_eq_false_iff_ne.mpr c28
          have c28b1 : ((Go.bits .and .u64 (Go.bits .or .u64 ((rd_T77 t125 (ji7)).f0) ((rd_T77 t125 (ji7)).f2)) ji12) != 0) = true := bne_iff_ne.mpr c28
          by_cases c35 : 0 ≤ a1
          ·rw [if_pos c35] at H
           have c35b0 : decide (0 ≤ a1) = true := zz1 c35
           clear c35
           by_cases c36 : a1 < (a0.size : Int)
           ·rw [if_pos c36] at H
            have c36b0 : decide (a1 < (a0.size : Int)) = true := zz1 c36
            clear c36
            obtain rfl := Option.some.inj H
            have hcz38_0 : wc.cell? ⟨gb129, 0, none⟩ = some (.int .u64 ((rd_T77 t125 (ji7)).f0)) := (zP BK129.out 0).trans rfl
            have hcz38_1 : wc.cell? ⟨gb129, 1, none⟩ = some (.int .u64 ((rd_T77 t125 (ji7)).f1)) := (zP BK129.out 1).trans rfl
            have hcz38_2 : wc.cell? ⟨gb129, 2, none⟩ = some (.int .u64 ((rd_T77 t125 (ji7)).f2)) := (zP BK129.out 2).trans rfl
            have hcz38_3 : wc.cell? ⟨gb129, 3, none⟩ = some (.int .u64 ((rd_T77 t125 (ji7)).f3)) := (zP BK129.out 3).trans rfl
            have hfz38_0 := zR BK129.out 0
            have hfz38_1 := zR BK129.out 1
            have hfz38_2 := zR BK129.out 2
            have hfz38_3 := zR BK129.out 3
            have p37 : 0 ≤ (a1 : Int) := zE (by first|(with_reducible assumption)|assumption)
            have q37 : a1 < (a0.size : Int) := zE (by first|(with_reducible assumption)|assumption)
            have hx37 := bt_at a0 a1
            replace p37 := eq_true p37
            replace q37 := eq_true q37
            go_wp2
            go_ret
            exact ⟨by first|rfl|(simp [errW_none, errW_some] <;> rfl)|(simp only [← hji7, ← hji10, ← hji12];first|rfl|(simp [errW_none, errW_some] <;> rfl))|(simp [*, errW_none, errW_some] <;> rfl), by repeat (first|(with_reducible first|exact HB.out|apply zG|apply zF|apply zH|refine zI ?_ GE129.out)|exact HB.out)⟩
           ·rw [if_neg c36] at H
            exact absurd H (by simp)
          ·rw [if_neg c35] at H
           exact absurd H (by simp)
      ·rw [if_neg c11] at H
       exact absurd H (by simp)
     ·rw [if_neg c9] at H
      exact absurd H (by simp)
    ·rw [if_neg c8] at H
     exact absurd H (by simp)

section
open Go.Proofs.YtgddljealeklkaaDoorQ Go.Proofs.YtgddljealeklkaaDoorM
structure ClI (s : ByteArray) (a want found : Int) (ga gw gs gf : Nat) (W : World) : Prop where mk ::
 ba : Blk W ga #[.int .i64 a] 3
 bw : Blk W gw #[.int .i64 want] 3
 bs : Blk W gs #[.string s] 9
 bf : Blk W gf #[.int .i64 found] 3
 wf : gw ≠ gf
 aw : ga ≠ gw
 af : ga ≠ gf
theorem ClI.below {s : ByteArray} {a want found : Int} {ga gw gs gf : Nat} {W W' : World} (h : ClI s a want found ga gw gs gf W) (hb : Below W.heap.size W W') : ClI s a want found ga gw gs gf W' :=
 ⟨h.ba.below hb, h.bw.below hb, h.bs.below hb, h.bf.below hb, h.wf, h.aw, h.af⟩
theorem turned_set {X : List Nat} (W : World) {g : Nat} (hg : g ∈ X) (v : Value) : Turned X W (W.setCell ⟨g, 0, none⟩ v) :=
 ⟨rfl, rfl, rfl, by simp, fun k hk hn => Below.heap_setCell W ⟨g, 0, none⟩ v k (fun e => hn (by rw [show k = g from e];exact hg))⟩
theorem beqT {a b : Int} (h : a = b) : (a == b) = true := by rw [beq_iff_eq];exact h
theorem beqF {a b : Int} (h : a ≠ b) : (a == b) = false := by rw [beq_eq_false_iff_ne];exact h
def CloseTold (s : ByteArray) (p d : Nat) (a want : Int) (ga gw gs gf : Nat) (w : World) (e : Ending) (w' : World) : Prop :=
   ∃ b : Bool, e = .returned (.bool b) ∧ Turned [gw, gf] w w' ∧ (b = true → ¬ (a < (p : Int) ∧ (d : Int) = want ∧ closesB (bt s (p : Int)) = true ∧ (p : Int) ≠ a) ∧ ClI s a (if (p : Int) = a then (d : Int) + 1 else want) (-1) ga gw gs gf w') ∧
    (b = false → (a < (p : Int) ∧ (d : Int) = want ∧ closesB (bt s (p : Int)) = true ∧ (p : Int) ≠ a) ∧ ClI s a want (p : Int) ga gw gs gf w')
set_option maxHeartbeats 4000000 in
theorem levels_Close_1.calls (s : ByteArray) (p : Nat) (hp : p < s.size) (hs : s.size ≤ 1048576) (d : Nat) (hd : d ≤ 1048576) (a want : Int) (ga gw gs gf : Nat) (w : World) (I : ClI s a want (-1) ga gw gs gf w) :
  Calls Tryd.prog 75 #[.int .i64 (p : Int), .int .i64 (d : Int), .pointer (some ⟨ga, 0, none⟩), .pointer (some ⟨gw, 0, none⟩), .pointer (some ⟨gs, 0, none⟩), .pointer (some ⟨gf, 0, none⟩)] w (CloseTold s p d a want ga gw gs gf w) := by
 have ca : w.cell? ⟨ga, 0, none⟩ = some (.int .i64 a) := I.ba.cell (i := 0) rfl
 have cw : w.cell? ⟨gw, 0, none⟩ = some (.int .i64 want) := I.bw.cell (i := 0) rfl
 have cs : w.cell? ⟨gs, 0, none⟩ = some (.string s) := I.bs.cell (i := 0) rfl
 have cf : w.cell? ⟨gf, 0, none⟩ = some (.int .i64 (-1)) := I.bf.cell (i := 0) rfl
 have fw := I.bw.frozen 0
 have ff := I.bf.frozen 0
 have HI := zA I
 have HSZ := zA hs
 have hp0 : (0 : Int) ≤ (p : Int) := by omega
 have hp1 : (p : Int) < (s.size : Int) := by omega
 have hpB : (p : Int) ≤ 17179869184 := by omega
 have hdB : (d : Int) ≤ 17179869184 := by omega
 have hd0 : (0 : Int) ≤ (d : Int) := by omega
 have hq1 : wrap64 ((d : Int) + 1) = (d : Int) + 1 := wrap_succ hdB hd0
 obtain ⟨c, hc⟩ : ∃ c, c = bt s (p : Int) := ⟨_, rfl⟩
 have hbyte : ∀ h : p < s.size, ((s[p]'h).toNat : Int) = c := fun h => by
  rw [hc]
  unfold bt
  rw [Int.toNat_natCast, dif_pos h]
 have HC := zA hc
 clear hc I hs hd hdB hd0
 by_cases h1 : (p : Int) = a
 ·have t1 : ((p : Int) == a) = true := beqT h1
  have e1 : ∀ v : Value, (w.setCell ⟨gw, 0, none⟩ v).cell? ⟨gf, 0, none⟩ = some (.int .i64 (-1)) := fun v => (HI.out.bf.far (Ne.symm HI.out.wf) 0 v).cell rfl
  have H1 := zA h1
  clear h1
  go_enter Tryd.func75, Tryd.ntmps75
  go_wp2
  go_ret
  refine ⟨true, rfl, turned_set w (by simp) _, fun _ => ⟨fun h => h.2.2.2 H1.out, ?_⟩, fun h => by cases h⟩
  rw [if_pos H1.out]
  have J := HI.out
  exact ⟨J.ba.far J.aw 0 _, J.bw.set 0 _, J.bs.far (J.bs.ne J.bw (by decide)) 0 _, J.bf.far (Ne.symm J.wf) 0 _, J.wf, J.aw, J.af⟩
 ·have t1 : ((p : Int) == a) = false := beqF h1
  have H1 := zA h1
  clear h1
  by_cases h2 : a < (p : Int)
  ·by_cases h3 : (d : Int) = want
   ·have t3 : ((d : Int) == want) = true := beqT h3
    have H2 := zA (And.intro h2 h3)
    have e1 : ∀ v : Value, (w.setCell ⟨gf, 0, none⟩ v).cell? ⟨gf, 0, none⟩ = some v := fun v => (HI.out.bf.set 0 v).cell rfl
    have t2 : decide (a < (p : Int)) = true := zz1 h2
    have t6 : decide ((p : Int) < 0) = false := decide_eq_false (by omega)
    clear h2 h3
    by_cases h4 : c = 125
    ·subst h4
     go_enter Tryd.func75, Tryd.ntmps75
     go_wp2
     go_ret
     refine ⟨false, rfl, turned_set w (by simp) _, fun h => (by cases h), fun _ => ⟨⟨H2.out.1, H2.out.2, by rw [← HC.out];decide, H1.out⟩, ?_⟩⟩
     have J := HI.out
     exact ⟨J.ba.far J.af 0 _, J.bw.far J.wf 0 _, J.bs.far (J.bs.ne J.bf (by decide)) 0 _, J.bf.set 0 _, J.wf, J.aw, J.af⟩
    ·have t4 : (c == 125) = false := beqF h4
     clear h4
     by_cases h5 : c = 93
     ·subst h5
      go_enter Tryd.func75, Tryd.ntmps75
      go_wp2
      go_ret
      refine ⟨false, rfl, turned_set w (by simp) _, fun h => (by cases h), fun _ => ⟨⟨H2.out.1, H2.out.2, by rw [← HC.out];decide, H1.out⟩, ?_⟩⟩
      have J := HI.out
      exact ⟨J.ba.far J.af 0 _, J.bw.far J.wf 0 _, J.bs.far (J.bs.ne J.bf (by decide)) 0 _, J.bf.set 0 _, J.wf, J.aw, J.af⟩
     ·have t5 : (c == 93) = false := beqF h5
      clear h5
      go_enter Tryd.func75, Tryd.ntmps75
      go_wp2
      go_ret
      refine ⟨true, rfl, Turned.of_below (Below.refl _ _), fun _ => ⟨fun h => ?_, ?_⟩, fun h => by cases h⟩
      ·have h6 := h.2.2.1
       rw [← HC.out] at h6
       unfold closesB at h6
       rw [t4, t5] at h6
       cases h6
      ·rw [if_neg H1.out]
       exact HI.out
   ·have t3 : ((d : Int) == want) = false := beqF h3
    have H3 := zA h3
    have t2 : decide (a < (p : Int)) = true := zz1 h2
    clear h2 h3
    go_enter Tryd.func75, Tryd.ntmps75
    go_wp2
    go_ret
    refine ⟨true, rfl, Turned.of_below (Below.refl _ _), fun _ => ⟨fun h => H3.out h.2.1, ?_⟩, fun h => by cases h⟩
    rw [if_neg H1.out]
    exact HI.out
  ·have t2 : decide (a < (p : Int)) = false := decide_eq_false h2
   have H2 := zA h2
   clear h2
   go_enter Tryd.func75, Tryd.ntmps75
   go_wp2
   go_ret
   refine ⟨true, rfl, Turned.of_below (Below.refl _ _), fun _ => ⟨fun h => by have h7 := H2.out;have h8 := h.1;omega, ?_⟩, fun h => by cases h⟩
   rw [if_neg H1.out]
   exact HI.out
end


section
open Go.Proofs.YtgddljealeklkaaDoorQ Go.Proofs.YtgddljealeklkaaDoorM
def levels_Close.g (a0 : ByteArray) (a1 t : Int) : Option Int := if t = 123 ∨ t = 91 then (if a0.size ≤ 1048576 then some (closeR a0 a1 (placesL a0) (-1)) else none) else some (-1)
def levels_Close.f (k : Nat) (a0 : ByteArray) (a1 : Int) : Option Int := (marks_Kind.f k a0 a1).bind fun t => levels_Close.g a0 a1 t
set_option maxHeartbeats 4000000 in
theorem levels_Close.calls (k : Nat) (a0 : ByteArray) (a1 r : Int) (w : World) (hT : TabOk w) (h : levels_Close.f k a0 a1 = some r) :
    Calls Tryd.prog 39 #[.string a0, .int .i64 a1] w fun e w' => e = .returned (.int .i64 r) ∧ Below w.heap.size w w' := by
  unfold levels_Close.f at h
  obtain ⟨t, ht, h⟩ := Option.bind_eq_some_iff.1 h
  have HB := BelowH.refl w
  have HT := zA hT
  have HK := zA ht
  clear hT ht
  by_cases hk : t = 123 ∨ t = 91
  · unfold levels_Close.g at h
    rw [if_pos hk] at h
    by_cases hs : a0.size ≤ 1048576
    case neg => rw [if_neg hs] at h;cases h
    rw [if_pos hs] at h
    injection h with hr
    have HR := zA hr
    have HS := zA hs
    have WK : Aside0 (∀ (ga gw gs gf : Nat) (W : World), TabOk W → w.heap.size ≤ gw → w.heap.size ≤ gf → BelowH w W → ClI a0 a1 (-1) (-1) ga gw gs gf W →
        Calls Tryd.prog 64 #[.string a0, .func (.func 75) #[] #[.pointer (some ⟨ga, 0, none⟩), .pointer (some ⟨gw, 0, none⟩), .pointer (some ⟨gs, 0, none⟩), .pointer (some ⟨gf, 0, none⟩)]] W fun e w' => (∃ d : Int, e = .returned (.int .i64 d)) ∧ Blk w' gf #[.int .i64 r] 3 ∧ BelowH w w') := ⟨fun ga gw gs gf W hTW hgw hgf hBW I => by
      have := levels_walk.walk a0 HS.out W hTW 75 #[.pointer (some ⟨ga, 0, none⟩), .pointer (some ⟨gw, 0, none⟩), .pointer (some ⟨gs, 0, none⟩), .pointer (some ⟨gf, 0, none⟩)] [gw, gf]
        (fun i W' => ∃ want, ClI a0 a1 want (-1) ga gw gs gf W' ∧ closeR a0 a1 ((placesL a0).drop i) want = r)
        (fun i p W' => ∃ want, ClI a0 a1 want (p : Int) ga gw gs gf W' ∧ (p : Int) = r)
        (enters_of Tryd.func75 (by kernel_rfl) rfl) (fun k hk => by
          simp only [List.mem_cons, List.not_mem_nil, or_false] at hk
          rcases hk with rfl|rfl
          · exact I.bw.lt
          · exact I.bf.lt) (fun W1 W2 ⟨want, h1, h2⟩ hb => ⟨want, h1.below hb, h2⟩)
        (fun i p W1 hp hB ⟨want, h1, h2⟩ => by
          obtain ⟨hps, hbg, _⟩ := place_at hp
          have hdl := dep_le a0 p
          have hlt := (List.getElem?_eq_some_iff.1 hp).1
          have hdrop : (placesL a0).drop i = p :: (placesL a0).drop (i + 1) := by
            rw [List.drop_eq_getElem_cons hlt]
            congr 1
            exact (List.getElem?_eq_some_iff.1 hp).2
          rw [hdrop, closeR] at h2
          refine (levels_Close_1.calls a0 p hps HS.out (dep a0 p) (by have := HS.out;omega) a1 want ga gw gs gf W1 h1).mono ?_
          rintro e W2 ⟨b, he, hturn, hbt, hbf⟩
          refine ⟨b, he, hturn, fun hb => ⟨_, (hbt hb).2, ?_⟩, fun hb => ⟨want, (hbf hb).2, ?_⟩⟩
          · have hn := (hbt hb).1
            by_cases c : (p : Int) = a1
            · rw [if_pos c] at h2 ⊢
              exact h2
            · rw [if_neg c] at h2 ⊢
              rw [if_neg (fun hc => hn ⟨hc.1, hc.2.1, hc.2.2, c⟩)] at h2
              exact h2
          · have hy := (hbf hb).1
            rw [if_neg hy.2.2.2, if_pos ⟨hy.1, hy.2.1, hy.2.2.1⟩] at h2
            exact h2)
        ⟨-1, I, HR.out⟩
      refine this.mono fun e w' ⟨d, he, ht, hh⟩ => ⟨⟨_, he⟩, ?_, ⟨ht.below (fun k hk => by
        simp only [List.mem_cons, List.not_mem_nil, or_false] at hk
        rcases hk with rfl|rfl
        · exact hgw
        · exact hgf) hBW.le hBW.out⟩⟩
      rcases hh with ⟨_, want, h1, h2⟩ | ⟨i, p, _, _, want, h1, h2⟩
      · rw [List.drop_length, closeR] at h2
        rw [← h2]
        exact h1.bf
      · rw [← h2]
        exact h1.bf⟩
    clear hr hs HR h
    rcases hk with rfl|rfl
    all_goals
      go_enter Tryd.func39, Tryd.ntmps39
      go_wp2_with (first
        | ((with_reducible refine gate_dst (N := 2) rfl ?_);refine ev_alloc HB rfl (#[.string a0]) 9 ?hr ?_;(case hr => first|(go_simp;done)|(go_simp;rfl));intro g2 w2 G_g2 GE_g2 B_g2 HBn K_g2;clear HB;have HB := HBn;clear HBn)
        | (((with_reducible refine gate_dst (N := 3) rfl ?_);refine ev_alloc HB rfl (#[.int .i64 a1]) 3 ?hr ?_;(case hr => first|(go_simp;done)|(go_simp;rfl));intro g3 w3 G_g3 GE_g3 B_g3 HBn K_g3;clear HB;have HB := HBn;clear HBn);have c2 : w3.cell? ⟨g2, 0, none⟩ = some (.string a0) := (B_g2.below K_g3.out).cell (i := 0) rfl;have c3 : w3.cell? ⟨g3, 0, none⟩ = some (.int .i64 a1) := B_g3.cell (i := 0) rfl)
        | (go_at_call 22;refine (marks_Kind.calls k a0 a1 _ _ HK.out).mono ?_;rintro e w4 ⟨rfl, hb4⟩;have HBn := HB.step hb4;clear HB;have HB := HBn;clear HBn;have D2 := (B_g2.below K_g3.out).below hb4;have D3 := B_g3.below hb4;clear hb4 c2 c3)
        | ((with_reducible refine gate_dst (N := 6) rfl ?_);refine ev_alloc HB rfl (#[.int .i64 0]) 3 ?hr ?_;(case hr => first|(go_simp;done)|(go_simp;rfl));intro g6 w6 G_g6 GE_g6 B_g6 HBn K_g6;clear HB;have HB := HBn;clear HBn)
        | ((with_reducible refine gate_dst (N := 7) rfl ?_);refine ev_alloc HB rfl (#[.int .i64 0]) 3 ?hr ?_;(case hr => first|(go_simp;done)|(go_simp;rfl));intro g7 w7 G_g7 GE_g7 B_g7 HBn K_g7;clear HB;have HB := HBn;clear HBn)
        | ((with_reducible refine gate_ (Op.store 3 (.tmp 6) (.const (.int .i64 (-1)))) rfl ?_);refine ev_store1 (i := 0) HB (B_g6.below K_g7.out) GE_g6 rfl 3 _ _ rfl rfl (.int .i64 (-1)) rfl (by simp) (by kernel_rfl) rfl ?_;intro w8 B8 HBn K_w8;clear HB;have HB := HBn;clear HBn)
        | ((with_reducible refine gate_ (Op.store 3 (.tmp 7) (.const (.int .i64 (-1)))) rfl ?_);refine ev_store1 (i := 0) HB (B_g7.other K_w8 (by have h1 := B_g6.lt;have h2 := G_g7.out;omega)) GE_g7 rfl 3 _ _ rfl rfl (.int .i64 (-1)) rfl (by simp) (by kernel_rfl) rfl ?_;intro w9 B9 HBn K_w9;clear HB;have HB := HBn;clear HBn;
            have n67 : g6 ≠ g7 := (by have h1 := B_g6.lt;have h2 := G_g7.out;omega);have n26 : g2 ≠ g6 := (by have h1 := D2.lt;have h2 := G_g6.out;omega);have n36 : g3 ≠ g6 := (by have h1 := D3.lt;have h2 := G_g6.out;omega);
            have n27 : g2 ≠ g7 := (by have h1 := (D2.below K_g6.out).lt;have h2 := G_g7.out;omega);have n37 : g3 ≠ g7 := (by have h1 := (D3.below K_g6.out).lt;have h2 := G_g7.out;omega);
            have D29 := (((D2.below K_g6.out).below K_g7.out).other K_w8 n26).other K_w9 n27;have D39 := (((D3.below K_g6.out).below K_g7.out).other K_w8 n36).other K_w9 n37;have D69 := B8.other K_w9 n67;
            have I9 : Aside0 (ClI a0 a1 (-1) (-1) g3 g6 g2 g7 w9) := ⟨⟨D39, D69, D29, by simpa using B9, n67, n36, n37⟩⟩;have c2 : w9.cell? ⟨g2, 0, none⟩ = some (.string a0) := D29.cell (i := 0) rfl;clear n67 n26 n36 n27 n37)
        | (go_at_call 64;refine (WK.out g3 g6 g2 g7 w9 (HT.out.stepH HB) GE_g6.out GE_g7.out HB I9.out).mono ?_;rintro e w10 ⟨⟨d, rfl⟩, B10, HB10⟩;have c7 : w10.cell? ⟨g7, 0, none⟩ = some (.int .i64 r) := B10.cell (i := 0) rfl))
      go_ret
      exact ⟨rfl, HB10.out⟩
  · unfold levels_Close.g at h
    rw [if_neg hk] at h
    injection h with h
    subst h
    have t1 : (t != 123) = true := by rw [bne_iff_ne];exact fun c => hk (.inl c)
    have t2 : (t != 91) = true := by rw [bne_iff_ne];exact fun c => hk (.inr c)
    clear hk
    go_enter Tryd.func39, Tryd.ntmps39
    go_wp2_with (first
      | ((with_reducible refine gate_dst (N := 2) rfl ?_);refine ev_alloc HB rfl (#[.string a0]) 9 ?hr ?_;(case hr => first|(go_simp;done)|(go_simp;rfl));intro g2 w2 G_g2 GE_g2 B_g2 HBn K_g2;clear HB;have HB := HBn;clear HBn)
      | (((with_reducible refine gate_dst (N := 3) rfl ?_);refine ev_alloc HB rfl (#[.int .i64 a1]) 3 ?hr ?_;(case hr => first|(go_simp;done)|(go_simp;rfl));intro g3 w3 G_g3 GE_g3 B_g3 HBn K_g3;clear HB;have HB := HBn;clear HBn);have c2 : w3.cell? ⟨g2, 0, none⟩ = some (.string a0) := (B_g2.below K_g3.out).cell (i := 0) rfl;have c3 : w3.cell? ⟨g3, 0, none⟩ = some (.int .i64 a1) := B_g3.cell (i := 0) rfl)
      | (go_at_call 22;refine (marks_Kind.calls k a0 a1 _ _ HK.out).mono ?_;rintro e w4 ⟨rfl, hb4⟩;have HBn := HB.step hb4;clear HB;have HB := HBn;clear HBn;clear hb4 c2 c3))
    go_ret
    exact ⟨rfl, HB.out⟩
end


def quarrylaw10_awake.j0 : Nat → Bool → List (S34) → List (S34) → Option (Bool)
 | 0, _, _, _ => none
 | k + 1, x32, x141000, x141001 => if x32 = true then (some false) else ((levels_Colons.f x141000 x141001 1 0 99).bind fun t144 => ((quarryref00_SameInts.f k t144 (([4, 15] : List Int))).bind fun t150 => (if t150 = true then ((levels_Commas.f x141000 x141001 2 0 99).bind fun t151 => ((quarryref00_SameInts.f k t151 (([7] : List Int))).bind fun t157 => (some t157))) else (some false))))
def quarrylaw10_awake.f (k : Nat)  : Option (Bool) := (levels_Build.f (⟨#[123, 34, 97, 34, 58, 91, 49, 44, 50, 93, 44, 34, 98, 58, 34, 58, 51, 125]⟩ : ByteArray) 2).bind fun bt133 => (if bt133.2.2 = 0 then (if (bt133.1.length : Int) = 2 then (if (bt133.2.1.length : Int) = 2 then ((levels_Depth.f (⟨#[123, 34, 97, 34, 58, 91, 49, 44, 50, 93, 44, 34, 98, 58, 34, 58, 51, 125]⟩ : ByteArray) 6).bind fun t141 => (if t141 = 2 then ((levels_Close.f k (⟨#[123, 34, 97, 34, 58, 91, 49, 44, 50, 93, 44, 34, 98, 58, 34, 58, 51, 125]⟩ : ByteArray) 5).bind fun t142 => (if t142 = 9 then ((levels_Close.f k (⟨#[123, 34, 97, 34, 58, 91, 49, 44, 50, 93, 44, 34, 98, 58, 34, 58, 51, 125]⟩ : ByteArray) 0).bind fun t143 => (quarrylaw10_awake.j0 k (t143 != 17) bt133.1 bt133.2.1)) else (quarrylaw10_awake.j0 k true bt133.1 bt133.2.1))) else (quarrylaw10_awake.j0 k true bt133.1 bt133.2.1))) else (quarrylaw10_awake.j0 k true bt133.1 bt133.2.1)) else (quarrylaw10_awake.j0 k true bt133.1 bt133.2.1)) else (quarrylaw10_awake.j0 k true bt133.1 bt133.2.1))
set_option maxHeartbeats 8000000 in
set_option maxRecDepth 100000 in
theorem quarrylaw10_awake.calls (k : Nat)  (r : Bool) (w : World) (hT : TabOk w) (h : quarrylaw10_awake.f k  = some r) :
  Calls Tryd.prog 29 #[] w fun e w' => e = .returned (.bool r) ∧ Below w.heap.size w w' := by
 have TK_ := zA hT
 clear hT
 have hu48 := Tryd.underlying48
 have hu26 := Tryd.underlying26
 have HB := zA (Below.refl w.heap.size w)
 have H : ((levels_Build.f (⟨#[123, 34, 97, 34, 58, 91, 49, 44, 50, 93, 44, 34, 98, 58, 34, 58, 51, 125]⟩ : ByteArray) 2).bind fun bt133 => (if bt133.2.2 = 0 then (if (bt133.1.length : Int) = 2 then (if (bt133.2.1.length : Int) = 2 then ((levels_Depth.f (⟨#[123, 34, 97, 34, 58, 91, 49, 44, 50, 93, 44, 34, 98, 58, 34, 58, 51, 125]⟩ : ByteArray) 6).bind fun t141 => (if t141 = 2 then ((levels_Close.f k (⟨#[123, 34, 97, 34, 58, 91, 49, 44, 50, 93, 44, 34, 98, 58, 34, 58, 51, 125]⟩ : ByteArray) 5).bind fun t142 => (if t142 = 9 then ((levels_Close.f k (⟨#[123, 34, 97, 34, 58, 91, 49, 44, 50, 93, 44, 34, 98, 58, 34, 58, 51, 125]⟩ : ByteArray) 0).bind fun t143 => (quarrylaw10_awake.j0 k (t143 != 17) bt133.1 bt133.2.1)) else (quarrylaw10_awake.j0 k true bt133.1 bt133.2.1))) else (quarrylaw10_awake.j0 k true bt133.1 bt133.2.1))) else (quarrylaw10_awake.j0 k true bt133.1 bt133.2.1)) else (quarrylaw10_awake.j0 k true bt133.1 bt133.2.1)) else (quarrylaw10_awake.j0 k true bt133.1 bt133.2.1))) = some r := h
 clear h
 replace H := Option.bind_eq_some_iff.mp H
 obtain ⟨⟨t133, t136, t139⟩, A10, H⟩ := H
 replace H : (if t139 = 0 then (if (t133.length : Int) = 2 then (if (t136.length : Int) = 2 then ((levels_Depth.f (⟨#[123, 34, 97, 34, 58, 91, 49, 44, 50, 93, 44, 34, 98, 58, 34, 58, 51, 125]⟩ : ByteArray) 6).bind fun t141 => (if t141 = 2 then ((levels_Close.f k (⟨#[123, 34, 97, 34, 58, 91, 49, 44, 50, 93, 44, 34, 98, 58, 34, 58, 51, 125]⟩ : ByteArray) 5).bind fun t142 => (if t142 = 9 then ((levels_Close.f k (⟨#[123, 34, 97, 34, 58, 91, 49, 44, 50, 93, 44, 34, 98, 58, 34, 58, 51, 125]⟩ : ByteArray) 0).bind fun t143 => (quarrylaw10_awake.j0 k (t143 != 17) t133 t136)) else (quarrylaw10_awake.j0 k true t133 t136))) else (quarrylaw10_awake.j0 k true t133 t136))) else (quarrylaw10_awake.j0 k true t133 t136)) else (quarrylaw10_awake.j0 k true t133 t136)) else (quarrylaw10_awake.j0 k true t133 t136)) = some r := H
 have A1 := zA A10
 clear A10
 have HC2 := zA H
 clear H
 go_enter Tryd.func29, Tryd.ntmps29
 go_upto_region 2 with (first|((with_reducible refine gate_callee (f := 28) rfl ?_);refine goesL_ (some 4) rfl rfl Tryd.func28 (by kernel_rfl) rfl #[.string (⟨#[123, 34, 97, 34, 58, 91, 49, 44, 50, 93, 44, 34, 98, 58, 34, 58, 51, 125]⟩ : ByteArray), .int .i64 2] rfl (by (try simp only [List.map_toArray, List.map_cons, List.map_nil]);first|done|rfl|(simp only [List.length_drop, List.length_take];rfl)) ?_;(with_reducible refine (levels_Build.calls (⟨#[123, 34, 97, 34, 58, 91, 49, 44, 50, 93, 44, 34, 98, 58, 34, 58, 51, 125]⟩ : ByteArray) 2 t133 t136 t139 _ ?tabk A1.out).mono ?_);(case tabk => exact TK_.out.step (by repeat (first|(with_reducible first|exact HB.out|apply zG|apply zF|apply zH)|exact HB.out)));rintro e w3 ⟨v134, v137, rfl, ho0, ho1, hb⟩;refine ⟨_, rfl, ?_⟩;have n0_ := zA (Kd.S_lower ho0 (zO (by repeat (first|(with_reducible first|exact HB.out|apply zG|apply zF|apply zH)|exact HB.out))));have n1_ := zA (Kd.S_lower ho1 (zO (by repeat (first|(with_reducible first|exact HB.out|apply zG|apply zF|apply zH)|exact HB.out))));have n2_ := zA (zN (by repeat (first|(with_reducible first|exact HB.out|apply zG|apply zF|apply zH)|exact HB.out)) hb);clear HB;have HO135 := n0_;have HO138 := n1_;have HB := n2_;clear n0_ n1_ n2_;(try clear hb);(try clear hb2);(try clear hk);(try clear hi);(try clear ho0);(try clear ho1))|((with_reducible refine gate_dst (N := 1) rfl ?_);(try (refine gate_guard (by rfl) ?_;dsimp only));refine box_event ?hg (N := 1) ?hd (cs := #[.slice none 0 0, .slice none 0 0]) (t := 48) ?hr ?_;(case hd => rfl);(case hg => rfl);(case hr => first|(go_simp;done)|(go_simp;rfl));intro gb140 hg w4 hbox hb;have n0_ := zA (yy10 (by (with_reducible repeat (first|apply yy4|apply yy5|apply yy6));exact HO135.out) hb);have n1_ := zA (yy10 (by (with_reducible repeat (first|apply yy4|apply yy5|apply yy6));exact HO138.out) hb);have n2_ := zA (zN (by repeat (first|(with_reducible first|exact HB.out|apply zG|apply zF|apply zH)|exact HB.out)) hb);have n3_ := zA (hbox);have n4_ := zA ((by rw [hg];exact (zO (by repeat (first|(with_reducible first|exact HB.out|apply zG|apply zF|apply zH)|exact HB.out))) : w.heap.size ≤ gb140));have n5_ := zA ((by rw [hg];exact (zO (by repeat (first|(with_reducible first|exact HB.out|apply zG|apply zF|apply zH)|exact HB.out))) : w.heap.size ≤ gb140));clear HO135;clear HO138;clear HB;have HO135 := n0_;have HO138 := n1_;have HB := n2_;have BK140 := n3_;have GW140 := n4_;have GE140 := n5_;clear n0_ n1_ n2_ n3_ n4_ n5_;clear hb hbox hg;obtain ⟨Ao5, co5, eo5⟩ := Kd.S_slice HO135.out;subst eo5;have hcz6_0 : w4.cell? ⟨gb140, 0, none⟩ = some (.slice none 0 0) := (zP BK140.out 0).trans rfl;have hcz6_1 : w4.cell? ⟨gb140, 1, none⟩ = some (.slice none 0 0) := (zP BK140.out 1).trans rfl;have hfz6_0 := zR BK140.out 0;have hfz6_1 := zR BK140.out 1;obtain ⟨Ao7, co7, eo7⟩ := Kd.S_slice HO138.out;subst eo7))
 (try simp only [Act.put, zB, zC, zD])
 go_cut [32] (fun v32 wc => ∃ (kq : Nat) (x32_1 : Bool), v32 = .bool x32_1 ∧ Aside0 (quarrylaw10_awake.j0 kq x32_1 t133 t136 = some r) ∧ Aside0 (kq ≤ k) ∧ Aside0 (Kd.S k34 34 wc w.heap.size (fun k_ => some k_ ≠ ((.slice Ao7 t136.length co7) : Value).ownBlock) (.slice Ao5 t133.length co5) t133) ∧ Aside0 (Kd.S k34 34 wc w.heap.size (fun k_ => some k_ ≠ ((.slice Ao5 t133.length co5) : Value).ownBlock) (.slice Ao7 t136.length co7) t136) ∧ Aside0 (wc.heap[gb140]? = some (.cells #[(.slice Ao5 t133.length co5), (.slice Ao7 t136.length co7)] 48 (0, 0))) ∧ Aside0 (Below w.heap.size w wc))
 case first =>
  have H := HC2.out
  clear HC2
  by_cases c8 : t139 = 0
  ·rw [if_pos c8] at H
   have c8b0 : (t139 == 0) = true := beq_iff_eq.mpr c8
   have c8b1 : (t139 != 0) = false := bne_eq_false_iff_eq.mpr c8
   clear c8
   (first|rw [c8b0]|(simp only [i64_w, i32_w];rw [c8b0])|skip)
   by_cases c9 : (t133.length : Int) = 2
   ·rw [if_pos c9] at H
    have c9b0 : ((t133.length : Int) == 2) = true := beq_iff_eq.mpr c9
    have c9b1 : ((t133.length : Int) != 2) = false := bne_eq_false_iff_eq.mpr c9
    clear c9
    by_cases c10 : (t136.length : Int) = 2
    ·rw [if_pos c10] at H
     have c10b0 : ((t136.length : Int) == 2) = true := beq_iff_eq.mpr c10
     have c10b1 : ((t136.length : Int) != 2) = false := bne_eq_false_iff_eq.mpr c10
     clear c10
     replace H := Option.bind_eq_some_iff.mp H
     obtain ⟨t141, A110, H⟩ := H
     replace H : (if t141 = 2 then ((levels_Close.f k (⟨#[123, 34, 97, 34, 58, 91, 49, 44, 50, 93, 44, 34, 98, 58, 34, 58, 51, 125]⟩ : ByteArray) 5).bind fun t142 => (if t142 = 9 then ((levels_Close.f k (⟨#[123, 34, 97, 34, 58, 91, 49, 44, 50, 93, 44, 34, 98, 58, 34, 58, 51, 125]⟩ : ByteArray) 0).bind fun t143 => (quarrylaw10_awake.j0 k (t143 != 17) t133 t136)) else (quarrylaw10_awake.j0 k true t133 t136))) else (quarrylaw10_awake.j0 k true t133 t136)) = some r := H
     have A11 := zA A110
     clear A110
     by_cases c12 : t141 = 2
     ·rw [if_pos c12] at H
      have c12b0 : (t141 == 2) = true := beq_iff_eq.mpr c12
      have c12b1 : (t141 != 2) = false := bne_eq_false_iff_eq.mpr c12
      clear c12
      replace H := Option.bind_eq_some_iff.mp H
      obtain ⟨t142, A130, H⟩ := H
      replace H : (if t142 = 9 then ((levels_Close.f k (⟨#[123, 34, 97, 34, 58, 91, 49, 44, 50, 93, 44, 34, 98, 58, 34, 58, 51, 125]⟩ : ByteArray) 0).bind fun t143 => (quarrylaw10_awake.j0 k (t143 != 17) t133 t136)) else (quarrylaw10_awake.j0 k true t133 t136)) = some r := H
      have A13 := zA A130
      clear A130
      by_cases c14 : t142 = 9
      ·rw [if_pos c14] at H
       have c14b0 : (t142 == 9) = true := beq_iff_eq.mpr c14
       have c14b1 : (t142 != 9) = false := bne_eq_false_iff_eq.mpr c14
       clear c14
       replace H := Option.bind_eq_some_iff.mp H
       obtain ⟨t143, A150, H⟩ := H
       replace H : (quarrylaw10_awake.j0 k (t143 != 17) t133 t136) = some r := H
       have A15 := zA A150
       clear A150
       have H' := zA H
       clear H
       have hcz16_0 : w4.cell? ⟨gb140, 0, none⟩ = some (.slice none 0 0) := (zP BK140.out 0).trans rfl
       have hcz16_1 : w4.cell? ⟨gb140, 1, none⟩ = some (.slice none 0 0) := (zP BK140.out 1).trans rfl
       have hfz16_0 := zR BK140.out 0
       have hfz16_1 := zR BK140.out 1
       have tk0_ : True := trivial
       have tk1_ : True := trivial
       go_wp2_with (first|(go_at_call 37;(with_reducible refine (levels_Depth.calls (⟨#[123, 34, 97, 34, 58, 91, 49, 44, 50, 93, 44, 34, 98, 58, 34, 58, 51, 125]⟩ : ByteArray) 6 t141 _ ?tabk A11.out).mono ?_);(case tabk => exact TK_.out.step (by repeat (first|(with_reducible first|exact HB.out|apply zG|apply zF|apply zH|refine zI ?_ GE140.out)|exact HB.out)));rintro e w17 ⟨rfl, hb⟩;have n0_ := zA (yy10 (by (with_reducible repeat (first|apply yy4|apply yy5|apply yy6));exact (Kd.S_mono (Kd.S_far (p := ⟨gb140, 1, none⟩) (Kd.S_far (p := ⟨gb140, 0, none⟩) (Kd.S_types HO135.out BK140.out (by decide)) (fun _ hk => hk.2) (.slice Ao5 t133.length co5)) (fun _ hk => hk.2) (.slice Ao7 t136.length co7)) (fun _ h_ => h_.1))) hb);have n1_ := zA (yy10 (by (with_reducible repeat (first|apply yy4|apply yy5|apply yy6));exact (Kd.S_mono (Kd.S_far (p := ⟨gb140, 1, none⟩) (Kd.S_far (p := ⟨gb140, 0, none⟩) (Kd.S_types HO138.out BK140.out (by decide)) (fun _ hk => hk.2) (.slice Ao5 t133.length co5)) (fun _ hk => hk.2) (.slice Ao7 t136.length co7)) (fun _ h_ => h_.1))) hb);have n2_ := zA (zQ (g := gb140) (o := .cells #[.slice Ao5 t133.length co5, .slice Ao7 t136.length co7] 48 (0, 0)) (by (with_reducible repeat (first|refine zJ ?_ _|refine zK ?_|refine zL ?_ _));refine blk_put (cs := #[.slice Ao5 t133.length co5, .slice none 0 0]) ?_ 1 _ rfl;(with_reducible repeat (first|refine zJ ?_ _|refine zK ?_|refine zL ?_ _));refine blk_put (cs := #[.slice none 0 0, .slice none 0 0]) ?_ 0 _ rfl;(with_reducible repeat (first|refine zJ ?_ _|refine zK ?_|refine zL ?_ _));exact BK140.out) hb);have n3_ := zA (zN (by repeat (first|(with_reducible first|exact HB.out|apply zG|apply zF|apply zH|refine zI ?_ GE140.out)|exact HB.out)) hb);clear HO135;clear HO138;clear BK140;clear HB;have HO135 := n0_;have HO138 := n1_;have BK140 := n2_;have HB := n3_;clear n0_ n1_ n2_ n3_;(try clear hb);(try clear hb2);(try clear hk);(try clear hi))|(go_at_call 39;replace tk0_ := tk0_;(with_reducible refine (levels_Close.calls k (⟨#[123, 34, 97, 34, 58, 91, 49, 44, 50, 93, 44, 34, 98, 58, 34, 58, 51, 125]⟩ : ByteArray) 5 t142 _ ?tabk A13.out).mono ?_);(case tabk => exact TK_.out.step (by repeat (first|(with_reducible first|exact HB.out|apply zG|apply zF|apply zH|refine zI ?_ GE140.out)|exact HB.out)));rintro e w18 ⟨rfl, hb⟩;have n0_ := zA (yy10 (by (with_reducible repeat (first|apply yy4|apply yy5|apply yy6));exact HO135.out) hb);have n1_ := zA (yy10 (by (with_reducible repeat (first|apply yy4|apply yy5|apply yy6));exact HO138.out) hb);have n2_ := zA (zQ (g := gb140) (o := .cells #[.slice Ao5 t133.length co5, .slice Ao7 t136.length co7] 48 (0, 0)) (by (with_reducible repeat (first|refine zJ ?_ _|refine zK ?_|refine zL ?_ _));exact BK140.out) hb);have n3_ := zA (zN (by repeat (first|(with_reducible first|exact HB.out|apply zG|apply zF|apply zH|refine zI ?_ GE140.out)|exact HB.out)) hb);clear HO135;clear HO138;clear BK140;clear HB;have HO135 := n0_;have HO138 := n1_;have BK140 := n2_;have HB := n3_;clear n0_ n1_ n2_ n3_;(try clear hb);(try clear hb2);(try clear hk);(try clear hi);clear tk0_)|(go_at_call 39;replace tk1_ := tk1_;(with_reducible refine (levels_Close.calls k (⟨#[123, 34, 97, 34, 58, 91, 49, 44, 50, 93, 44, 34, 98, 58, 34, 58, 51, 125]⟩ : ByteArray) 0 t143 _ ?tabk A15.out).mono ?_);(case tabk => exact TK_.out.step (by repeat (first|(with_reducible first|exact HB.out|apply zG|apply zF|apply zH|refine zI ?_ GE140.out)|exact HB.out)));rintro e w19 ⟨rfl, hb⟩;have n0_ := zA (yy10 (by (with_reducible repeat (first|apply yy4|apply yy5|apply yy6));exact HO135.out) hb);have n1_ := zA (yy10 (by (with_reducible repeat (first|apply yy4|apply yy5|apply yy6));exact HO138.out) hb);have n2_ := zA (zQ (g := gb140) (o := .cells #[.slice Ao5 t133.length co5, .slice Ao7 t136.length co7] 48 (0, 0)) (by (with_reducible repeat (first|refine zJ ?_ _|refine zK ?_|refine zL ?_ _));exact BK140.out) hb);have n3_ := zA (zN (by repeat (first|(with_reducible first|exact HB.out|apply zG|apply zF|apply zH|refine zI ?_ GE140.out)|exact HB.out)) hb);clear HO135;clear HO138;clear BK140;clear HB;have HO135 := n0_;have HO138 := n1_;have BK140 := n2_;have HB := n3_;clear n0_ n1_ n2_ n3_;(try clear hb);(try clear hb2);(try clear hk);(try clear hi);clear tk1_))
       go_meet
       case rel => exact ⟨_, ((t143 != 17)), (by first|rfl|(simp;done)|(simp [*];done)), H', ⟨by first|omega|exact Nat.le_refl _⟩, ⟨by (with_reducible repeat (first|apply yy4|apply yy5|apply yy6));exact HO135.out⟩, ⟨by (with_reducible repeat (first|apply yy4|apply yy5|apply yy6));exact HO138.out⟩, ⟨by (with_reducible repeat (first|refine zJ ?_ _|refine zK ?_|refine zL ?_ _));exact BK140.out⟩, ⟨by repeat (first|(with_reducible first|exact HB.out|apply zG|apply zF|apply zH|refine zI ?_ GE140.out)|exact HB.out)⟩⟩
      ·rw [if_neg c14] at H
       have c14b0 : (t142 == 9) = false := beq_eq_false_iff_ne.mpr c14
       have c14b1 : (t142 != 9) = true := bne_iff_ne.mpr c14
       have H' := zA H
       clear H
       have hcz20_0 : w4.cell? ⟨gb140, 0, none⟩ = some (.slice none 0 0) := (zP BK140.out 0).trans rfl
       have hcz20_1 : w4.cell? ⟨gb140, 1, none⟩ = some (.slice none 0 0) := (zP BK140.out 1).trans rfl
       have hfz20_0 := zR BK140.out 0
       have hfz20_1 := zR BK140.out 1
       go_wp2_with (first|(go_at_call 37;(with_reducible refine (levels_Depth.calls (⟨#[123, 34, 97, 34, 58, 91, 49, 44, 50, 93, 44, 34, 98, 58, 34, 58, 51, 125]⟩ : ByteArray) 6 t141 _ ?tabk A11.out).mono ?_);(case tabk => exact TK_.out.step (by repeat (first|(with_reducible first|exact HB.out|apply zG|apply zF|apply zH|refine zI ?_ GE140.out)|exact HB.out)));rintro e w21 ⟨rfl, hb⟩;have n0_ := zA (yy10 (by (with_reducible repeat (first|apply yy4|apply yy5|apply yy6));exact (Kd.S_mono (Kd.S_far (p := ⟨gb140, 1, none⟩) (Kd.S_far (p := ⟨gb140, 0, none⟩) (Kd.S_types HO135.out BK140.out (by decide)) (fun _ hk => hk.2) (.slice Ao5 t133.length co5)) (fun _ hk => hk.2) (.slice Ao7 t136.length co7)) (fun _ h_ => h_.1))) hb);have n1_ := zA (yy10 (by (with_reducible repeat (first|apply yy4|apply yy5|apply yy6));exact (Kd.S_mono (Kd.S_far (p := ⟨gb140, 1, none⟩) (Kd.S_far (p := ⟨gb140, 0, none⟩) (Kd.S_types HO138.out BK140.out (by decide)) (fun _ hk => hk.2) (.slice Ao5 t133.length co5)) (fun _ hk => hk.2) (.slice Ao7 t136.length co7)) (fun _ h_ => h_.1))) hb);have n2_ := zA (zQ (g := gb140) (o := .cells #[.slice Ao5 t133.length co5, .slice Ao7 t136.length co7] 48 (0, 0)) (by (with_reducible repeat (first|refine zJ ?_ _|refine zK ?_|refine zL ?_ _));refine blk_put (cs := #[.slice Ao5 t133.length co5, .slice none 0 0]) ?_ 1 _ rfl;(with_reducible repeat (first|refine zJ ?_ _|refine zK ?_|refine zL ?_ _));refine blk_put (cs := #[.slice none 0 0, .slice none 0 0]) ?_ 0 _ rfl;(with_reducible repeat (first|refine zJ ?_ _|refine zK ?_|refine zL ?_ _));exact BK140.out) hb);have n3_ := zA (zN (by repeat (first|(with_reducible first|exact HB.out|apply zG|apply zF|apply zH|refine zI ?_ GE140.out)|exact HB.out)) hb);clear HO135;clear HO138;clear BK140;clear HB;have HO135 := n0_;have HO138 := n1_;have BK140 := n2_;have HB := n3_;clear n0_ n1_ n2_ n3_;(try clear hb);(try clear hb2);(try clear hk);(try clear hi))|(go_at_call 39;(with_reducible refine (levels_Close.calls k (⟨#[123, 34, 97, 34, 58, 91, 49, 44, 50, 93, 44, 34, 98, 58, 34, 58, 51, 125]⟩ : ByteArray) 5 t142 _ ?tabk A13.out).mono ?_);(case tabk => exact TK_.out.step (by repeat (first|(with_reducible first|exact HB.out|apply zG|apply zF|apply zH|refine zI ?_ GE140.out)|exact HB.out)));rintro e w22 ⟨rfl, hb⟩;have n0_ := zA (yy10 (by (with_reducible repeat (first|apply yy4|apply yy5|apply yy6));exact HO135.out) hb);have n1_ := zA (yy10 (by (with_reducible repeat (first|apply yy4|apply yy5|apply yy6));exact HO138.out) hb);have n2_ := zA (zQ (g := gb140) (o := .cells #[.slice Ao5 t133.length co5, .slice Ao7 t136.length co7] 48 (0, 0)) (by (with_reducible repeat (first|refine zJ ?_ _|refine zK ?_|refine zL ?_ _));exact BK140.out) hb);have n3_ := zA (zN (by repeat (first|(with_reducible first|exact HB.out|apply zG|apply zF|apply zH|refine zI ?_ GE140.out)|exact HB.out)) hb);clear HO135;clear HO138;clear BK140;clear HB;have HO135 := n0_;have HO138 := n1_;have BK140 := n2_;have HB := n3_;clear n0_ n1_ n2_ n3_;(try clear hb);(try clear hb2);(try clear hk);(try clear hi)))
       go_meet
       case rel => exact ⟨_, (true), (by first|rfl|(simp;done)|(simp [*];done)), H', ⟨by first|omega|exact Nat.le_refl _⟩, ⟨by (with_reducible repeat (first|apply yy4|apply yy5|apply yy6));exact HO135.out⟩, ⟨by (with_reducible repeat (first|apply yy4|apply yy5|apply yy6));exact HO138.out⟩, ⟨by (with_reducible repeat (first|refine zJ ?_ _|refine zK ?_|refine zL ?_ _));exact BK140.out⟩, ⟨by repeat (first|(with_reducible first|exact HB.out|apply zG|apply zF|apply zH|refine zI ?_ GE140.out)|exact HB.out)⟩⟩
     ·rw [if_neg c12] at H
      have c12b0 : (t141 == 2) = false := beq_eq_false_iff_ne.mpr c12
      have c12b1 : (t141 != 2) = true := bne_iff_ne.mpr c12
      have H' := zA H
      clear H
      have hcz23_0 : w4.cell? ⟨gb140, 0, none⟩ = some (.slice none 0 0) := (zP BK140.out 0).trans rfl
      have hcz23_1 : w4.cell? ⟨gb140, 1, none⟩ = some (.slice none 0 0) := (zP BK140.out 1).trans rfl
      have hfz23_0 := zR BK140.out 0
      have hfz23_1 := zR BK140.out 1
      go_wp2_with (first|(go_at_call 37;(with_reducible refine (levels_Depth.calls (⟨#[123, 34, 97, 34, 58, 91, 49, 44, 50, 93, 44, 34, 98, 58, 34, 58, 51, 125]⟩ : ByteArray) 6 t141 _ ?tabk A11.out).mono ?_);(case tabk => exact TK_.out.step (by repeat (first|(with_reducible first|exact HB.out|apply zG|apply zF|apply zH|refine zI ?_ GE140.out)|exact HB.out)));rintro e w24 ⟨rfl, hb⟩;have n0_ := zA (yy10 (by (with_reducible repeat (first|apply yy4|apply yy5|apply yy6));exact (Kd.S_mono (Kd.S_far (p := ⟨gb140, 1, none⟩) (Kd.S_far (p := ⟨gb140, 0, none⟩) (Kd.S_types HO135.out BK140.out (by decide)) (fun _ hk => hk.2) (.slice Ao5 t133.length co5)) (fun _ hk => hk.2) (.slice Ao7 t136.length co7)) (fun _ h_ => h_.1))) hb);have n1_ := zA (yy10 (by (with_reducible repeat (first|apply yy4|apply yy5|apply yy6));exact (Kd.S_mono (Kd.S_far (p := ⟨gb140, 1, none⟩) (Kd.S_far (p := ⟨gb140, 0, none⟩) (Kd.S_types HO138.out BK140.out (by decide)) (fun _ hk => hk.2) (.slice Ao5 t133.length co5)) (fun _ hk => hk.2) (.slice Ao7 t136.length co7)) (fun _ h_ => h_.1))) hb);have n2_ := zA (zQ (g := gb140) (o := .cells #[.slice Ao5 t133.length co5, .slice Ao7 t136.length co7] 48 (0, 0)) (by (with_reducible repeat (first|refine zJ ?_ _|refine zK ?_|refine zL ?_ _));refine blk_put (cs := #[.slice Ao5 t133.length co5, .slice none 0 0]) ?_ 1 _ rfl;(with_reducible repeat (first|refine zJ ?_ _|refine zK ?_|refine zL ?_ _));refine blk_put (cs := #[.slice none 0 0, .slice none 0 0]) ?_ 0 _ rfl;(with_reducible repeat (first|refine zJ ?_ _|refine zK ?_|refine zL ?_ _));exact BK140.out) hb);have n3_ := zA (zN (by repeat (first|(with_reducible first|exact HB.out|apply zG|apply zF|apply zH|refine zI ?_ GE140.out)|exact HB.out)) hb);clear HO135;clear HO138;clear BK140;clear HB;have HO135 := n0_;have HO138 := n1_;have BK140 := n2_;have HB := n3_;clear n0_ n1_ n2_ n3_;(try clear hb);(try clear hb2);(try clear hk);(try clear hi)))
      go_meet
      case rel => exact ⟨_, (true), (by first|rfl|(simp;done)|(simp [*];done)), H', ⟨by first|omega|exact Nat.le_refl _⟩, ⟨by (with_reducible repeat (first|apply yy4|apply yy5|apply yy6));exact HO135.out⟩, ⟨by (with_reducible repeat (first|apply yy4|apply yy5|apply yy6));exact HO138.out⟩, ⟨by (with_reducible repeat (first|refine zJ ?_ _|refine zK ?_|refine zL ?_ _));exact BK140.out⟩, ⟨by repeat (first|(with_reducible first|exact HB.out|apply zG|apply zF|apply zH|refine zI ?_ GE140.out)|exact HB.out)⟩⟩
    ·rw [if_neg c10] at H
     have c10b0 : ((t136.length : Int) == 2) = false := beq_eq_false_iff_ne.mpr c10
     have c10b1 : ((t136.length : Int) != 2) = true := bne_iff_ne.mpr c10
     have H' := zA H
     clear H
     have hcz25_0 : w4.cell? ⟨gb140, 0, none⟩ = some (.slice none 0 0) := (zP BK140.out 0).trans rfl
     have hcz25_1 : w4.cell? ⟨gb140, 1, none⟩ = some (.slice none 0 0) := (zP BK140.out 1).trans rfl
     have hfz25_0 := zR BK140.out 0
     have hfz25_1 := zR BK140.out 1
     go_wp2
     go_meet
     case rel => exact ⟨_, (true), (by first|rfl|(simp;done)|(simp [*];done)), H', ⟨by first|omega|exact Nat.le_refl _⟩, ⟨by (with_reducible repeat (first|apply yy4|apply yy5|apply yy6));exact Kd.S_mono (Kd.S_far (p := ⟨gb140, 1, none⟩) (Kd.S_far (p := ⟨gb140, 0, none⟩) (Kd.S_types HO135.out BK140.out (by decide)) (fun _ hk => hk.2) (.slice Ao5 t133.length co5)) (fun _ hk => hk.2) (.slice Ao7 t136.length co7)) (fun _ hk => hk.1)⟩, ⟨by (with_reducible repeat (first|apply yy4|apply yy5|apply yy6));exact Kd.S_mono (Kd.S_far (p := ⟨gb140, 1, none⟩) (Kd.S_far (p := ⟨gb140, 0, none⟩) (Kd.S_types HO138.out BK140.out (by decide)) (fun _ hk => hk.2) (.slice Ao5 t133.length co5)) (fun _ hk => hk.2) (.slice Ao7 t136.length co7)) (fun _ hk => hk.1)⟩, ⟨by (with_reducible repeat (first|refine zJ ?_ _|refine zK ?_|refine zL ?_ _));refine blk_put (cs := #[.slice Ao5 t133.length co5, .slice none 0 0]) ?_ 1 _ rfl;(with_reducible repeat (first|refine zJ ?_ _|refine zK ?_|refine zL ?_ _));refine blk_put (cs := #[.slice none 0 0, .slice none 0 0]) ?_ 0 _ rfl;(with_reducible repeat (first|refine zJ ?_ _|refine zK ?_|refine zL ?_ _));exact BK140.out⟩, ⟨by repeat (first|(with_reducible first|exact HB.out|apply zG|apply zF|apply zH|refine zI ?_ GE140.out)|exact HB.out)⟩⟩
   ·rw [if_neg c9] at H
    have c9b0 : ((t133.length : Int) == 2) = false := beq_eq_false_iff_ne.mpr c9
    have c9b1 : ((t133.length : Int) != 2) = true := bne_iff_ne.mpr c9
    have H' := zA H
    clear H
    have hcz26_0 : w4.cell? ⟨gb140, 0, none⟩ = some (.slice none 0 0) := (zP BK140.out 0).trans rfl
    have hcz26_1 : w4.cell? ⟨gb140, 1, none⟩ = some (.slice none 0 0) := (zP BK140.out 1).trans rfl
    have hfz26_0 := zR BK140.out 0
    have hfz26_1 := zR BK140.out 1
    go_wp2
    go_meet
    case rel => exact ⟨_, (true), (by first|rfl|(simp;done)|(simp [*];done)), H', ⟨by first|omega|exact Nat.le_refl _⟩, ⟨by (with_reducible repeat (first|apply yy4|apply yy5|apply yy6));exact Kd.S_mono (Kd.S_far (p := ⟨gb140, 1, none⟩) (Kd.S_far (p := ⟨gb140, 0, none⟩) (Kd.S_types HO135.out BK140.out (by decide)) (fun _ hk => hk.2) (.slice Ao5 t133.length co5)) (fun _ hk => hk.2) (.slice Ao7 t136.length co7)) (fun _ hk => hk.1)⟩, ⟨by (with_reducible repeat (first|apply yy4|apply yy5|apply yy6));exact Kd.S_mono (Kd.S_far (p := ⟨gb140, 1, none⟩) (Kd.S_far (p := ⟨gb140, 0, none⟩) (Kd.S_types HO138.out BK140.out (by decide)) (fun _ hk => hk.2) (.slice Ao5 t133.length co5)) (fun _ hk => hk.2) (.slice Ao7 t136.length co7)) (fun _ hk => hk.1)⟩, ⟨by (with_reducible repeat (first|refine zJ ?_ _|refine zK ?_|refine zL ?_ _));refine blk_put (cs := #[.slice Ao5 t133.length co5, .slice none 0 0]) ?_ 1 _ rfl;(with_reducible repeat (first|refine zJ ?_ _|refine zK ?_|refine zL ?_ _));refine blk_put (cs := #[.slice none 0 0, .slice none 0 0]) ?_ 0 _ rfl;(with_reducible repeat (first|refine zJ ?_ _|refine zK ?_|refine zL ?_ _));exact BK140.out⟩, ⟨by repeat (first|(with_reducible first|exact HB.out|apply zG|apply zF|apply zH|refine zI ?_ GE140.out)|exact HB.out)⟩⟩
  ·rw [if_neg c8] at H
   have c8b0 : (t139 == 0) = false := beq_eq_false_iff_ne.mpr c8
   have c8b1 : (t139 != 0) = true := bne_iff_ne.mpr c8
   (first|rw [c8b0]|(simp only [i64_w, i32_w];rw [c8b0])|skip)
   have H' := zA H
   clear H
   go_wp2
   go_meet
   case rel => exact ⟨_, (true), (by first|rfl|(simp;done)|(simp [*];done)), H', ⟨by first|omega|exact Nat.le_refl _⟩, ⟨by (with_reducible repeat (first|apply yy4|apply yy5|apply yy6));exact Kd.S_mono (Kd.S_far (p := ⟨gb140, 1, none⟩) (Kd.S_far (p := ⟨gb140, 0, none⟩) (Kd.S_types HO135.out BK140.out (by decide)) (fun _ hk => hk.2) (.slice Ao5 t133.length co5)) (fun _ hk => hk.2) (.slice Ao7 t136.length co7)) (fun _ hk => hk.1)⟩, ⟨by (with_reducible repeat (first|apply yy4|apply yy5|apply yy6));exact Kd.S_mono (Kd.S_far (p := ⟨gb140, 1, none⟩) (Kd.S_far (p := ⟨gb140, 0, none⟩) (Kd.S_types HO138.out BK140.out (by decide)) (fun _ hk => hk.2) (.slice Ao5 t133.length co5)) (fun _ hk => hk.2) (.slice Ao7 t136.length co7)) (fun _ hk => hk.1)⟩, ⟨by (with_reducible repeat (first|refine zJ ?_ _|refine zK ?_|refine zL ?_ _));refine blk_put (cs := #[.slice Ao5 t133.length co5, .slice none 0 0]) ?_ 1 _ rfl;(with_reducible repeat (first|refine zJ ?_ _|refine zK ?_|refine zL ?_ _));refine blk_put (cs := #[.slice none 0 0, .slice none 0 0]) ?_ 0 _ rfl;(with_reducible repeat (first|refine zJ ?_ _|refine zK ?_|refine zL ?_ _));exact BK140.out⟩, ⟨by repeat (first|(with_reducible first|exact HB.out|apply zG|apply zF|apply zH|refine zI ?_ GE140.out)|exact HB.out)⟩⟩
 case rest =>
  clear HC2
  try clear c1
  try clear c2
  try clear p2
  try clear c8
  try clear c8b0
  try clear c8b1
  try clear c9
  try clear c9b0
  try clear c9b1
  try clear c10
  try clear c10b0
  try clear c10b1
  try clear c12
  try clear c12b0
  try clear c12b1
  try clear c14
  try clear c14b0
  try clear c14b1
  try clear hcz16_0
  try clear hcz16_1
  try clear hcz20_0
  try clear hcz20_1
  try clear hcz23_0
  try clear hcz23_1
  try clear hcz25_0
  try clear hcz25_1
  try clear hcz26_0
  try clear hcz26_1
  try clear hcz6_0
  try clear hcz6_1
  try clear hfz16_0
  try clear hfz16_1
  try clear hfz20_0
  try clear hfz20_1
  try clear hfz23_0
  try clear hfz23_1
  try clear hfz25_0
  try clear hfz25_1
  try clear hfz26_0
  try clear hfz26_1
  try clear hfz6_0
  try clear hfz6_1
  obtain ⟨kq, x32_1, rfl, HA, HJ1, HO_141000, HO_141001, BK140, HB⟩ := hcut
  cases kq with
  | zero => exact absurd HA.out (by simp [quarrylaw10_awake.j0])
  | succ kj1 =>
   have H := HA.out
   clear HA
   simp only [quarrylaw10_awake.j0] at H
   by_cases c27 : x32_1 = true
   ·subst c27
    have H1 : (some false) = some r := by rw [if_pos rfl] at H;exact H
    clear H
    have H := H1
    clear H1
    obtain rfl := Option.some.inj H
    go_wp2
    go_ret
    exact ⟨by first|rfl|(simp [errW_none, errW_some] <;> rfl)|(simp [*, errW_none, errW_some] <;> rfl), by repeat (first|(with_reducible first|exact HB.out|apply zG|apply zF|apply zH|refine zI ?_ GE140.out)|exact HB.out)⟩
   ·replace c27 := Bool.eq_false_iff.mpr c27
    subst c27
    have H1 : ((levels_Colons.f t133 t136 1 0 99).bind fun t144 => ((quarryref00_SameInts.f kj1 t144 (([4, 15] : List Int))).bind fun t150 => (if t150 = true then ((levels_Commas.f t133 t136 2 0 99).bind fun t151 => ((quarryref00_SameInts.f kj1 t151 (([7] : List Int))).bind fun t157 => (some t157))) else (some false)))) = some r := by rw [if_neg (show ¬ (false = true) by decide)] at H;exact H
    clear H
    have H := H1
    clear H1
    replace H := Option.bind_eq_some_iff.mp H
    obtain ⟨t144, A280, H⟩ := H
    replace H : ((quarryref00_SameInts.f kj1 t144 (([4, 15] : List Int))).bind fun t150 => (if t150 = true then ((levels_Commas.f t133 t136 2 0 99).bind fun t151 => ((quarryref00_SameInts.f kj1 t151 (([7] : List Int))).bind fun t157 => (some t157))) else (some false))) = some r := H
    have A28 := zA A280
    clear A280
    obtain ⟨y147, hy147⟩ : ∃ y_ : List Int, y_ = (([4, 15] : List Int)) := ⟨_, rfl⟩
    replace H : ((quarryref00_SameInts.f kj1 t144 y147).bind fun t150 => (if t150 = true then ((levels_Commas.f t133 t136 2 0 99).bind fun t151 => ((quarryref00_SameInts.f kj1 t151 (([7] : List Int))).bind fun t157 => (some t157))) else (some false))) = some r := by first|(rw [hy147];with_reducible exact H)|(have H2_ := (zz3 _ _).symm.trans H;rw [hy147];with_reducible exact H2_)|(have H2_ := (zz3 _ _).symm.trans H;with_reducible exact H2_)|with_reducible exact H|(rw [hy147];exact H)|exact H
    have Ny147 := zA hy147
    clear hy147
    replace H := Option.bind_eq_some_iff.mp H
    obtain ⟨t150, A290, H⟩ := H
    replace H : (if t150 = true then ((levels_Commas.f t133 t136 2 0 99).bind fun t151 => ((quarryref00_SameInts.f kj1 t151 (([7] : List Int))).bind fun t157 => (some t157))) else (some false)) = some r := H
    have A29 := zA A290
    clear A290
    by_cases c30 : t150 = true
    ·subst c30
     have H1 : ((levels_Commas.f t133 t136 2 0 99).bind fun t151 => ((quarryref00_SameInts.f kj1 t151 (([7] : List Int))).bind fun t157 => (some t157))) = some r := by rw [if_pos rfl] at H;exact H
     clear H
     have H := H1
     clear H1
     replace H := Option.bind_eq_some_iff.mp H
     obtain ⟨t151, A310, H⟩ := H
     replace H : ((quarryref00_SameInts.f kj1 t151 (([7] : List Int))).bind fun t157 => (some t157)) = some r := H
     have A31 := zA A310
     clear A310
     obtain ⟨y154, hy154⟩ : ∃ y_ : List Int, y_ = (([7] : List Int)) := ⟨_, rfl⟩
     replace H : ((quarryref00_SameInts.f kj1 t151 y154).bind fun t157 => (some t157)) = some r := by first|(rw [hy154];with_reducible exact H)|(have H2_ := (zz3 _ _).symm.trans H;rw [hy154];with_reducible exact H2_)|(have H2_ := (zz3 _ _).symm.trans H;with_reducible exact H2_)|with_reducible exact H|(rw [hy154];exact H)|exact H
     have Ny154 := zA hy154
     clear hy154
     replace H := Option.bind_eq_some_iff.mp H
     obtain ⟨t157, A320, H⟩ := H
     replace H : (some t157) = some r := H
     have A32 := zA A320
     clear A320
     obtain rfl := Option.some.inj H
     have hcz33_0 : wc.cell? ⟨gb140, 0, none⟩ = some (.slice Ao5 t133.length co5) := (zP BK140.out 0).trans rfl
     have hcz33_1 : wc.cell? ⟨gb140, 1, none⟩ = some (.slice Ao7 t136.length co7) := (zP BK140.out 1).trans rfl
     have hfz33_0 := zR BK140.out 0
     have hfz33_1 := zR BK140.out 1
     go_wp2_with (first|((with_reducible refine gate_callee (f := 33) rfl ?_);refine goesL_ (some 35) rfl rfl Tryd.func33 (by kernel_rfl) rfl #[.agg #[.slice Ao5 t133.length co5, .slice Ao7 t136.length co7], .int .i64 1, .agg #[.int .i64 0, .int .i64 99]] rfl (by (try simp only [List.map_toArray, List.map_cons, List.map_nil]);first|done|rfl|(simp only [List.length_drop, List.length_take];rfl)) ?_;(with_reducible refine (levels_Colons.calls _ _ t133 _ _ t136 1 0 99 t144 _ ?tabk ?side1 ?side2 ?side3 ?side4 A28.out).mono ?_);(case tabk => exact TK_.out.step (by repeat (first|(with_reducible first|exact HB.out|apply zG|apply zF|apply zH|refine zI ?_ GE140.out)|exact HB.out)));(case side1 => repeat (first|exact (Kd.S_reads' HO_141000.out).2.2|(with_reducible refine Kd.C_alloc ?_ _)|(with_reducible refine Kd.C_drewN ?_ _)|(with_reducible refine Kd.C_drew ?_)));(case side2 => exact (Kd.S_reads' HO_141000.out).2.1);(case side3 => repeat (first|exact (Kd.S_reads' HO_141001.out).2.2|(with_reducible refine Kd.C_alloc ?_ _)|(with_reducible refine Kd.C_drewN ?_ _)|(with_reducible refine Kd.C_drew ?_)));(case side4 => exact (Kd.S_reads' HO_141001.out).2.1);rintro e w34 ⟨v145, rfl, ho0, hb⟩;refine ⟨_, rfl, ?_⟩;have n0_ := zA (yy10 (by (with_reducible repeat (first|apply yy4|apply yy5|apply yy6));exact HO_141000.out) hb);have n1_ := zA (yy10 (by (with_reducible repeat (first|apply yy4|apply yy5|apply yy6));exact HO_141001.out) hb);have n2_ := zA (Kd.R_lower ho0 (zO (by repeat (first|(with_reducible first|exact HB.out|apply zG|apply zF|apply zH|refine zI ?_ GE140.out)|exact HB.out))));have n3_ := zA (zQ (g := gb140) (o := .cells #[.slice Ao5 t133.length co5, .slice Ao7 t136.length co7] 48 (0, 0)) (by (with_reducible repeat (first|refine zJ ?_ _|refine zK ?_|refine zL ?_ _));exact BK140.out) hb);have n4_ := zA (zN (by repeat (first|(with_reducible first|exact HB.out|apply zG|apply zF|apply zH|refine zI ?_ GE140.out)|exact HB.out)) hb);clear HO_141000;clear HO_141001;clear BK140;clear HB;have HO_141000 := n0_;have HO_141001 := n1_;have HO146 := n2_;have BK140 := n3_;have HB := n4_;clear n0_ n1_ n2_ n3_ n4_;(try clear hb);(try clear hb2);(try clear hk);(try clear hi);(try clear ho0))|((with_reducible refine gate_dst (N := 36) rfl ?_);(try (refine gate_guard (by rfl) ?_;dsimp only));refine Kd.R_lit (Kd.int .i64) _ 3 ?hg (N := 36) ?hd (xs := ([4, 15] : List Int)) (inner := [.int .i64 4, .int .i64 15]) (ok := fun _ => True) (okp := fun _ => True) ?hr ?hp (fun _ hk => hk) trivial (Below.refl _ _) (Nat.le_refl _) (by simp) ?_;(case hd => rfl);(case hg => rfl);(case hr => first|(go_simp;done)|(go_simp;rfl));(case hp => exact (Reps.one (show Kd.M (Kd.int .i64) _ _ _ 4 [.int .i64 4] from rfl) (Reps.one (show Kd.M (Kd.int .i64) _ _ _ 15 [.int .i64 15] from rfl) (Reps.none _ _))));intro v148 w35 ho36 hb hg_ hnew_;clear hg_ hnew_;(first|rw [← Ny147.out] at ho36|(simp only [Int.reduceToNat] at ho36;rw [← Ny147.out] at ho36));have n0_ := zA (yy10 (by (with_reducible repeat (first|apply yy4|apply yy5|apply yy6));exact HO_141000.out) hb);have n1_ := zA (yy10 (by (with_reducible repeat (first|apply yy4|apply yy5|apply yy6));exact HO_141001.out) hb);have n2_ := zA (Kd.R_elder' (by (with_reducible repeat (first|apply yy1|apply yy2|apply yy3));exact HO146.out) (Kd.R_base ho36) hb);have n3_ := zA (Kd.R_lower (Kd.R_new' ho36 (Kd.R_lt (by (with_reducible repeat (first|apply yy1|apply yy2|apply yy3));exact HO146.out))) (zO (by repeat (first|(with_reducible first|exact HB.out|apply zG|apply zF|apply zH|refine zI ?_ GE140.out)|exact HB.out))));have n4_ := zA (zQ (g := gb140) (o := .cells #[.slice Ao5 t133.length co5, .slice Ao7 t136.length co7] 48 (0, 0)) (by (with_reducible repeat (first|refine zJ ?_ _|refine zK ?_|refine zL ?_ _));exact BK140.out) hb);have n5_ := zA (zN (by repeat (first|(with_reducible first|exact HB.out|apply zG|apply zF|apply zH|refine zI ?_ GE140.out)|exact HB.out)) hb);clear HO_141000;clear HO_141001;clear HO146;clear BK140;clear HB;have HO_141000 := n0_;have HO_141001 := n1_;have HO146 := n2_;have HO149 := n3_;have BK140 := n4_;have HB := n5_;clear n0_ n1_ n2_ n3_ n4_ n5_;clear hb ho36;obtain ⟨Ao37, co37, eo37⟩ := Kd.R_slice HO146.out;subst eo37;obtain ⟨Ao38, co38, eo38⟩ := Kd.R_slice HO149.out;subst eo38)|((with_reducible refine gate_callee (f := 25) rfl ?_);refine goesL_ (some 37) rfl rfl Tryd.func25 (by kernel_rfl) rfl #[.slice Ao37 t144.length co37, .slice Ao38 y147.length co38] rfl (by (try simp only [List.map_toArray, List.map_cons, List.map_nil]);first|done|rfl|(simp only [List.length_drop, List.length_take];rfl)) ?_;(with_reducible refine (quarryref00_SameInts.calls kj1 _ _ t144 _ _ y147 true _ ?side1 ?side2 ?side3 ?side4 A29.out).mono ?_);(case side1 => repeat (first|exact (Kd.R_reads' HO146.out).2.2|(with_reducible refine Kd.C_alloc ?_ _)|(with_reducible refine Kd.C_drewN ?_ _)|(with_reducible refine Kd.C_drew ?_)));(case side2 => exact (Kd.R_reads' HO146.out).2.1);(case side3 => repeat (first|exact (Kd.R_reads' HO149.out).2.2|(with_reducible refine Kd.C_alloc ?_ _)|(with_reducible refine Kd.C_drewN ?_ _)|(with_reducible refine Kd.C_drew ?_)));(case side4 => exact (Kd.R_reads' HO149.out).2.1);rintro e w' ⟨rfl, ⟨nd, rfl⟩⟩;refine ⟨_, rfl, ?_⟩;have hcz39_0 : w35.cell? ⟨gb140, 0, none⟩ = some (.slice Ao5 t133.length co5) := (zP BK140.out 0).trans rfl;have hcz39_1 : w35.cell? ⟨gb140, 1, none⟩ = some (.slice Ao7 t136.length co7) := (zP BK140.out 1).trans rfl;have hfz39_0 := zR BK140.out 0;have hfz39_1 := zR BK140.out 1)|(go_at_call 34;(with_reducible refine (levels_Commas.calls _ _ t133 _ _ t136 2 0 99 t151 _ ?tabk ?side1 ?side2 ?side3 ?side4 A31.out).mono ?_);(case tabk => exact TK_.out.step (by repeat (first|(with_reducible first|exact HB.out|apply zG|apply zF|apply zH|refine zI ?_ GE140.out)|exact HB.out)));(case side1 => repeat (first|exact (Kd.S_reads' HO_141000.out).2.2|(with_reducible refine Kd.C_alloc ?_ _)|(with_reducible refine Kd.C_drewN ?_ _)|(with_reducible refine Kd.C_drew ?_)));(case side2 => exact (Kd.S_reads' HO_141000.out).2.1);(case side3 => repeat (first|exact (Kd.S_reads' HO_141001.out).2.2|(with_reducible refine Kd.C_alloc ?_ _)|(with_reducible refine Kd.C_drewN ?_ _)|(with_reducible refine Kd.C_drew ?_)));(case side4 => exact (Kd.S_reads' HO_141001.out).2.1);rintro e w40 ⟨v152, rfl, ho0, hb⟩;have n0_ := zA (yy10 (by (with_reducible repeat (first|apply yy4|apply yy5|apply yy6));exact HO_141000.out) hb);have n1_ := zA (yy10 (by (with_reducible repeat (first|apply yy4|apply yy5|apply yy6));exact HO_141001.out) hb);have n2_ := zA (Kd.R_elder' (by (with_reducible repeat (first|apply yy1|apply yy2|apply yy3));exact HO146.out) (Kd.R_base ho0) hb);have n3_ := zA (Kd.R_elder' (by (with_reducible repeat (first|apply yy1|apply yy2|apply yy3));exact HO149.out) (Kd.R_base ho0) hb);have n4_ := zA (Kd.R_lower (Kd.R_new' (Kd.R_new' ho0 (Kd.R_lt (by (with_reducible repeat (first|apply yy1|apply yy2|apply yy3));exact HO146.out))) (Kd.R_lt (by (with_reducible repeat (first|apply yy1|apply yy2|apply yy3));exact HO149.out))) (zO (by repeat (first|(with_reducible first|exact HB.out|apply zG|apply zF|apply zH|refine zI ?_ GE140.out)|exact HB.out))));have n5_ := zA (zQ (g := gb140) (o := .cells #[.slice Ao5 t133.length co5, .slice Ao7 t136.length co7] 48 (0, 0)) (by (with_reducible repeat (first|refine zJ ?_ _|refine zK ?_|refine zL ?_ _));exact BK140.out) hb);have n6_ := zA (zN (by repeat (first|(with_reducible first|exact HB.out|apply zG|apply zF|apply zH|refine zI ?_ GE140.out)|exact HB.out)) hb);clear HO_141000;clear HO_141001;clear HO146;clear HO149;clear BK140;clear HB;have HO_141000 := n0_;have HO_141001 := n1_;have HO146 := n2_;have HO149 := n3_;have HO153 := n4_;have BK140 := n5_;have HB := n6_;clear n0_ n1_ n2_ n3_ n4_ n5_ n6_;(try clear hb);(try clear hb2);(try clear hk);(try clear hi);(try clear ho0))|((with_reducible refine gate_dst (N := 42) rfl ?_);(try (refine gate_guard (by rfl) ?_;dsimp only));refine Kd.R_lit (Kd.int .i64) _ 3 ?hg (N := 42) ?hd (xs := ([7] : List Int)) (inner := [.int .i64 7]) (ok := fun _ => True) (okp := fun _ => True) ?hr ?hp (fun _ hk => hk) trivial (Below.refl _ _) (Nat.le_refl _) (by simp) ?_;(case hd => rfl);(case hg => rfl);(case hr => first|(go_simp;done)|(go_simp;rfl));(case hp => exact (Reps.one (show Kd.M (Kd.int .i64) _ _ _ 7 [.int .i64 7] from rfl) (Reps.none _ _)));intro v155 w41 ho42 hb hg_ hnew_;clear hg_ hnew_;(first|rw [← Ny154.out] at ho42|(simp only [Int.reduceToNat] at ho42;rw [← Ny154.out] at ho42));have n0_ := zA (yy10 (by (with_reducible repeat (first|apply yy4|apply yy5|apply yy6));exact HO_141000.out) hb);have n1_ := zA (yy10 (by (with_reducible repeat (first|apply yy4|apply yy5|apply yy6));exact HO_141001.out) hb);have n2_ := zA (Kd.R_elder' (by (with_reducible repeat (first|apply yy1|apply yy2|apply yy3));exact HO146.out) (Kd.R_base ho42) hb);have n3_ := zA (Kd.R_elder' (by (with_reducible repeat (first|apply yy1|apply yy2|apply yy3));exact HO149.out) (Kd.R_base ho42) hb);have n4_ := zA (Kd.R_elder' (by (with_reducible repeat (first|apply yy1|apply yy2|apply yy3));exact HO153.out) (Kd.R_base ho42) hb);have n5_ := zA (Kd.R_lower (Kd.R_new' (Kd.R_new' (Kd.R_new' ho42 (Kd.R_lt (by (with_reducible repeat (first|apply yy1|apply yy2|apply yy3));exact HO146.out))) (Kd.R_lt (by (with_reducible repeat (first|apply yy1|apply yy2|apply yy3));exact HO149.out))) (Kd.R_lt (by (with_reducible repeat (first|apply yy1|apply yy2|apply yy3));exact HO153.out))) (zO (by repeat (first|(with_reducible first|exact HB.out|apply zG|apply zF|apply zH|refine zI ?_ GE140.out)|exact HB.out))));have n6_ := zA (zQ (g := gb140) (o := .cells #[.slice Ao5 t133.length co5, .slice Ao7 t136.length co7] 48 (0, 0)) (by (with_reducible repeat (first|refine zJ ?_ _|refine zK ?_|refine zL ?_ _));exact BK140.out) hb);have n7_ := zA (zN (by repeat (first|(with_reducible first|exact HB.out|apply zG|apply zF|apply zH|refine zI ?_ GE140.out)|exact HB.out)) hb);clear HO_141000;clear HO_141001;clear HO146;clear HO149;clear HO153;clear BK140;clear HB;have HO_141000 := n0_;have HO_141001 := n1_;have HO146 := n2_;have HO149 := n3_;have HO153 := n4_;have HO156 := n5_;have BK140 := n6_;have HB := n7_;clear n0_ n1_ n2_ n3_ n4_ n5_ n6_ n7_;clear hb ho42;obtain ⟨Ao43, co43, eo43⟩ := Kd.R_slice HO153.out;subst eo43;obtain ⟨Ao44, co44, eo44⟩ := Kd.R_slice HO156.out;subst eo44)|(go_at_call 25;(with_reducible refine (quarryref00_SameInts.calls kj1 _ _ t151 _ _ y154 t157 _ ?side1 ?side2 ?side3 ?side4 A32.out).mono ?_);(case side1 => repeat (first|exact (Kd.R_reads' HO153.out).2.2|(with_reducible refine Kd.C_alloc ?_ _)|(with_reducible refine Kd.C_drewN ?_ _)|(with_reducible refine Kd.C_drew ?_)));(case side2 => exact (Kd.R_reads' HO153.out).2.1);(case side3 => repeat (first|exact (Kd.R_reads' HO156.out).2.2|(with_reducible refine Kd.C_alloc ?_ _)|(with_reducible refine Kd.C_drewN ?_ _)|(with_reducible refine Kd.C_drew ?_)));(case side4 => exact (Kd.R_reads' HO156.out).2.1);rintro e w' ⟨rfl, ⟨nd, rfl⟩⟩))
     go_ret
     exact ⟨by first|rfl|(simp [errW_none, errW_some] <;> rfl)|(simp [*, errW_none, errW_some] <;> rfl), by repeat (first|(with_reducible first|exact HB.out|apply zG|apply zF|apply zH|refine zI ?_ GE140.out)|exact HB.out)⟩
    ·replace c30 := Bool.eq_false_iff.mpr c30
     subst c30
     have H1 : (some false) = some r := by rw [if_neg (show ¬ (false = true) by decide)] at H;exact H
     clear H
     have H := H1
     clear H1
     obtain rfl := Option.some.inj H
     have hcz45_0 : wc.cell? ⟨gb140, 0, none⟩ = some (.slice Ao5 t133.length co5) := (zP BK140.out 0).trans rfl
     have hcz45_1 : wc.cell? ⟨gb140, 1, none⟩ = some (.slice Ao7 t136.length co7) := (zP BK140.out 1).trans rfl
     have hfz45_0 := zR BK140.out 0
     have hfz45_1 := zR BK140.out 1
     go_wp2_with (first|((with_reducible refine gate_callee (f := 33) rfl ?_);refine goesL_ (some 35) rfl rfl Tryd.func33 (by kernel_rfl) rfl #[.agg #[.slice Ao5 t133.length co5, .slice Ao7 t136.length co7], .int .i64 1, .agg #[.int .i64 0, .int .i64 99]] rfl (by (try simp only [List.map_toArray, List.map_cons, List.map_nil]);first|done|rfl|(simp only [List.length_drop, List.length_take];rfl)) ?_;(with_reducible refine (levels_Colons.calls _ _ t133 _ _ t136 1 0 99 t144 _ ?tabk ?side1 ?side2 ?side3 ?side4 A28.out).mono ?_);(case tabk => exact TK_.out.step (by repeat (first|(with_reducible first|exact HB.out|apply zG|apply zF|apply zH|refine zI ?_ GE140.out)|exact HB.out)));(case side1 => repeat (first|exact (Kd.S_reads' HO_141000.out).2.2|(with_reducible refine Kd.C_alloc ?_ _)|(with_reducible refine Kd.C_drewN ?_ _)|(with_reducible refine Kd.C_drew ?_)));(case side2 => exact (Kd.S_reads' HO_141000.out).2.1);(case side3 => repeat (first|exact (Kd.S_reads' HO_141001.out).2.2|(with_reducible refine Kd.C_alloc ?_ _)|(with_reducible refine Kd.C_drewN ?_ _)|(with_reducible refine Kd.C_drew ?_)));(case side4 => exact (Kd.S_reads' HO_141001.out).2.1);rintro e w46 ⟨v145, rfl, ho0, hb⟩;refine ⟨_, rfl, ?_⟩;have n0_ := zA (yy10 (by (with_reducible repeat (first|apply yy4|apply yy5|apply yy6));exact HO_141000.out) hb);have n1_ := zA (yy10 (by (with_reducible repeat (first|apply yy4|apply yy5|apply yy6));exact HO_141001.out) hb);have n2_ := zA (Kd.R_lower ho0 (zO (by repeat (first|(with_reducible first|exact HB.out|apply zG|apply zF|apply zH|refine zI ?_ GE140.out)|exact HB.out))));have n3_ := zA (zQ (g := gb140) (o := .cells #[.slice Ao5 t133.length co5, .slice Ao7 t136.length co7] 48 (0, 0)) (by (with_reducible repeat (first|refine zJ ?_ _|refine zK ?_|refine zL ?_ _));exact BK140.out) hb);have n4_ := zA (zN (by repeat (first|(with_reducible first|exact HB.out|apply zG|apply zF|apply zH|refine zI ?_ GE140.out)|exact HB.out)) hb);clear HO_141000;clear HO_141001;clear BK140;clear HB;have HO_141000 := n0_;have HO_141001 := n1_;have HO146 := n2_;have BK140 := n3_;have HB := n4_;clear n0_ n1_ n2_ n3_ n4_;(try clear hb);(try clear hb2);(try clear hk);(try clear hi);(try clear ho0))|((with_reducible refine gate_dst (N := 36) rfl ?_);(try (refine gate_guard (by rfl) ?_;dsimp only));refine Kd.R_lit (Kd.int .i64) _ 3 ?hg (N := 36) ?hd (xs := ([4, 15] : List Int)) (inner := [.int .i64 4, .int .i64 15]) (ok := fun _ => True) (okp := fun _ => True) ?hr ?hp (fun _ hk => hk) trivial (Below.refl _ _) (Nat.le_refl _) (by simp) ?_;(case hd => rfl);(case hg => rfl);(case hr => first|(go_simp;done)|(go_simp;rfl));(case hp => exact (Reps.one (show Kd.M (Kd.int .i64) _ _ _ 4 [.int .i64 4] from rfl) (Reps.one (show Kd.M (Kd.int .i64) _ _ _ 15 [.int .i64 15] from rfl) (Reps.none _ _))));intro v148 w47 ho48 hb hg_ hnew_;clear hg_ hnew_;(first|rw [← Ny147.out] at ho48|(simp only [Int.reduceToNat] at ho48;rw [← Ny147.out] at ho48));have n0_ := zA (yy10 (by (with_reducible repeat (first|apply yy4|apply yy5|apply yy6));exact HO_141000.out) hb);have n1_ := zA (yy10 (by (with_reducible repeat (first|apply yy4|apply yy5|apply yy6));exact HO_141001.out) hb);have n2_ := zA (Kd.R_elder' (by (with_reducible repeat (first|apply yy1|apply yy2|apply yy3));exact HO146.out) (Kd.R_base ho48) hb);have n3_ := zA (Kd.R_lower (Kd.R_new' ho48 (Kd.R_lt (by (with_reducible repeat (first|apply yy1|apply yy2|apply yy3));exact HO146.out))) (zO (by repeat (first|(with_reducible first|exact HB.out|apply zG|apply zF|apply zH|refine zI ?_ GE140.out)|exact HB.out))));have n4_ := zA (zQ (g := gb140) (o := .cells #[.slice Ao5 t133.length co5, .slice Ao7 t136.length co7] 48 (0, 0)) (by (with_reducible repeat (first|refine zJ ?_ _|refine zK ?_|refine zL ?_ _));exact BK140.out) hb);have n5_ := zA (zN (by repeat (first|(with_reducible first|exact HB.out|apply zG|apply zF|apply zH|refine zI ?_ GE140.out)|exact HB.out)) hb);clear HO_141000;clear HO_141001;clear HO146;clear BK140;clear HB;have HO_141000 := n0_;have HO_141001 := n1_;have HO146 := n2_;have HO149 := n3_;have BK140 := n4_;have HB := n5_;clear n0_ n1_ n2_ n3_ n4_ n5_;clear hb ho48;obtain ⟨Ao49, co49, eo49⟩ := Kd.R_slice HO146.out;subst eo49;obtain ⟨Ao50, co50, eo50⟩ := Kd.R_slice HO149.out;subst eo50)|((with_reducible refine gate_callee (f := 25) rfl ?_);refine goesL_ (some 37) rfl rfl Tryd.func25 (by kernel_rfl) rfl #[.slice Ao49 t144.length co49, .slice Ao50 y147.length co50] rfl (by (try simp only [List.map_toArray, List.map_cons, List.map_nil]);first|done|rfl|(simp only [List.length_drop, List.length_take];rfl)) ?_;(with_reducible refine (quarryref00_SameInts.calls kj1 _ _ t144 _ _ y147 false _ ?side1 ?side2 ?side3 ?side4 A29.out).mono ?_);(case side1 => repeat (first|exact (Kd.R_reads' HO146.out).2.2|(with_reducible refine Kd.C_alloc ?_ _)|(with_reducible refine Kd.C_drewN ?_ _)|(with_reducible refine Kd.C_drew ?_)));(case side2 => exact (Kd.R_reads' HO146.out).2.1);(case side3 => repeat (first|exact (Kd.R_reads' HO149.out).2.2|(with_reducible refine Kd.C_alloc ?_ _)|(with_reducible refine Kd.C_drewN ?_ _)|(with_reducible refine Kd.C_drew ?_)));(case side4 => exact (Kd.R_reads' HO149.out).2.1);rintro e w' ⟨rfl, ⟨nd, rfl⟩⟩;refine ⟨_, rfl, ?_⟩))
     go_ret
     exact ⟨by first|rfl|(simp [errW_none, errW_some] <;> rfl)|(simp [*, errW_none, errW_some] <;> rfl), by repeat (first|(with_reducible first|exact HB.out|apply zG|apply zF|apply zH|refine zI ?_ GE140.out)|exact HB.out)⟩

end Go.Proofs.YtgddljealeklkaaDoor.PL
end
