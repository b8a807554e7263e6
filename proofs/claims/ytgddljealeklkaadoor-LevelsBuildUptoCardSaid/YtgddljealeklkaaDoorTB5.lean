/- Parts of a claim (TB), packed by a program (pack.py) out of the texts that it names. -/
import Derived.Test.YtgddljealeklkaaDoorTB4
-- PLx9
section
namespace Go.Proofs.YtgddljealeklkaaDoor.PL
open Go.RowKit Go.Proofs.YtgddljealeklkaaDoorW.PrintWords Go.Proofs.YtgddljealeklkaaDoorW.PrintLast Go.Proofs.YtgddljealeklkaaDoorW.PrintMore
attribute [local go_sem] max2_int min2_int max_two min_two max_three min_three max_four min_four   -- for this text's walks alone
set_option linter.unusedVariables false
set_option linter.unusedSimpArgs false

mutual
def quarryref10_Build.j0 : Nat → ByteArray → Int → Bool → Option ((List (S34)) × (List (S34)) × Int)
 | 0, _, _, _ => none
 | k + 1, x0, x1, x18 => if x18 = true then (some (([] : List (S34)), ([] : List (S34)), 2)) else ((quarryref10_Outside.f k x0).bind fun t257 => ((quarryref10_Depths.f k x0).bind fun t260 => (quarryref10_Build.l0 k x0 x1 t257 t260 1 ([] : List (S34)) ([] : List (S34)))))
def quarryref10_Build.l0 : Nat → ByteArray → Int → List Bool → List Int → Int → List (S34) → List (S34) → Option ((List (S34)) × (List (S34)) × Int)
 | 0, _, _, _, _, _, _, _ => none
 | k + 1, x0, x1, x6, x7, x9, x264000, x264001 => if x9 ≤ x1 then (if 0 ≤ (x0.size : Int) then (if ((x0.size : Int) : Int).toNat ≤ 281474976710656 then (quarryref10_Build.l1 k x0 x1 x6 x7 x9 (List.replicate ((x0.size : Int) : Int).toNat false) (List.replicate ((x0.size : Int) : Int).toNat false) 0 x264000 x264001) else (none)) else (none)) else (some (x264000, x264001, 0))
def quarryref10_Build.l1 : Nat → ByteArray → Int → List Bool → List Int → Int → List Bool → List Bool → Int → List (S34) → List (S34) → Option ((List (S34)) × (List (S34)) × Int)
 | 0, _, _, _, _, _, _, _, _, _, _ => none
 | k + 1, x0, x1, x6, x7, x9, x10, x11, x12, x264000, x264001 => if x12 < (x0.size : Int) then (if 0 ≤ x12 then (if x12 < (x6.length : Int) then (if rdOf false x6 x12 = true then (if (bt x0 x12) = 58 then (if x12 < (x7.length : Int) then (if x12 < (x10.length : Int) then ((some (x10.set (x12 : Int).toNat ((rd x7 x12) == x9) : List Bool)).bind fun y272 => (if (bt x0 x12) = 44 then (if x12 < (x11.length : Int) then (quarryref10_Build.l1 k x0 x1 x6 x7 x9 y272 (x11.set (x12 : Int).toNat ((rd x7 x12) == x9)) (wrap64 (x12 + 1)) x264000 x264001) else (none)) else (if x12 < (x11.length : Int) then (quarryref10_Build.l1 k x0 x1 x6 x7 x9 y272 (x11.set (x12 : Int).toNat false) (wrap64 (x12 + 1)) x264000 x264001) else (none)))) else (none)) else (none)) else (if x12 < (x10.length : Int) then ((some (x10.set (x12 : Int).toNat false : List Bool)).bind fun y277 => (if (bt x0 x12) = 44 then (if x12 < (x7.length : Int) then (if x12 < (x11.length : Int) then (quarryref10_Build.l1 k x0 x1 x6 x7 x9 y277 (x11.set (x12 : Int).toNat ((rd x7 x12) == x9)) (wrap64 (x12 + 1)) x264000 x264001) else (none)) else (none)) else (if x12 < (x11.length : Int) then (quarryref10_Build.l1 k x0 x1 x6 x7 x9 y277 (x11.set (x12 : Int).toNat false) (wrap64 (x12 + 1)) x264000 x264001) else (none)))) else (none))) else (if x12 < (x10.length : Int) then (if x12 < (x11.length : Int) then (quarryref10_Build.l1 k x0 x1 x6 x7 x9 (x10.set (x12 : Int).toNat false) (x11.set (x12 : Int).toNat false) (wrap64 (x12 + 1)) x264000 x264001) else (none)) else (none))) else (none)) else (none)) else ((quarryref04_Of.f k x10).bind fun bt285 => (if x264000.length < 4398046511104 then ((quarryref04_Of.f k x11).bind fun bt292 => (if x264001.length < 4398046511104 then (quarryref10_Build.l0 k x0 x1 x6 x7 (wrap64 (x9 + 1)) (x264000 ++ [(⟨bt285.1, bt285.2⟩ : S34)]) (x264001 ++ [(⟨bt292.1, bt292.2⟩ : S34)])) else (none))) else (none)))
end
def quarryref10_Build.f (k : Nat) (a0 : ByteArray) (a1 : Int) : Option ((List (S34)) × (List (S34)) × Int) := if a1 < 1 then (quarryref10_Build.j0 k a0 a1 true) else (quarryref10_Build.j0 k a0 a1 (decide (a1 > 64)))
def quarryref10_Build.T8 : Bool × List (List Nat × List Nat) := (true, [([], []), ([0], [0]), ([1, 1], [1]), ([], []), ([3], [3]), ([4, 4], [4]), ([2, 0, 1, 2], [2]), ([5, 6, 0, 1, 2, 3, 4, 5, 6], [5])])
def quarryref10_Build.B8 : List Nat := [0, 1, 3, 0, 8, 24, 7, 127]
theorem quarryref10_Build.tab8 : rtab .any (opsOf Tryd.f30 8) = quarryref10_Build.T8 := by kernel_rfl
theorem quarryref10_Build.bits8 : waitsOk quarryref10_Build.T8.2 quarryref10_Build.B8 = true := by kernel_rfl
def quarryref10_Build.T14 : Bool × List (List Nat × List Nat) := (true, [([], []), ([0], [0]), ([], []), ([2], [2]), ([3], [3]), ([1, 4, 3], [1, 4]), ([0, 1, 2, 3, 4, 5], []), ([6, 5, 5, 0, 1, 2, 3, 4, 5], [5, 6])])
def quarryref10_Build.B14 : List Nat := [0, 1, 0, 4, 12, 31, 63, 127]
theorem quarryref10_Build.tab14 : rtab .any (opsOf Tryd.f30 14) = quarryref10_Build.T14 := by kernel_rfl
theorem quarryref10_Build.bits14 : waitsOk quarryref10_Build.T14.2 quarryref10_Build.B14 = true := by kernel_rfl
def quarryref10_Build.T15 : Bool × List (List Nat × List Nat) := (true, [([], []), ([0], [0]), ([], []), ([2], [2]), ([3], [3]), ([1, 4, 3], [1, 4]), ([0, 1, 2, 3, 4, 5], []), ([6, 5, 5, 0, 1, 2, 3, 4, 5], [5, 6])])
def quarryref10_Build.B15 : List Nat := [0, 1, 0, 4, 12, 31, 63, 127]
theorem quarryref10_Build.tab15 : rtab .any (opsOf Tryd.f30 15) = quarryref10_Build.T15 := by kernel_rfl
theorem quarryref10_Build.bits15 : waitsOk quarryref10_Build.T15.2 quarryref10_Build.B15 = true := by kernel_rfl
set_option maxHeartbeats 8000000 in
set_option maxRecDepth 100000 in
theorem quarryref10_Build.calls (k : Nat) (a0 : ByteArray) (a1 : Int) (r1 : List (S34)) (r2 : List (S34)) (r3 : Int) (w : World) (h : quarryref10_Build.f k a0 a1 = some (r1, r2, r3)) :
  Calls Tryd.prog 30 #[.string a0, .int .i64 a1] w fun e w' => ∃ v0_ v1_ : Value, e = .returned (.tuple #[.agg #[v0_, v1_], .int .i64 r3]) ∧ Kd.S k34 34 w' w.heap.size (fun k_ => some k_ ≠ (v1_ : Value).ownBlock) v0_ r1 ∧ Kd.S k34 34 w' w.heap.size (fun k_ => some k_ ≠ (v0_ : Value).ownBlock) v1_ r2 ∧ Below w.heap.size w w' := by
 have hu48 := Tryd.underlying48
 have HB := zA (Below.refl w.heap.size w)
 have H : (if a1 < 1 then (quarryref10_Build.j0 k a0 a1 true) else (quarryref10_Build.j0 k a0 a1 (decide (a1 > 64)))) = some (r1, r2, r3) := h
 clear h
 have HC3 := zA H
 clear H
 go_enter Tryd.func30, Tryd.ntmps30
 go_upto_region 1 with (first|((with_reducible refine gate_dst (N := 4) rfl ?_);refine box_event ?hg (N := 4) ?hd (cs := #[.slice none 0 0, .slice none 0 0]) (t := 48) ?hr ?_;(case hd => rfl);(case hg => rfl);(case hr => first|(go_simp;done)|(go_simp;rfl));intro gb256 hg w4 hbox hb;have n0_ := zA (zN (by repeat (first|(with_reducible first|exact HB.out|apply zG|apply zF|apply zH)|exact HB.out)) hb);have n1_ := zA (hbox);have n2_ := zA ((by rw [hg];exact (zO (by repeat (first|(with_reducible first|exact HB.out|apply zG|apply zF|apply zH)|exact HB.out))) : w.heap.size ≤ gb256));have n3_ := zA ((by rw [hg];exact (zO (by repeat (first|(with_reducible first|exact HB.out|apply zG|apply zF|apply zH)|exact HB.out))) : w.heap.size ≤ gb256));clear HB;have HB := n0_;have BK256 := n1_;have GW256 := n2_;have GE256 := n3_;clear n0_ n1_ n2_ n3_;clear hb hbox hg))
 (try simp only [Act.put, zB, zC, zD])
 go_cut [18] (fun v18 wc => ∃ (kq : Nat) (x18_2 : Bool), v18 = .bool x18_2 ∧ Aside0 (quarryref10_Build.j0 kq a0 a1 x18_2 = some (r1, r2, r3)) ∧ Aside0 (kq ≤ k) ∧ Aside0 (wc.heap[gb256]? = some (.cells #[(.slice none 0 0), (.slice none 0 0)] 48 (0, 0))) ∧ Aside0 (Below w.heap.size w wc))
 case first =>
  have H := HC3.out
  clear HC3
  by_cases c5 : a1 < 1
  ·rw [if_pos c5] at H
   have c5b0 : decide (a1 < 1) = true := zz1 c5
   clear c5
   (first|rw [c5b0]|(simp only [i64_w, i32_w];rw [c5b0])|skip)
   have H' := zA H
   clear H
   go_wp2
   go_meet
   case rel => exact ⟨_, (true), (by first|rfl|(simp;done)|(simp [*];done)), H', ⟨by first|omega|exact Nat.le_refl _⟩, ⟨by (with_reducible repeat (first|refine zJ ?_ _|refine zK ?_|refine zL ?_ _));exact BK256.out⟩, ⟨by repeat (first|(with_reducible first|exact HB.out|apply zG|apply zF|apply zH|refine zI ?_ GE256.out)|exact HB.out)⟩⟩
  ·rw [if_neg c5] at H
   have c5b0 : decide (a1 < 1) = false := decide_eq_false c5
   clear c5
   (first|rw [c5b0]|(simp only [i64_w, i32_w];rw [c5b0])|skip)
   have H' := zA H
   clear H
   go_wp2
   go_meet
   case rel => exact ⟨_, (decide (a1 > 64)), (by first|rfl|(simp;done)|(simp [*];done)), H', ⟨by first|omega|exact Nat.le_refl _⟩, ⟨by (with_reducible repeat (first|refine zJ ?_ _|refine zK ?_|refine zL ?_ _));exact BK256.out⟩, ⟨by repeat (first|(with_reducible first|exact HB.out|apply zG|apply zF|apply zH|refine zI ?_ GE256.out)|exact HB.out)⟩⟩
 case rest =>
  clear HC3
  try clear p2
  try clear c3
  try clear c5
  try clear c5b0
  obtain ⟨kq, x18_2, rfl, HA, HJ2, BK256, HB⟩ := hcut
  cases kq with
  | zero => exact absurd HA.out (by simp [quarryref10_Build.j0])
  | succ kj2 =>
   have H := HA.out
   clear HA
   simp only [quarryref10_Build.j0] at H
   by_cases c6 : x18_2 = true
   ·subst c6
    have H1 : (some (([] : List (S34)), ([] : List (S34)), 2)) = some (r1, r2, r3) := by rw [if_pos rfl] at H;exact H
    clear H
    have H := H1
    clear H1
    simp only [Option.some.injEq, Prod.mk.injEq] at H
    obtain ⟨rfl, rfl, rfl⟩ := H
    have hcz7_0 : wc.cell? ⟨gb256, 0, none⟩ = some (.slice none 0 0) := (zP BK256.out 0).trans rfl
    have hcz7_1 : wc.cell? ⟨gb256, 1, none⟩ = some (.slice none 0 0) := (zP BK256.out 1).trans rfl
    have hfz7_0 := zR BK256.out 0
    have hfz7_1 := zR BK256.out 1
    go_wp2
    refine bodyPost_ret (results_ct rfl _ _ gb256 48 #[.slice none 0 0, .slice none 0 0] (0, 0) _ rfl (by (with_reducible repeat (first|refine zJ ?_ _|refine zK ?_|refine zL ?_ _));refine blk_put (cs := #[.slice none 0 0, .slice none 0 0]) ?_ 1 _ rfl;(with_reducible repeat (first|refine zJ ?_ _|refine zK ?_|refine zL ?_ _));refine blk_put (cs := #[.slice none 0 0, .slice none 0 0]) ?_ 0 _ rfl;(with_reducible repeat (first|refine zJ ?_ _|refine zK ?_|refine zL ?_ _));exact BK256.out) Tryd.underlying48 rfl (by kernel_rfl)) rfl ?_
    exact ⟨_, _, by first|rfl|(simp [errW_none, errW_some] <;> rfl)|(simp [*, errW_none, errW_some] <;> rfl), by first|exact Kd.S_nil _ _ _ _ _|exact Kd.N_nil _ _ _ _ _|exact Kd.V_nil _ _ _ _ _|exact Kd.Q_nil _ _ _ _ _|exact Kd.R_nil _ _ _ _ _, by first|exact Kd.S_nil _ _ _ _ _|exact Kd.N_nil _ _ _ _ _|exact Kd.V_nil _ _ _ _ _|exact Kd.Q_nil _ _ _ _ _|exact Kd.R_nil _ _ _ _ _, by repeat (first|(with_reducible first|exact HB.out|apply zG|apply zF|apply zH|refine zI ?_ GE256.out)|exact HB.out)⟩
   ·replace c6 := Bool.eq_false_iff.mpr c6
    subst c6
    have H1 : ((quarryref10_Outside.f kj2 a0).bind fun t257 => ((quarryref10_Depths.f kj2 a0).bind fun t260 => (quarryref10_Build.l0 kj2 a0 a1 t257 t260 1 ([] : List (S34)) ([] : List (S34))))) = some (r1, r2, r3) := by rw [if_neg (show ¬ (false = true) by decide)] at H;exact H
    clear H
    have H := H1
    clear H1
    replace H := Option.bind_eq_some_iff.mp H
    obtain ⟨t257, A80, H⟩ := H
    replace H : ((quarryref10_Depths.f kj2 a0).bind fun t260 => (quarryref10_Build.l0 kj2 a0 a1 t257 t260 1 ([] : List (S34)) ([] : List (S34)))) = some (r1, r2, r3) := H
    have A8 := zA A80
    clear A80
    replace H := Option.bind_eq_some_iff.mp H
    obtain ⟨t260, A90, H⟩ := H
    replace H : (quarryref10_Build.l0 kj2 a0 a1 t257 t260 1 ([] : List (S34)) ([] : List (S34))) = some (r1, r2, r3) := H
    have A9 := zA A90
    clear A90
    have H' := zA H
    clear H
    go_wp2_with (first|((with_reducible refine gate_callee (f := 66) rfl ?_);refine goesL_ (some 21) rfl rfl Tryd.func66 (by kernel_rfl) rfl #[.string a0] rfl (by (try simp only [List.map_toArray, List.map_cons, List.map_nil]);first|done|rfl|(simp only [List.length_drop, List.length_take];rfl)) ?_;(with_reducible refine (quarryref10_Outside.calls kj2 a0 t257 _ A8.out).mono ?_);rintro e w10 ⟨v258, rfl, ho0, hb⟩;refine ⟨_, rfl, ?_⟩;have n0_ := zA (Kd.R_lower ho0 (zO (by repeat (first|(with_reducible first|exact HB.out|apply zG|apply zF|apply zH|refine zI ?_ GE256.out)|exact HB.out))));have n1_ := zA (zQ (g := gb256) (o := .cells #[.slice none 0 0, .slice none 0 0] 48 (0, 0)) (by (with_reducible repeat (first|refine zJ ?_ _|refine zK ?_|refine zL ?_ _));exact BK256.out) hb);have n2_ := zA (zN (by repeat (first|(with_reducible first|exact HB.out|apply zG|apply zF|apply zH|refine zI ?_ GE256.out)|exact HB.out)) hb);clear BK256;clear HB;have HO259 := n0_;have BK256 := n1_;have HB := n2_;clear n0_ n1_ n2_;(try clear hb);(try clear hb2);(try clear hk);(try clear hi);(try clear ho0))|((with_reducible refine gate_callee (f := 67) rfl ?_);refine goesL_ (some 23) rfl rfl Tryd.func67 (by kernel_rfl) rfl #[.string a0] rfl (by (try simp only [List.map_toArray, List.map_cons, List.map_nil]);first|done|rfl|(simp only [List.length_drop, List.length_take];rfl)) ?_;(with_reducible refine (quarryref10_Depths.calls kj2 a0 t260 _ A9.out).mono ?_);rintro e w11 ⟨v261, rfl, ho0, hb⟩;refine ⟨_, rfl, ?_⟩;have n0_ := zA (yy9 (by (with_reducible repeat (first|apply yy1|apply yy2|apply yy3));exact HO259.out) hb);have n1_ := zA (Kd.R_lower ho0 (zO (by repeat (first|(with_reducible first|exact HB.out|apply zG|apply zF|apply zH|refine zI ?_ GE256.out)|exact HB.out))));have n2_ := zA (zQ (g := gb256) (o := .cells #[.slice none 0 0, .slice none 0 0] 48 (0, 0)) (by (with_reducible repeat (first|refine zJ ?_ _|refine zK ?_|refine zL ?_ _));exact BK256.out) hb);have n3_ := zA (zN (by repeat (first|(with_reducible first|exact HB.out|apply zG|apply zF|apply zH|refine zI ?_ GE256.out)|exact HB.out)) hb);clear HO259;clear BK256;clear HB;have HO259 := n0_;have HO262 := n1_;have BK256 := n2_;have HB := n3_;clear n0_ n1_ n2_ n3_;(try clear hb);(try clear hb2);(try clear hk);(try clear hi);(try clear ho0))|((with_reducible refine gate_dst (N := 8) rfl ?_);refine box_event ?hg (N := 8) ?hd (cs := #[.slice none 0 0, .slice none 0 0]) (t := 48) ?hr ?_;(case hd => rfl);(case hg => rfl);(case hr => first|(go_simp;done)|(go_simp;rfl));intro gb263 hg w12 hbox hb;have n0_ := zA (yy9 (by (with_reducible repeat (first|apply yy1|apply yy2|apply yy3));exact HO259.out) hb);have n1_ := zA (yy9 (by (with_reducible repeat (first|apply yy1|apply yy2|apply yy3));exact HO262.out) hb);have n2_ := zA (zQ (g := gb256) (o := .cells #[.slice none 0 0, .slice none 0 0] 48 (0, 0)) (by (with_reducible repeat (first|refine zJ ?_ _|refine zK ?_|refine zL ?_ _));exact BK256.out) hb);have n3_ := zA (zN (by repeat (first|(with_reducible first|exact HB.out|apply zG|apply zF|apply zH|refine zI ?_ GE256.out)|exact HB.out)) hb);have n4_ := zA (hbox);have n5_ := zA ((by rw [hg];exact (zO (by repeat (first|(with_reducible first|exact HB.out|apply zG|apply zF|apply zH|refine zI ?_ GE256.out)|exact HB.out))) : w.heap.size ≤ gb263));have n6_ := zA ((by rw [hg];exact (zO (by repeat (first|(with_reducible first|exact HB.out|apply zG|apply zF|apply zH|refine zI ?_ GE256.out)|exact HB.out))) : w.heap.size ≤ gb263));have n7_ := zA ((by rw [hg];exact Nat.ne_of_lt (blk_lt (g := gb256) (o := .cells #[.slice none 0 0, .slice none 0 0] 48 (0, 0)) (by (with_reducible repeat (first|refine zJ ?_ _|refine zK ?_|refine zL ?_ _));exact BK256.out)) : gb256 ≠ gb263));have n8_ := zA ((by rw [hg];exact Nat.ne_of_gt (blk_lt (g := gb256) (o := .cells #[.slice none 0 0, .slice none 0 0] 48 (0, 0)) (by (with_reducible repeat (first|refine zJ ?_ _|refine zK ?_|refine zL ?_ _));exact BK256.out)) : gb263 ≠ gb256));clear HO259;clear HO262;clear BK256;clear HB;have HO259 := n0_;have HO262 := n1_;have BK256 := n2_;have HB := n3_;have BK263 := n4_;have GW263 := n5_;have GE263 := n6_;have NB256_263 := n7_;have NB263_256 := n8_;clear n0_ n1_ n2_ n3_ n4_ n5_ n6_ n7_ n8_;clear hb hbox hg))
    go_loopg [9] kj2 (fun kq v9 w' => ∃ (x6_2 : List Bool) (x9_2 : Int) (x264000_2 : List (S34)) (x264001_2 : List (S34)) (u264000 : Value) (u264001 : Value), v9 = .int .i64 x9_2 ∧ Aside0 (quarryref10_Build.l0 kq a0 a1 x6_2 t260 x9_2 x264000_2 x264001_2 = some (r1, r2, r3)) ∧ Aside0 (kq ≤ kj2) ∧ Aside0 (Kd.R Kd.bool 4 w' w.heap.size (fun _ => True) v258 x6_2) ∧ Aside0 (Kd.R (Kd.int .i64) 3 w' w.heap.size (fun _ => True) v261 t260) ∧ Aside0 (Kd.S k34 34 w' w.heap.size (fun k_ => some k_ ≠ (u264001 : Value).ownBlock) u264000 x264000_2) ∧ Aside0 (Kd.S k34 34 w' w.heap.size (fun k_ => some k_ ≠ (u264000 : Value).ownBlock) u264001 x264001_2) ∧ Aside0 (w'.heap[gb256]? = some (.cells #[(.slice none 0 0), (.slice none 0 0)] 48 (0, 0))) ∧ Aside0 (w'.heap[gb263]? = some (.cells #[u264000, u264001] 48 (0, 0))) ∧ Aside0 (Below w.heap.size w w'))
    case atStart => exact ⟨(t257), (1), (([] : List (S34))), (([] : List (S34))), (.slice none 0 0), (.slice none 0 0), (by first|rfl|(simp;done)|(simp [*];done)), H', ⟨Nat.le_refl _⟩, ⟨by (with_reducible repeat (first|apply yy1|apply yy2|apply yy3));exact HO259.out⟩, ⟨by (with_reducible repeat (first|apply yy1|apply yy2|apply yy3));exact HO262.out⟩, ⟨by first|exact Kd.S_nil _ _ _ _ _|exact Kd.N_nil _ _ _ _ _|exact Kd.V_nil _ _ _ _ _|exact Kd.Q_nil _ _ _ _ _|exact Kd.R_nil _ _ _ _ _⟩, ⟨by first|exact Kd.S_nil _ _ _ _ _|exact Kd.N_nil _ _ _ _ _|exact Kd.V_nil _ _ _ _ _|exact Kd.Q_nil _ _ _ _ _|exact Kd.R_nil _ _ _ _ _⟩, ⟨by (with_reducible repeat (first|refine zJ ?_ _|refine zK ?_|refine zL ?_ _));exact BK256.out⟩, ⟨by (with_reducible repeat (first|refine zJ ?_ _|refine zK ?_|refine zL ?_ _));exact BK263.out⟩, ⟨by repeat (first|(with_reducible first|exact HB.out|apply zG|apply zF|apply zH|refine zI ?_ GE256.out|refine zI ?_ GE263.out)|exact HB.out)⟩⟩
    case round =>
     clear H'
     try clear p2
     try clear c3
     try clear c5
     try clear c5b0
     try clear c6
     try clear hcz7_0
     try clear hcz7_1
     try clear hfz7_0
     try clear hfz7_1
     try clear p2
     obtain ⟨x6_2, x9_2, x264000_2, x264001_2, u264000, u264001, rfl, HA, HK2, HO_6, HO_7, HO_264000, HO_264001, BK256, BK263, HB⟩ := hrel
     cases gk with
     | zero => exact absurd HA.out (by simp [quarryref10_Build.l0])
     | succ k2 =>
      have H := HA.out
      clear HA
      simp only [quarryref10_Build.l0] at H
      by_cases c13 : x9_2 ≤ a1
      ·rw [if_pos c13] at H
       have c13b0 : decide (x9_2 ≤ a1) = true := zz1 c13
       clear c13
       by_cases c14 : 0 ≤ (a0.size : Int)
       ·rw [if_pos c14] at H
        have c14b0 := eq_true c14
        have c14b1 : decide (0 ≤ (a0.size : Int)) = true := zz1 c14
        clear c14
        by_cases c15 : ((a0.size : Int) : Int).toNat ≤ 281474976710656
        ·rw [if_pos c15] at H
         have c15b0 := eq_true c15
         have c15b1 : decide (((a0.size : Int) : Int).toNat ≤ 281474976710656) = true := zz1 c15
         clear c15
         obtain ⟨y264, hy264⟩ : ∃ y_ : List Bool, y_ = (List.replicate ((a0.size : Int) : Int).toNat false) := ⟨_, rfl⟩
         replace H : (quarryref10_Build.l1 k2 a0 a1 x6_2 t260 x9_2 y264 (List.replicate ((a0.size : Int) : Int).toNat false) 0 x264000_2 x264001_2) = some (r1, r2, r3) := by first|(rw [hy264];with_reducible exact H)|(have H2_ := (zz3 _ _).symm.trans H;rw [hy264];with_reducible exact H2_)|(have H2_ := (zz3 _ _).symm.trans H;with_reducible exact H2_)|with_reducible exact H|(rw [hy264];exact H)|exact H
         have Ny264 := zA hy264
         clear hy264
         obtain ⟨y267, hy267⟩ : ∃ y_ : List Bool, y_ = (List.replicate ((a0.size : Int) : Int).toNat false) := ⟨_, rfl⟩
         replace H : (quarryref10_Build.l1 k2 a0 a1 x6_2 t260 x9_2 y264 y267 0 x264000_2 x264001_2) = some (r1, r2, r3) := by first|(rw [hy267];with_reducible exact H)|(have H2_ := (zz3 _ _).symm.trans H;rw [hy267];with_reducible exact H2_)|(have H2_ := (zz3 _ _).symm.trans H;with_reducible exact H2_)|with_reducible exact H|(rw [hy267];exact H)|exact H
         have Ny267 := zA hy267
         clear hy267
         have H' := zA H
         clear H
         try go_wp2
         have n0_ := zA (yy3 HO_6.out)
         have n1_ := zA (yy3 HO_7.out)
         have n2_ := zA (yy6 HO_264000.out)
         have n3_ := zA (yy6 HO_264001.out)
         have n4_ := zA (zK BK256.out)
         have n5_ := zA (zK BK263.out)
         have n6_ := zA (zH HB.out)
         clear HO_6
         clear HO_7
         clear HO_264000
         clear HO_264001
         clear BK256
         clear BK263
         clear HB
         have HO_6 := n0_
         have HO_7 := n1_
         have HO_264000 := n2_
         have HO_264001 := n3_
         have BK256 := n4_
         have BK263 := n5_
         have HB := n6_
         clear n0_ n1_ n2_ n3_ n4_ n5_ n6_
         refine start_ (n := 8) (S := fun w' => True) (ds := []) #[false, false, false, false, false, false, false, false] (by kernel_rfl) rfl rfl trivial (fun hHeld => ?_);refine with_tabW quarryref10_Build.tab8 quarryref10_Build.bits8 (fun HT_ HW_ => ?_)
         generalize wr.drew = w16 at HO_6 HO_7 HO_264000 HO_264001 BK256 BK263 HB hHeld ⊢
         refine pure_ (i := 0) (N := some 29) (v := ?_) (a' := ?_) #[true, false, false, false, false, false, false, false] rfl rfl (any_of HT_.out (by kernel_rfl)) (fun _ _ _ h => h) (Or.inl ⟨by rfl, ?_⟩) ?_ ?_
         rotate_left
         ·intro w'
          go_simp
          with_reducible rfl
         rotate_left
         ·simp only [Act.put, zB, zC, zD, i64_w, i32_w]
          rfl
         refine pure_ (i := 1) (N := some 30) (v := ?_) (a' := ?_) #[true, true, false, false, false, false, false, false] rfl rfl (any_of HT_.out (by kernel_rfl)) (fun _ _ _ h => h) (Or.inl ⟨by rfl, ?_⟩) ?_ ?_
         rotate_left
         ·intro w'
          go_simp
          with_reducible rfl
         rotate_left
         ·simp only [Act.put, zB, zC, zD, i64_w, i32_w]
          rfl
         refine pure_ (i := 3) (N := some 32) (v := ?_) (a' := ?_) #[true, true, false, true, false, false, false, false] rfl rfl (any_of HT_.out (by kernel_rfl)) (fun _ _ _ h => h) (Or.inl ⟨by rfl, ?_⟩) ?_ ?_
         rotate_left
         ·intro w'
          go_simp
          with_reducible rfl
         rotate_left
         ·simp only [Act.put, zB, zC, zD, i64_w, i32_w]
          rfl
         refine pure_ (i := 4) (N := some 33) (v := ?_) (a' := ?_) #[true, true, false, true, true, false, false, false] rfl rfl (any_of HT_.out (by kernel_rfl)) (fun _ _ _ h => h) (Or.inl ⟨by rfl, ?_⟩) ?_ ?_
         rotate_left
         ·intro w'
          go_simp
          with_reducible rfl
         rotate_left
         ·simp only [Act.put, zB, zC, zD, i64_w, i32_w]
          rfl
         refine join_ (σ := Value × Value) 1 #[true, true, true, true, true, true, true, false] (fun s_ => [(31, s_.1), (34, s_.2), (10, s_.1)]) (fun s_ w' => (Kd.R Kd.bool 4 w' w.heap.size (fun k_ => some k_ ≠ (s_.2 : Value).ownBlock ∧ some k_ ≠ (v258 : Value).ownBlock) s_.1 y264) ∧ (Kd.R Kd.bool 4 w' w.heap.size (fun k_ => some k_ ≠ (s_.1 : Value).ownBlock ∧ some k_ ≠ (v258 : Value).ownBlock) s_.2 y267) ∧ (Kd.S k34 34 w' w.heap.size (fun k_ => some k_ ≠ (u264001 : Value).ownBlock) u264000 x264000_2) ∧ (Kd.S k34 34 w' w.heap.size (fun k_ => some k_ ≠ (u264000 : Value).ownBlock) u264001 x264001_2) ∧ (Kd.R Kd.bool 4 w' w.heap.size (fun k_ => some k_ ≠ (s_.1 : Value).ownBlock ∧ some k_ ≠ (s_.2 : Value).ownBlock) v258 x6_2) ∧ (Kd.R (Kd.int .i64) 3 w' w.heap.size (fun _ => True) v261 t260) ∧ (w'.heap[gb256]? = some (.cells #[.slice none 0 0, .slice none 0 0] 48 (0, 0))) ∧ (w'.heap[gb263]? = some (.cells #[u264000, u264001] 48 (0, 0))) ∧ (Below w.heap.size w w')) ?_ ?_
         rotate_left
         ·intro hCont
          refine two_ (i := 2) (j := 5) (Ni := some 31) (Nj := some 34) #[true, true, true, true, true, false, false, false] #[true, true, false, true, true, true, false, false] rfl rfl rfl rfl (two_of HT_.out (by kernel_rfl)) (by decide) (by decide) (fun K hK => ?_) (fun K hK => ?_)
          ·skip
           refine Kd.R_make_step Kd.bool _ 4 (by rfl) (N := 31) rfl 38 _ _ rfl (a0.size : Int) rfl rfl Tryd.underlying38 (.bool false) 1 info4 rfl (by decide) (by omega) false (ok := fun _ => True) (okp := fun _ => True) rfl (fun _ hk => hk) trivial (zE (by first|(with_reducible assumption)|assumption)) (zz2 (Nat.mul_le_mul_right _ (zE (by first|(with_reducible assumption)|assumption) : (a0.size : Int).toNat ≤ 281474976710656)) (by omega)) (Below.refl _ _) (Nat.le_refl _) ?_
           intro v265 w17 ho18 hb hg_ hnew_
           clear hg_ hnew_
           (first|rw [← Ny264.out] at ho18|(simp only [Int.reduceToNat] at ho18;rw [← Ny264.out] at ho18))
           have n0_ := zA (Kd.R_elder' (by (with_reducible repeat (first|apply yy1|apply yy2|apply yy3));exact HO_6.out) (Kd.R_base ho18) hb)
           have n1_ := zA (yy9 (by (with_reducible repeat (first|apply yy1|apply yy2|apply yy3));exact HO_7.out) hb)
           have n2_ := zA (yy10 (by (with_reducible repeat (first|apply yy4|apply yy5|apply yy6));exact HO_264000.out) hb)
           have n3_ := zA (yy10 (by (with_reducible repeat (first|apply yy4|apply yy5|apply yy6));exact HO_264001.out) hb)
           have n4_ := zA (Kd.R_lower (Kd.R_new' ho18 (Kd.R_lt (by (with_reducible repeat (first|apply yy1|apply yy2|apply yy3));exact HO_6.out))) (zO (by repeat (first|(with_reducible first|exact HB.out|apply zG|apply zF|apply zH|refine zI ?_ GE256.out|refine zI ?_ GE263.out)|exact HB.out))))
           have n5_ := zA (zQ (g := gb256) (o := .cells #[.slice none 0 0, .slice none 0 0] 48 (0, 0)) (by (with_reducible repeat (first|refine zJ ?_ _|refine zK ?_|refine zL ?_ _));exact BK256.out) hb)
           have n6_ := zA (zQ (g := gb263) (o := .cells #[u264000, u264001] 48 (0, 0)) (by (with_reducible repeat (first|refine zJ ?_ _|refine zK ?_|refine zL ?_ _));exact BK263.out) hb)
           have n7_ := zA (zN (by repeat (first|(with_reducible first|exact HB.out|apply zG|apply zF|apply zH|refine zI ?_ GE256.out|refine zI ?_ GE263.out)|exact HB.out)) hb)
           clear HO_6
           clear HO_7
           clear HO_264000
           clear HO_264001
           clear BK256
           clear BK263
           clear HB
           have HO_6 := n0_
           have HO_7 := n1_
           have HO_264000 := n2_
           have HO_264001 := n3_
           have HO266 := n4_
           have BK256 := n5_
           have BK263 := n6_
           have HB := n7_
           clear n0_ n1_ n2_ n3_ n4_ n5_ n6_ n7_
           clear hb ho18
           refine hK.out _ _ trivial (fun hHeld => ?_)
           clear hK K
           refine norm_ (a' := ?_) ?_ ?_
           rotate_left
           ·show Act.put _ (some 31) _ = _
            simp only [Act.put, zB, zC, zD, i64_w, i32_w]
            rfl
           refine pure_ (i := 6) (N := some 10) (v := ?_) (a' := ?_) #[true, true, true, true, true, false, true, false] rfl rfl (any_of HT_.out (by kernel_rfl)) (fun _ _ _ h => h) (Or.inl ⟨by rfl, ?_⟩) ?_ ?_
           rotate_left
           ·intro w'
            go_simp
            with_reducible rfl
           rotate_left
           ·simp only [Act.put, zB, zC, zD, i64_w, i32_w]
            rfl
           refine one_ (i := 5) (N := some 34) #[true, true, true, true, true, true, true, false] rfl rfl (one_of HT_.out (by kernel_rfl)) (by decide) (fun K hK => ?_)
           refine Kd.R_make_step Kd.bool _ 4 (by rfl) (N := 34) rfl 38 _ _ rfl (a0.size : Int) rfl rfl Tryd.underlying38 (.bool false) 1 info4 rfl (by decide) (by omega) false (ok := fun _ => True) (okp := fun _ => True) rfl (fun _ hk => hk) trivial (zE (by first|(with_reducible assumption)|assumption)) (zz2 (Nat.mul_le_mul_right _ (zE (by first|(with_reducible assumption)|assumption) : (a0.size : Int).toNat ≤ 281474976710656)) (by omega)) (Below.refl _ _) (Nat.le_refl _) ?_
           intro v268 w19 ho20 hb hg_ hnew_
           clear hg_ hnew_
           (first|rw [← Ny267.out] at ho20|(simp only [Int.reduceToNat] at ho20;rw [← Ny267.out] at ho20))
           have n0_ := zA (Kd.R_elder' (by (with_reducible repeat (first|apply yy1|apply yy2|apply yy3));exact HO_6.out) (Kd.R_base ho20) hb)
           have n1_ := zA (yy9 (by (with_reducible repeat (first|apply yy1|apply yy2|apply yy3));exact HO_7.out) hb)
           have n2_ := zA (yy10 (by (with_reducible repeat (first|apply yy4|apply yy5|apply yy6));exact HO_264000.out) hb)
           have n3_ := zA (yy10 (by (with_reducible repeat (first|apply yy4|apply yy5|apply yy6));exact HO_264001.out) hb)
           have n4_ := zA (Kd.R_elder' (by (with_reducible repeat (first|apply yy1|apply yy2|apply yy3));exact HO266.out) (Kd.R_base ho20) hb)
           have n5_ := zA (Kd.R_lower (Kd.R_new' (Kd.R_new' ho20 (Kd.R_lt (by (with_reducible repeat (first|apply yy1|apply yy2|apply yy3));exact HO_6.out))) (Kd.R_lt (by (with_reducible repeat (first|apply yy1|apply yy2|apply yy3));exact HO266.out))) (zO (by repeat (first|(with_reducible first|exact HB.out|apply zG|apply zF|apply zH|refine zI ?_ GE256.out|refine zI ?_ GE263.out)|exact HB.out))))
           have n6_ := zA (zQ (g := gb256) (o := .cells #[.slice none 0 0, .slice none 0 0] 48 (0, 0)) (by (with_reducible repeat (first|refine zJ ?_ _|refine zK ?_|refine zL ?_ _));exact BK256.out) hb)
           have n7_ := zA (zQ (g := gb263) (o := .cells #[u264000, u264001] 48 (0, 0)) (by (with_reducible repeat (first|refine zJ ?_ _|refine zK ?_|refine zL ?_ _));exact BK263.out) hb)
           have n8_ := zA (zN (by repeat (first|(with_reducible first|exact HB.out|apply zG|apply zF|apply zH|refine zI ?_ GE256.out|refine zI ?_ GE263.out)|exact HB.out)) hb)
           clear HO_6
           clear HO_7
           clear HO_264000
           clear HO_264001
           clear HO266
           clear BK256
           clear BK263
           clear HB
           have HO_6 := n0_
           have HO_7 := n1_
           have HO_264000 := n2_
           have HO_264001 := n3_
           have HO266 := n4_
           have HO269 := n5_
           have BK256 := n6_
           have BK263 := n7_
           have HB := n8_
           clear n0_ n1_ n2_ n3_ n4_ n5_ n6_ n7_ n8_
           clear hb ho20
           refine hK.out _ _ trivial (fun hHeld => ?_)
           clear hK K
           refine norm_ (a' := ?_) ?_ ?_
           rotate_left
           ·show Act.put _ (some 34) _ = _
            simp only [Act.put, zB, zC, zD, i64_w, i32_w]
            rfl
           exact norm_ (by simp only [putAll, Act.put, zB, zC, zD]) (hCont (v265, v268) _ ⟨(by (with_reducible repeat (first|apply yy1|apply yy2|apply yy3));exact Kd.R_mono HO266.out (fun _ hk => ⟨hk.2, hk.1.2⟩)), (by (with_reducible repeat (first|apply yy1|apply yy2|apply yy3));exact Kd.R_mono HO269.out (fun _ hk => ⟨hk.2, hk.1.2⟩)), (by (with_reducible repeat (first|apply yy4|apply yy5|apply yy6));exact HO_264000.out), (by (with_reducible repeat (first|apply yy4|apply yy5|apply yy6));exact HO_264001.out), (by (with_reducible repeat (first|apply yy1|apply yy2|apply yy3));exact Kd.R_mono HO_6.out (fun _ hk => ⟨hk.1.2, hk.2⟩)), (by (with_reducible repeat (first|apply yy1|apply yy2|apply yy3));exact HO_7.out), (by (with_reducible repeat (first|refine zJ ?_ _|refine zK ?_|refine zL ?_ _));exact BK256.out), (by (with_reducible repeat (first|refine zJ ?_ _|refine zK ?_|refine zL ?_ _));exact BK263.out), (by repeat (first|(with_reducible first|exact HB.out|apply zG|apply zF|apply zH|refine zI ?_ GE256.out|refine zI ?_ GE263.out)|exact HB.out))⟩)
          ·skip
           refine Kd.R_make_step Kd.bool _ 4 (by rfl) (N := 34) rfl 38 _ _ rfl (a0.size : Int) rfl rfl Tryd.underlying38 (.bool false) 1 info4 rfl (by decide) (by omega) false (ok := fun _ => True) (okp := fun _ => True) rfl (fun _ hk => hk) trivial (zE (by first|(with_reducible assumption)|assumption)) (zz2 (Nat.mul_le_mul_right _ (zE (by first|(with_reducible assumption)|assumption) : (a0.size : Int).toNat ≤ 281474976710656)) (by omega)) (Below.refl _ _) (Nat.le_refl _) ?_
           intro v268 w17 ho18 hb hg_ hnew_
           clear hg_ hnew_
           (first|rw [← Ny267.out] at ho18|(simp only [Int.reduceToNat] at ho18;rw [← Ny267.out] at ho18))
           have n0_ := zA (Kd.R_elder' (by (with_reducible repeat (first|apply yy1|apply yy2|apply yy3));exact HO_6.out) (Kd.R_base ho18) hb)
           have n1_ := zA (yy9 (by (with_reducible repeat (first|apply yy1|apply yy2|apply yy3));exact HO_7.out) hb)
           have n2_ := zA (yy10 (by (with_reducible repeat (first|apply yy4|apply yy5|apply yy6));exact HO_264000.out) hb)
           have n3_ := zA (yy10 (by (with_reducible repeat (first|apply yy4|apply yy5|apply yy6));exact HO_264001.out) hb)
           have n4_ := zA (Kd.R_lower (Kd.R_new' ho18 (Kd.R_lt (by (with_reducible repeat (first|apply yy1|apply yy2|apply yy3));exact HO_6.out))) (zO (by repeat (first|(with_reducible first|exact HB.out|apply zG|apply zF|apply zH|refine zI ?_ GE256.out|refine zI ?_ GE263.out)|exact HB.out))))
           have n5_ := zA (zQ (g := gb256) (o := .cells #[.slice none 0 0, .slice none 0 0] 48 (0, 0)) (by (with_reducible repeat (first|refine zJ ?_ _|refine zK ?_|refine zL ?_ _));exact BK256.out) hb)
           have n6_ := zA (zQ (g := gb263) (o := .cells #[u264000, u264001] 48 (0, 0)) (by (with_reducible repeat (first|refine zJ ?_ _|refine zK ?_|refine zL ?_ _));exact BK263.out) hb)
           have n7_ := zA (zN (by repeat (first|(with_reducible first|exact HB.out|apply zG|apply zF|apply zH|refine zI ?_ GE256.out|refine zI ?_ GE263.out)|exact HB.out)) hb)
           clear HO_6
           clear HO_7
           clear HO_264000
           clear HO_264001
           clear BK256
           clear BK263
           clear HB
           have HO_6 := n0_
           have HO_7 := n1_
           have HO_264000 := n2_
           have HO_264001 := n3_
           have HO269 := n4_
           have BK256 := n5_
           have BK263 := n6_
           have HB := n7_
           clear n0_ n1_ n2_ n3_ n4_ n5_ n6_ n7_
           clear hb ho18
           refine hK.out _ _ trivial (fun hHeld => ?_)
           clear hK K
           refine norm_ (a' := ?_) ?_ ?_
           rotate_left
           ·show Act.put _ (some 34) _ = _
            simp only [Act.put, zB, zC, zD, i64_w, i32_w]
            rfl
           refine one_ (i := 2) (N := some 31) #[true, true, true, true, true, true, false, false] rfl rfl (one_of HT_.out (by kernel_rfl)) (by decide) (fun K hK => ?_)
           refine Kd.R_make_step Kd.bool _ 4 (by rfl) (N := 31) rfl 38 _ _ rfl (a0.size : Int) rfl rfl Tryd.underlying38 (.bool false) 1 info4 rfl (by decide) (by omega) false (ok := fun _ => True) (okp := fun _ => True) rfl (fun _ hk => hk) trivial (zE (by first|(with_reducible assumption)|assumption)) (zz2 (Nat.mul_le_mul_right _ (zE (by first|(with_reducible assumption)|assumption) : (a0.size : Int).toNat ≤ 281474976710656)) (by omega)) (Below.refl _ _) (Nat.le_refl _) ?_
           intro v265 w19 ho20 hb hg_ hnew_
           clear hg_ hnew_
           (first|rw [← Ny264.out] at ho20|(simp only [Int.reduceToNat] at ho20;rw [← Ny264.out] at ho20))
           have n0_ := zA (Kd.R_elder' (by (with_reducible repeat (first|apply yy1|apply yy2|apply yy3));exact HO_6.out) (Kd.R_base ho20) hb)
           have n1_ := zA (yy9 (by (with_reducible repeat (first|apply yy1|apply yy2|apply yy3));exact HO_7.out) hb)
           have n2_ := zA (yy10 (by (with_reducible repeat (first|apply yy4|apply yy5|apply yy6));exact HO_264000.out) hb)
           have n3_ := zA (yy10 (by (with_reducible repeat (first|apply yy4|apply yy5|apply yy6));exact HO_264001.out) hb)
           have n4_ := zA (Kd.R_elder' (by (with_reducible repeat (first|apply yy1|apply yy2|apply yy3));exact HO269.out) (Kd.R_base ho20) hb)
           have n5_ := zA (Kd.R_lower (Kd.R_new' (Kd.R_new' ho20 (Kd.R_lt (by (with_reducible repeat (first|apply yy1|apply yy2|apply yy3));exact HO_6.out))) (Kd.R_lt (by (with_reducible repeat (first|apply yy1|apply yy2|apply yy3));exact HO269.out))) (zO (by repeat (first|(with_reducible first|exact HB.out|apply zG|apply zF|apply zH|refine zI ?_ GE256.out|refine zI ?_ GE263.out)|exact HB.out))))
           have n6_ := zA (zQ (g := gb256) (o := .cells #[.slice none 0 0, .slice none 0 0] 48 (0, 0)) (by (with_reducible repeat (first|refine zJ ?_ _|refine zK ?_|refine zL ?_ _));exact BK256.out) hb)
           have n7_ := zA (zQ (g := gb263) (o := .cells #[u264000, u264001] 48 (0, 0)) (by (with_reducible repeat (first|refine zJ ?_ _|refine zK ?_|refine zL ?_ _));exact BK263.out) hb)
           have n8_ := zA (zN (by repeat (first|(with_reducible first|exact HB.out|apply zG|apply zF|apply zH|refine zI ?_ GE256.out|refine zI ?_ GE263.out)|exact HB.out)) hb)
           clear HO_6
           clear HO_7
           clear HO_264000
           clear HO_264001
           clear HO269
           clear BK256
           clear BK263
           clear HB
           have HO_6 := n0_
           have HO_7 := n1_
           have HO_264000 := n2_
           have HO_264001 := n3_
           have HO269 := n4_
           have HO266 := n5_
           have BK256 := n6_
           have BK263 := n7_
           have HB := n8_
           clear n0_ n1_ n2_ n3_ n4_ n5_ n6_ n7_ n8_
           clear hb ho20
           refine hK.out _ _ trivial (fun hHeld => ?_)
           clear hK K
           refine norm_ (a' := ?_) ?_ ?_
           rotate_left
           ·show Act.put _ (some 31) _ = _
            simp only [Act.put, zB, zC, zD, i64_w, i32_w]
            rfl
           refine pure_ (i := 6) (N := some 10) (v := ?_) (a' := ?_) #[true, true, true, true, true, true, true, false] rfl rfl (any_of HT_.out (by kernel_rfl)) (fun _ _ _ h => h) (Or.inl ⟨by rfl, ?_⟩) ?_ ?_
           rotate_left
           ·intro w'
            go_simp
            with_reducible rfl
           rotate_left
           ·simp only [Act.put, zB, zC, zD, i64_w, i32_w]
            rfl
           exact norm_ (by simp only [putAll, Act.put, zB, zC, zD]) (hCont (v265, v268) _ ⟨(by (with_reducible repeat (first|apply yy1|apply yy2|apply yy3));exact Kd.R_mono HO266.out (fun _ hk => ⟨hk.2, hk.1.2⟩)), (by (with_reducible repeat (first|apply yy1|apply yy2|apply yy3));exact Kd.R_mono HO269.out (fun _ hk => ⟨hk.2, hk.1.2⟩)), (by (with_reducible repeat (first|apply yy4|apply yy5|apply yy6));exact HO_264000.out), (by (with_reducible repeat (first|apply yy4|apply yy5|apply yy6));exact HO_264001.out), (by (with_reducible repeat (first|apply yy1|apply yy2|apply yy3));exact Kd.R_mono HO_6.out (fun _ hk => ⟨hk.2, hk.1.2⟩)), (by (with_reducible repeat (first|apply yy1|apply yy2|apply yy3));exact HO_7.out), (by (with_reducible repeat (first|refine zJ ?_ _|refine zK ?_|refine zL ?_ _));exact BK256.out), (by (with_reducible repeat (first|refine zJ ?_ _|refine zK ?_|refine zL ?_ _));exact BK263.out), (by repeat (first|(with_reducible first|exact HB.out|apply zG|apply zF|apply zH|refine zI ?_ GE256.out|refine zI ?_ GE263.out)|exact HB.out))⟩)
         rintro ⟨v265, v268⟩ w21 ⟨h0_, h1_, h2_, h3_, h4_, h5_, h6_, h7_, h8_⟩
         have n0_ : Aside0 (Kd.R Kd.bool 4 w21 w.heap.size (fun k_ => some k_ ≠ (v268 : Value).ownBlock ∧ some k_ ≠ (v258 : Value).ownBlock) v265 y264) := ⟨h0_⟩
         have n1_ : Aside0 (Kd.R Kd.bool 4 w21 w.heap.size (fun k_ => some k_ ≠ (v265 : Value).ownBlock ∧ some k_ ≠ (v258 : Value).ownBlock) v268 y267) := ⟨h1_⟩
         have n2_ : Aside0 (Kd.S k34 34 w21 w.heap.size (fun k_ => some k_ ≠ (u264001 : Value).ownBlock) u264000 x264000_2) := ⟨h2_⟩
         have n3_ : Aside0 (Kd.S k34 34 w21 w.heap.size (fun k_ => some k_ ≠ (u264000 : Value).ownBlock) u264001 x264001_2) := ⟨h3_⟩
         have n4_ : Aside0 (Kd.R Kd.bool 4 w21 w.heap.size (fun k_ => some k_ ≠ (v265 : Value).ownBlock ∧ some k_ ≠ (v268 : Value).ownBlock) v258 x6_2) := ⟨h4_⟩
         have n5_ : Aside0 (Kd.R (Kd.int .i64) 3 w21 w.heap.size (fun _ => True) v261 t260) := ⟨h5_⟩
         have n6_ : Aside0 (w21.heap[gb256]? = some (.cells #[.slice none 0 0, .slice none 0 0] 48 (0, 0))) := ⟨h6_⟩
         have n7_ : Aside0 (w21.heap[gb263]? = some (.cells #[u264000, u264001] 48 (0, 0))) := ⟨h7_⟩
         have n8_ : Aside0 (Below w.heap.size w w21) := ⟨h8_⟩
         clear HO_6
         clear HO_7
         clear HO_264000
         clear HO_264001
         clear BK256
         clear BK263
         clear HB
         clear h0_ h1_ h2_ h3_ h4_ h5_ h6_ h7_ h8_
         have HO266 := n0_
         have HO269 := n1_
         have HO_264000 := n2_
         have HO_264001 := n3_
         have HO_6 := n4_
         have HO_7 := n5_
         have BK256 := n6_
         have BK263 := n7_
         have HB := n8_
         clear n0_ n1_ n2_ n3_ n4_ n5_ n6_ n7_ n8_
         have hHeld := trivial
         refine norm_ (a' := ?_) ?_ ?_
         rotate_left
         ·simp only [putAll, Act.put, zB, zC, zD]
          rfl
         refine pure_ (i := 7) (N := some 11) (v := ?_) (a' := ?_) #[true, true, true, true, true, true, true, true] rfl rfl (any_of HT_.out (by kernel_rfl)) (fun _ _ _ h => h) (Or.inl ⟨by rfl, ?_⟩) ?_ ?_
         rotate_left
         ·intro w'
          go_simp
          with_reducible rfl
         rotate_left
         ·simp only [Act.put, zB, zC, zD, i64_w, i32_w]
          rfl
         refine done_ (done_of HT_.out (by kernel_rfl)) ?_
         try go_wp2
         go_loopg [12] k2 (fun kq v12 w' => ∃ (x10_3 : List Bool) (x11_3 : List Bool) (x12_3 : Int), v12 = .int .i64 x12_3 ∧ Aside0 (quarryref10_Build.l1 kq a0 a1 x6_2 t260 x9_2 x10_3 x11_3 x12_3 x264000_2 x264001_2 = some (r1, r2, r3)) ∧ Aside0 (kq ≤ k2) ∧ Aside0 (Kd.R Kd.bool 4 w' w.heap.size (fun k_ => some k_ ≠ (v265 : Value).ownBlock ∧ some k_ ≠ (v268 : Value).ownBlock) v258 x6_2) ∧ Aside0 (Kd.R (Kd.int .i64) 3 w' w.heap.size (fun _ => True) v261 t260) ∧ Aside0 (Kd.R Kd.bool 4 w' w.heap.size (fun k_ => some k_ ≠ (v258 : Value).ownBlock ∧ some k_ ≠ (v268 : Value).ownBlock) v265 x10_3) ∧ Aside0 (Kd.R Kd.bool 4 w' w.heap.size (fun k_ => some k_ ≠ (v258 : Value).ownBlock ∧ some k_ ≠ (v265 : Value).ownBlock) v268 x11_3) ∧ Aside0 (Kd.S k34 34 w' w.heap.size (fun k_ => some k_ ≠ (u264001 : Value).ownBlock) u264000 x264000_2) ∧ Aside0 (Kd.S k34 34 w' w.heap.size (fun k_ => some k_ ≠ (u264000 : Value).ownBlock) u264001 x264001_2) ∧ Aside0 (w'.heap[gb256]? = some (.cells #[(.slice none 0 0), (.slice none 0 0)] 48 (0, 0))) ∧ Aside0 (w'.heap[gb263]? = some (.cells #[u264000, u264001] 48 (0, 0))) ∧ Aside0 (Below w.heap.size w w'))
         case atStart => exact ⟨(y264), (y267), (0), (by first|rfl|(simp;done)|(simp [*];done)), H', ⟨Nat.le_refl _⟩, ⟨by (with_reducible repeat (first|apply yy1|apply yy2|apply yy3));exact HO_6.out⟩, ⟨by (with_reducible repeat (first|apply yy1|apply yy2|apply yy3));exact HO_7.out⟩, ⟨by (with_reducible repeat (first|apply yy1|apply yy2|apply yy3));exact Kd.R_mono HO266.out (fun _ hk => ⟨hk.2, hk.1⟩)⟩, ⟨by (with_reducible repeat (first|apply yy1|apply yy2|apply yy3));exact Kd.R_mono HO269.out (fun _ hk => ⟨hk.2, hk.1⟩)⟩, ⟨by (with_reducible repeat (first|apply yy4|apply yy5|apply yy6));exact HO_264000.out⟩, ⟨by (with_reducible repeat (first|apply yy4|apply yy5|apply yy6));exact HO_264001.out⟩, ⟨by (with_reducible repeat (first|refine zJ ?_ _|refine zK ?_|refine zL ?_ _));exact BK256.out⟩, ⟨by (with_reducible repeat (first|refine zJ ?_ _|refine zK ?_|refine zL ?_ _));exact BK263.out⟩, ⟨by repeat (first|(with_reducible first|exact HB.out|apply zG|apply zF|apply zH|refine zI ?_ GE256.out|refine zI ?_ GE263.out)|exact HB.out)⟩⟩
         case round =>
          clear H'
          try clear c1
          try clear p2
          try clear c3
          try clear c5
          try clear c5b0
          try clear c6
          try clear c13
          try clear c13b0
          try clear c14
          try clear c14b0
          try clear c14b1
          try clear c15
          try clear c15b0
          try clear c15b1
          try clear hcz7_0
          try clear hcz7_1
          try clear hfz7_0
          try clear hfz7_1
          try clear p2
          obtain ⟨x10_3, x11_3, x12_3, rfl, HA, HK3, HO_6, HO_7, HO_10, HO_11, HO_264000, HO_264001, BK256, BK263, HB⟩ := hrel
          cases gk with
          | zero => exact absurd HA.out (by simp [quarryref10_Build.l1])
          | succ k3 =>
           have H := HA.out
           clear HA
           simp only [quarryref10_Build.l1] at H
           by_cases c22 : x12_3 < (a0.size : Int)
           ·rw [if_pos c22] at H
            have c22b0 : decide (x12_3 < (a0.size : Int)) = true := zz1 c22
            clear c22
            by_cases c23 : 0 ≤ x12_3
            ·rw [if_pos c23] at H
             have c23b0 : decide (0 ≤ x12_3) = true := zz1 c23
             clear c23
             by_cases c24 : x12_3 < (x6_2.length : Int)
             ·rw [if_pos c24] at H
              have c24b0 : decide (x12_3 < (x6_2.length : Int)) = true := zz1 c24
              clear c24
              obtain ⟨bq25, hbq25⟩ : ∃ b_ : Bool, b_ = (rdOf false x6_2 x12_3) := ⟨_, rfl⟩
              replace H : (if bq25 = true then (if (bt a0 x12_3) = 58 then (if x12_3 < (t260.length : Int) then (if x12_3 < (x10_3.length : Int) then ((some (x10_3.set (x12_3 : Int).toNat ((rd t260 x12_3) == x9_2) : List Bool)).bind fun y272 => (if (bt a0 x12_3) = 44 then (if x12_3 < (x11_3.length : Int) then (quarryref10_Build.l1 k3 a0 a1 x6_2 t260 x9_2 y272 (x11_3.set (x12_3 : Int).toNat ((rd t260 x12_3) == x9_2)) (wrap64 (x12_3 + 1)) x264000_2 x264001_2) else (none)) else (if x12_3 < (x11_3.length : Int) then (quarryref10_Build.l1 k3 a0 a1 x6_2 t260 x9_2 y272 (x11_3.set (x12_3 : Int).toNat false) (wrap64 (x12_3 + 1)) x264000_2 x264001_2) else (none)))) else (none)) else (none)) else (if x12_3 < (x10_3.length : Int) then ((some (x10_3.set (x12_3 : Int).toNat false : List Bool)).bind fun y277 => (if (bt a0 x12_3) = 44 then (if x12_3 < (t260.length : Int) then (if x12_3 < (x11_3.length : Int) then (quarryref10_Build.l1 k3 a0 a1 x6_2 t260 x9_2 y277 (x11_3.set (x12_3 : Int).toNat ((rd t260 x12_3) == x9_2)) (wrap64 (x12_3 + 1)) x264000_2 x264001_2) else (none)) else (none)) else (if x12_3 < (x11_3.length : Int) then (quarryref10_Build.l1 k3 a0 a1 x6_2 t260 x9_2 y277 (x11_3.set (x12_3 : Int).toNat false) (wrap64 (x12_3 + 1)) x264000_2 x264001_2) else (none)))) else (none))) else (if x12_3 < (x10_3.length : Int) then (if x12_3 < (x11_3.length : Int) then (quarryref10_Build.l1 k3 a0 a1 x6_2 t260 x9_2 (x10_3.set (x12_3 : Int).toNat false) (x11_3.set (x12_3 : Int).toNat false) (wrap64 (x12_3 + 1)) x264000_2 x264001_2) else (none)) else (none))) = some (r1, r2, r3) := by rw [← hbq25] at H;exact H
              have Nbq25 := zA hbq25
              clear hbq25
              by_cases c26 : bq25 = true
              ·subst c26
               have H1 : (if (bt a0 x12_3) = 58 then (if x12_3 < (t260.length : Int) then (if x12_3 < (x10_3.length : Int) then ((some (x10_3.set (x12_3 : Int).toNat ((rd t260 x12_3) == x9_2) : List Bool)).bind fun y272 => (if (bt a0 x12_3) = 44 then (if x12_3 < (x11_3.length : Int) then (quarryref10_Build.l1 k3 a0 a1 x6_2 t260 x9_2 y272 (x11_3.set (x12_3 : Int).toNat ((rd t260 x12_3) == x9_2)) (wrap64 (x12_3 + 1)) x264000_2 x264001_2) else (none)) else (if x12_3 < (x11_3.length : Int) then (quarryref10_Build.l1 k3 a0 a1 x6_2 t260 x9_2 y272 (x11_3.set (x12_3 : Int).toNat false) (wrap64 (x12_3 + 1)) x264000_2 x264001_2) else (none)))) else (none)) else (none)) else (if x12_3 < (x10_3.length : Int) then ((some (x10_3.set (x12_3 : Int).toNat false : List Bool)).bind fun y277 => (if (bt a0 x12_3) = 44 then (if x12_3 < (t260.length : Int) then (if x12_3 < (x11_3.length : Int) then (quarryref10_Build.l1 k3 a0 a1 x6_2 t260 x9_2 y277 (x11_3.set (x12_3 : Int).toNat ((rd t260 x12_3) == x9_2)) (wrap64 (x12_3 + 1)) x264000_2 x264001_2) else (none)) else (none)) else (if x12_3 < (x11_3.length : Int) then (quarryref10_Build.l1 k3 a0 a1 x6_2 t260 x9_2 y277 (x11_3.set (x12_3 : Int).toNat false) (wrap64 (x12_3 + 1)) x264000_2 x264001_2) else (none)))) else (none))) = some (r1, r2, r3) := by rw [if_pos rfl] at H;exact H
               clear H
               have H := H1
               clear H1
               by_cases c28 : (bt a0 x12_3) = 58
               ·rw [if_pos c28] at H
                have c28b0 : ((bt a0 x12_3) == 58) = true := beq_iff_eq.mpr c28
                have c28b1 : ((bt a0 x12_3) != 58) = false := bne_eq_false_iff_eq.mpr c28
                clear c28
                by_cases c29 : x12_3 < (t260.length : Int)
                ·rw [if_pos c29] at H
                 have c29b0 : decide (x12_3 < (t260.length : Int)) = true := zz1 c29
                 clear c29
                 by_cases c30 : x12_3 < (x10_3.length : Int)
                 ·rw [if_pos c30] at H
                  have c30b0 : decide (x12_3 < (x10_3.length : Int)) = true := zz1 c30
                  clear c30
                  obtain ⟨y272, hy272⟩ : ∃ y_ : List Bool, y_ = (x10_3.set (x12_3 : Int).toNat ((rd t260 x12_3) == x9_2)) := ⟨_, rfl⟩
                  replace H : (if (bt a0 x12_3) = 44 then (if x12_3 < (x11_3.length : Int) then (quarryref10_Build.l1 k3 a0 a1 x6_2 t260 x9_2 y272 (x11_3.set (x12_3 : Int).toNat ((rd t260 x12_3) == x9_2)) (wrap64 (x12_3 + 1)) x264000_2 x264001_2) else (none)) else (if x12_3 < (x11_3.length : Int) then (quarryref10_Build.l1 k3 a0 a1 x6_2 t260 x9_2 y272 (x11_3.set (x12_3 : Int).toNat false) (wrap64 (x12_3 + 1)) x264000_2 x264001_2) else (none))) = some (r1, r2, r3) := by first|(rw [hy272];with_reducible exact H)|(have H2_ := (zz3 _ _).symm.trans H;rw [hy272];with_reducible exact H2_)|(have H2_ := (zz3 _ _).symm.trans H;with_reducible exact H2_)|with_reducible exact H|(rw [hy272];exact H)|exact H
                  have Ny272 := zA hy272
                  clear hy272
                  by_cases c33 : (bt a0 x12_3) = 44
                  ·rw [if_pos c33] at H
                   have c33b0 : ((bt a0 x12_3) == 44) = true := beq_iff_eq.mpr c33
                   have c33b1 : ((bt a0 x12_3) != 44) = false := bne_eq_false_iff_eq.mpr c33
                   clear c33
                   by_cases c34 : x12_3 < (x11_3.length : Int)
                   ·rw [if_pos c34] at H
                    have c34b0 : decide (x12_3 < (x11_3.length : Int)) = true := zz1 c34
                    clear c34
                    obtain ⟨y275, hy275⟩ : ∃ y_ : List Bool, y_ = (x11_3.set (x12_3 : Int).toNat ((rd t260 x12_3) == x9_2)) := ⟨_, rfl⟩
                    replace H : (quarryref10_Build.l1 k3 a0 a1 x6_2 t260 x9_2 y272 y275 (wrap64 (x12_3 + 1)) x264000_2 x264001_2) = some (r1, r2, r3) := by first|(rw [hy275];with_reducible exact H)|(have H2_ := (zz3 _ _).symm.trans H;rw [hy275];with_reducible exact H2_)|(have H2_ := (zz3 _ _).symm.trans H;with_reducible exact H2_)|with_reducible exact H|(rw [hy275];exact H)|exact H
                    have Ny275 := zA hy275
                    clear hy275
                    have H' := zA H
                    clear H
                    obtain ⟨Ao36, co36, eo36⟩ := Kd.R_slice HO_6.out
                    subst eo36
                    have p270 : 0 ≤ (x12_3 : Int) := zE (by first|(with_reducible assumption)|assumption)
                    have q270 : x12_3 < (x6_2.length : Int) := zE (by first|(with_reducible assumption)|assumption)
                    obtain ⟨ad270, e270, hx270_0⟩ := Kd.at_bool (Kd.R_reads' HO_6.out).2.2 x12_3 p270 q270
                    (try rw [← Nbq25.out] at hx270_0)
                    cases e270
                    replace p270 := eq_true p270
                    replace q270 := eq_true q270
                    have p27 : 0 ≤ (x12_3 : Int) := zE (by first|(with_reducible assumption)|assumption)
                    have q27 : x12_3 < (a0.size : Int) := zE (by first|(with_reducible assumption)|assumption)
                    have hx27 := bt_at a0 x12_3
                    replace p27 := eq_true p27
                    replace q27 := eq_true q27
                    obtain ⟨Ao37, co37, eo37⟩ := Kd.R_slice HO_7.out
                    subst eo37
                    have p271 : 0 ≤ (x12_3 : Int) := zE (by first|(with_reducible assumption)|assumption)
                    have q271 : x12_3 < (t260.length : Int) := zE (by first|(with_reducible assumption)|assumption)
                    obtain ⟨ad271, e271, hx271_0⟩ := Kd.at_int (Kd.R_reads' HO_7.out).2.2 x12_3 p271 q271
                    cases e271
                    replace p271 := eq_true p271
                    replace q271 := eq_true q271
                    have p31 : 0 ≤ (x12_3 : Int) := zE (by first|(with_reducible assumption)|assumption)
                    have q31 : (x12_3 : Int) < ((x10_3.length : Int) : Int) := zE (by first|(with_reducible assumption)|assumption)
                    obtain ⟨go31, co31, eo31, gb31, gl31, cl31, HG31⟩ := Kd.R_form HO_10.out (by omega)
                    (first|cases eo31|(injection eo31 with ea_ en_ ec_;(first|subst ea_|(injection ea_ with ea_;subst ea_));subst ec_;clear en_))
                    have GB31 := zA gb31
                    have GG31 := zA HG31
                    clear gb31 gl31 HG31
                    obtain ⟨hx31_0, hf31_0⟩ := Kd.R_celln false HO_10.out (x12_3 : Int) p31 q31
                    replace p31 := eq_true p31
                    replace q31 := eq_true q31
                    have HP38 := Kd.R_putg HO_10.out (x12_3 : Int) ((rd t260 x12_3) == x9_2)
                    go_wp2_with (first|((with_reducible refine gate_store (t := 4) (p := 61) rfl ?_);refine store_event (t := 4) (p := 61) (v := ?vo_w39) (w1 := (wr.setCell ⟨go31, (x12_3 : Int).toNat, none⟩ (.bool ((rd t260 x12_3) == x9_2)))) ?hg ?ho ?hn ?hr ?_;(case ho => rfl);(case hg => rfl);(case hn => rfl);(case hr => first|(go_simp;done)|(go_simp;rfl));intro w39 hw;have hg : wr.grownBy w39 (some go31) := (by rw [hw];exact HP38.2);have hp_ : Kd.R Kd.bool 4 w39 w.heap.size (fun k_ => some k_ ≠ (.slice (some ad270) x6_2.length co36 : Value).ownBlock ∧ some k_ ≠ (v268 : Value).ownBlock) (.slice (some ⟨go31, 0, none⟩) x10_3.length co31) y272 := (by rw [hw, Ny272.out];exact HP38.1);clear HP38;have n0_ := zA (Kd.R_after (v := (.slice (some ⟨go31, 0, none⟩) x10_3.length co31)) (v1 := (.slice (some ⟨go31, 0, none⟩) x10_3.length co31)) (ok := (fun k_ => some k_ ≠ (v268 : Value).ownBlock)) (by (with_reducible repeat (first|apply yy1|apply yy2|apply yy3));exact Kd.R_mono HO_6.out (fun _ hk => ⟨hk.2, hk.1⟩)) hg (.inl rfl));have n1_ := zA (Kd.R_over' (v := (.slice (some ⟨go31, 0, none⟩) x10_3.length co31)) (by (with_reducible repeat (first|apply yy1|apply yy2|apply yy3));exact HO_7.out) (Kd.R_typed HO_10.out) (by decide) hg);have n2_ := zA (hp_);have n3_ := zA (Kd.R_after (v := (.slice (some ⟨go31, 0, none⟩) x10_3.length co31)) (v1 := (.slice (some ⟨go31, 0, none⟩) x10_3.length co31)) (ok := (fun k_ => some k_ ≠ (.slice (some ad270) x6_2.length co36 : Value).ownBlock)) (by (with_reducible repeat (first|apply yy1|apply yy2|apply yy3));exact HO_11.out) hg (.inl rfl));have n4_ := zA (Kd.S_over' (v := (.slice (some ⟨go31, 0, none⟩) x10_3.length co31)) (by (with_reducible repeat (first|apply yy4|apply yy5|apply yy6));exact HO_264000.out) (Kd.R_typed HO_10.out) (by decide) hg);have n5_ := zA (Kd.S_over' (v := (.slice (some ⟨go31, 0, none⟩) x10_3.length co31)) (by (with_reducible repeat (first|apply yy4|apply yy5|apply yy6));exact HO_264001.out) (Kd.R_typed HO_10.out) (by decide) hg);have n6_ := zA (yy0 (g := gb256) (o := .cells #[.slice none 0 0, .slice none 0 0] 48 (0, 0)) (by (with_reducible repeat (first|refine zJ ?_ _|refine zK ?_|refine zL ?_ _));exact BK256.out) hg (Kd.R_ne HO_10.out BK256.out (by decide)));have n7_ := zA (yy0 (g := gb263) (o := .cells #[u264000, u264001] 48 (0, 0)) (by (with_reducible repeat (first|refine zJ ?_ _|refine zK ?_|refine zL ?_ _));exact BK263.out) hg (Kd.R_ne HO_10.out BK263.out (by decide)));have n8_ := zA ((by rw [hw];exact zI (HB.out) GB31.out : Below w.heap.size w w39));clear HO_6;clear HO_7;clear HO_10;clear HO_11;clear HO_264000;clear HO_264001;clear BK256;clear BK263;clear HB;have HO_6 := n0_;have HO_7 := n1_;have HO_10 := n2_;have HO_11 := n3_;have HO_264000 := n4_;have HO_264001 := n5_;have BK256 := n6_;have BK263 := n7_;have HB := n8_;clear n0_ n1_ n2_ n3_ n4_ n5_ n6_ n7_ n8_;clear hg hw hp_;have p273 : 0 ≤ (x12_3 : Int) := zE (by first|(with_reducible assumption)|assumption);have q273 : x12_3 < (x6_2.length : Int) := zE (by first|(with_reducible assumption)|assumption);obtain ⟨ad273, e273, hx273_0⟩ := Kd.at_bool (Kd.R_reads' HO_6.out).2.2 x12_3 p273 q273;(try rw [← Nbq25.out] at hx273_0);obtain rfl : ad270 = ad273 := (by injection e273);replace p273 := eq_true p273;replace q273 := eq_true q273;have p32 : 0 ≤ (x12_3 : Int) := zE (by first|(with_reducible assumption)|assumption);have q32 : x12_3 < (a0.size : Int) := zE (by first|(with_reducible assumption)|assumption);have hx32 := bt_at a0 x12_3;replace p32 := eq_true p32;replace q32 := eq_true q32;have p274 : 0 ≤ (x12_3 : Int) := zE (by first|(with_reducible assumption)|assumption);have q274 : x12_3 < (t260.length : Int) := zE (by first|(with_reducible assumption)|assumption);obtain ⟨ad274, e274, hx274_0⟩ := Kd.at_int (Kd.R_reads' HO_7.out).2.2 x12_3 p274 q274;obtain rfl : ad271 = ad274 := (by injection e274);replace p274 := eq_true p274;replace q274 := eq_true q274;have p35 : 0 ≤ (x12_3 : Int) := zE (by first|(with_reducible assumption)|assumption);have q35 : (x12_3 : Int) < ((x11_3.length : Int) : Int) := zE (by first|(with_reducible assumption)|assumption);obtain ⟨go35, co35, eo35, gb35, gl35, cl35, HG35⟩ := Kd.R_form HO_11.out (by omega);(first|cases eo35|(injection eo35 with ea_ en_ ec_;(first|subst ea_|(injection ea_ with ea_;subst ea_));subst ec_;clear en_));have GB35 := zA gb35;have GG35 := zA HG35;clear gb35 gl35 HG35;obtain ⟨hx35_0, hf35_0⟩ := Kd.R_celln false HO_11.out (x12_3 : Int) p35 q35;replace p35 := eq_true p35;replace q35 := eq_true q35;obtain ⟨hy40_, hz40_⟩ := Kd.R_celln false HO_11.out (x12_3 : Int) (zE (by first|(with_reducible assumption)|assumption)) (zE (by first|(with_reducible assumption)|assumption));have HP40 := Kd.R_putg HO_11.out (x12_3 : Int) ((rd t260 x12_3) == x9_2))|((with_reducible refine gate_store (t := 4) (p := 82) rfl ?_);refine store_event (t := 4) (p := 82) (v := ?vo_w41) (w1 := (w39.setCell ⟨go35, (x12_3 : Int).toNat, none⟩ (.bool ((rd t260 x12_3) == x9_2)))) ?hg ?ho ?hn ?hr ?_;(case ho => rfl);(case hg => rfl);(case hn => rfl);(case hr => first|(go_simp;done)|(go_simp;rfl));intro w41 hw;have hg : w39.grownBy w41 (some go35) := (by rw [hw];exact HP40.2);have hp_ : Kd.R Kd.bool 4 w41 w.heap.size (fun k_ => some k_ ≠ (.slice (some ad270) x6_2.length co36 : Value).ownBlock ∧ some k_ ≠ (.slice (some ⟨go31, 0, none⟩) x10_3.length co31 : Value).ownBlock) (.slice (some ⟨go35, 0, none⟩) x11_3.length co35) y275 := (by rw [hw, Ny275.out];exact HP40.1);clear HP40;have n0_ := zA (Kd.R_after (v := (.slice (some ⟨go35, 0, none⟩) x11_3.length co35)) (v1 := (.slice (some ⟨go35, 0, none⟩) x11_3.length co35)) (ok := (fun k_ => some k_ ≠ (.slice (some ⟨go31, 0, none⟩) x10_3.length co31 : Value).ownBlock)) (by (with_reducible repeat (first|apply yy1|apply yy2|apply yy3));exact Kd.R_mono HO_6.out (fun _ hk => ⟨hk.2, hk.1⟩)) hg (.inl rfl));have n1_ := zA (Kd.R_over' (v := (.slice (some ⟨go35, 0, none⟩) x11_3.length co35)) (by (with_reducible repeat (first|apply yy1|apply yy2|apply yy3));exact HO_7.out) (Kd.R_typed HO_11.out) (by decide) hg);have n2_ := zA (Kd.R_after (v := (.slice (some ⟨go35, 0, none⟩) x11_3.length co35)) (v1 := (.slice (some ⟨go35, 0, none⟩) x11_3.length co35)) (ok := (fun k_ => some k_ ≠ (.slice (some ad270) x6_2.length co36 : Value).ownBlock)) (by (with_reducible repeat (first|apply yy1|apply yy2|apply yy3));exact HO_10.out) hg (.inl rfl));have n3_ := zA (hp_);have n4_ := zA (Kd.S_over' (v := (.slice (some ⟨go35, 0, none⟩) x11_3.length co35)) (by (with_reducible repeat (first|apply yy4|apply yy5|apply yy6));exact HO_264000.out) (Kd.R_typed HO_11.out) (by decide) hg);have n5_ := zA (Kd.S_over' (v := (.slice (some ⟨go35, 0, none⟩) x11_3.length co35)) (by (with_reducible repeat (first|apply yy4|apply yy5|apply yy6));exact HO_264001.out) (Kd.R_typed HO_11.out) (by decide) hg);have n6_ := zA (yy0 (g := gb256) (o := .cells #[.slice none 0 0, .slice none 0 0] 48 (0, 0)) (by (with_reducible repeat (first|refine zJ ?_ _|refine zK ?_|refine zL ?_ _));exact BK256.out) hg (Kd.R_ne HO_11.out BK256.out (by decide)));have n7_ := zA (yy0 (g := gb263) (o := .cells #[u264000, u264001] 48 (0, 0)) (by (with_reducible repeat (first|refine zJ ?_ _|refine zK ?_|refine zL ?_ _));exact BK263.out) hg (Kd.R_ne HO_11.out BK263.out (by decide)));have n8_ := zA ((by rw [hw];exact zI (HB.out) GB35.out : Below w.heap.size w w41));clear HO_6;clear HO_7;clear HO_10;clear HO_11;clear HO_264000;clear HO_264001;clear BK256;clear BK263;clear HB;have HO_6 := n0_;have HO_7 := n1_;have HO_10 := n2_;have HO_11 := n3_;have HO_264000 := n4_;have HO_264001 := n5_;have BK256 := n6_;have BK263 := n7_;have HB := n8_;clear n0_ n1_ n2_ n3_ n4_ n5_ n6_ n7_ n8_;clear hg hw hp_))
                    go_roundg k3
                    case measure => have := HJ2.out;have := HK2.out;have := HK3.out;omega
                    case rel => exact ⟨(y272), (y275), (wrap64 (x12_3 + 1)), (by first|rfl|(simp;done)|(simp [*];done)), H', ⟨by have := HJ2.out;have := HK2.out;have := HK3.out;omega⟩, ⟨by (with_reducible repeat (first|apply yy1|apply yy2|apply yy3));exact HO_6.out⟩, ⟨by (with_reducible repeat (first|apply yy1|apply yy2|apply yy3));exact HO_7.out⟩, ⟨by (with_reducible repeat (first|apply yy1|apply yy2|apply yy3));exact HO_10.out⟩, ⟨by (with_reducible repeat (first|apply yy1|apply yy2|apply yy3));exact HO_11.out⟩, ⟨by (with_reducible repeat (first|apply yy4|apply yy5|apply yy6));exact HO_264000.out⟩, ⟨by (with_reducible repeat (first|apply yy4|apply yy5|apply yy6));exact HO_264001.out⟩, ⟨by (with_reducible repeat (first|refine zJ ?_ _|refine zK ?_|refine zL ?_ _));exact BK256.out⟩, ⟨by (with_reducible repeat (first|refine zJ ?_ _|refine zK ?_|refine zL ?_ _));exact BK263.out⟩, ⟨by repeat (first|(with_reducible first|exact HB.out|apply zG|apply zF|apply zH|refine zI ?_ GE256.out|refine zI ?_ GE263.out)|exact HB.out)⟩⟩
                   ·rw [if_neg c34] at H
                    exact absurd H (by simp)
                  ·rw [if_neg c33] at H
                   have c33b0 : ((bt a0 x12_3) == 44) = false := beq_eq_false_iff_ne.mpr c33
                   have c33b1 : ((bt a0 x12_3) != 44) = true := bne_iff_ne.mpr c33
                   by_cases c42 : x12_3 < (x11_3.length : Int)
                   ·rw [if_pos c42] at H
                    have c42b0 : decide (x12_3 < (x11_3.length : Int)) = true := zz1 c42
                    clear c42
                    obtain ⟨y276, hy276⟩ : ∃ y_ : List Bool, y_ = (x11_3.set (x12_3 : Int).toNat false) := ⟨_, rfl⟩
                    replace H : (quarryref10_Build.l1 k3 a0 a1 x6_2 t260 x9_2 y272 y276 (wrap64 (x12_3 + 1)) x264000_2 x264001_2) = some (r1, r2, r3) := by first|(rw [hy276];with_reducible exact H)|(have H2_ := (zz3 _ _).symm.trans H;rw [hy276];with_reducible exact H2_)|(have H2_ := (zz3 _ _).symm.trans H;with_reducible exact H2_)|with_reducible exact H|(rw [hy276];exact H)|exact H
                    have Ny276 := zA hy276
                    clear hy276
                    have H' := zA H
                    clear H
                    obtain ⟨Ao44, co44, eo44⟩ := Kd.R_slice HO_6.out
                    subst eo44
                    have p270 : 0 ≤ (x12_3 : Int) := zE (by first|(with_reducible assumption)|assumption)
                    have q270 : x12_3 < (x6_2.length : Int) := zE (by first|(with_reducible assumption)|assumption)
                    obtain ⟨ad270, e270, hx270_0⟩ := Kd.at_bool (Kd.R_reads' HO_6.out).2.2 x12_3 p270 q270
                    (try rw [← Nbq25.out] at hx270_0)
                    cases e270
                    replace p270 := eq_true p270
                    replace q270 := eq_true q270
                    have p27 : 0 ≤ (x12_3 : Int) := zE (by first|(with_reducible assumption)|assumption)
                    have q27 : x12_3 < (a0.size : Int) := zE (by first|(with_reducible assumption)|assumption)
                    have hx27 := bt_at a0 x12_3
                    replace p27 := eq_true p27
                    replace q27 := eq_true q27
                    obtain ⟨Ao45, co45, eo45⟩ := Kd.R_slice HO_7.out
                    subst eo45
                    have p271 : 0 ≤ (x12_3 : Int) := zE (by first|(with_reducible assumption)|assumption)
                    have q271 : x12_3 < (t260.length : Int) := zE (by first|(with_reducible assumption)|assumption)
                    obtain ⟨ad271, e271, hx271_0⟩ := Kd.at_int (Kd.R_reads' HO_7.out).2.2 x12_3 p271 q271
                    cases e271
                    replace p271 := eq_true p271
                    replace q271 := eq_true q271
                    have p31 : 0 ≤ (x12_3 : Int) := zE (by first|(with_reducible assumption)|assumption)
                    have q31 : (x12_3 : Int) < ((x10_3.length : Int) : Int) := zE (by first|(with_reducible assumption)|assumption)
                    obtain ⟨go31, co31, eo31, gb31, gl31, cl31, HG31⟩ := Kd.R_form HO_10.out (by omega)
                    (first|cases eo31|(injection eo31 with ea_ en_ ec_;(first|subst ea_|(injection ea_ with ea_;subst ea_));subst ec_;clear en_))
                    have GB31 := zA gb31
                    have GG31 := zA HG31
                    clear gb31 gl31 HG31
                    obtain ⟨hx31_0, hf31_0⟩ := Kd.R_celln false HO_10.out (x12_3 : Int) p31 q31
                    replace p31 := eq_true p31
                    replace q31 := eq_true q31
                    have HP46 := Kd.R_putg HO_10.out (x12_3 : Int) ((rd t260 x12_3) == x9_2)
                    go_wp2_with (first|((with_reducible refine gate_store (t := 4) (p := 61) rfl ?_);refine store_event (t := 4) (p := 61) (v := ?vo_w47) (w1 := (wr.setCell ⟨go31, (x12_3 : Int).toNat, none⟩ (.bool ((rd t260 x12_3) == x9_2)))) ?hg ?ho ?hn ?hr ?_;(case ho => rfl);(case hg => rfl);(case hn => rfl);(case hr => first|(go_simp;done)|(go_simp;rfl));intro w47 hw;have hg : wr.grownBy w47 (some go31) := (by rw [hw];exact HP46.2);have hp_ : Kd.R Kd.bool 4 w47 w.heap.size (fun k_ => some k_ ≠ (.slice (some ad270) x6_2.length co44 : Value).ownBlock ∧ some k_ ≠ (v268 : Value).ownBlock) (.slice (some ⟨go31, 0, none⟩) x10_3.length co31) y272 := (by rw [hw, Ny272.out];exact HP46.1);clear HP46;have n0_ := zA (Kd.R_after (v := (.slice (some ⟨go31, 0, none⟩) x10_3.length co31)) (v1 := (.slice (some ⟨go31, 0, none⟩) x10_3.length co31)) (ok := (fun k_ => some k_ ≠ (v268 : Value).ownBlock)) (by (with_reducible repeat (first|apply yy1|apply yy2|apply yy3));exact Kd.R_mono HO_6.out (fun _ hk => ⟨hk.2, hk.1⟩)) hg (.inl rfl));have n1_ := zA (Kd.R_over' (v := (.slice (some ⟨go31, 0, none⟩) x10_3.length co31)) (by (with_reducible repeat (first|apply yy1|apply yy2|apply yy3));exact HO_7.out) (Kd.R_typed HO_10.out) (by decide) hg);have n2_ := zA (hp_);have n3_ := zA (Kd.R_after (v := (.slice (some ⟨go31, 0, none⟩) x10_3.length co31)) (v1 := (.slice (some ⟨go31, 0, none⟩) x10_3.length co31)) (ok := (fun k_ => some k_ ≠ (.slice (some ad270) x6_2.length co44 : Value).ownBlock)) (by (with_reducible repeat (first|apply yy1|apply yy2|apply yy3));exact HO_11.out) hg (.inl rfl));have n4_ := zA (Kd.S_over' (v := (.slice (some ⟨go31, 0, none⟩) x10_3.length co31)) (by (with_reducible repeat (first|apply yy4|apply yy5|apply yy6));exact HO_264000.out) (Kd.R_typed HO_10.out) (by decide) hg);have n5_ := zA (Kd.S_over' (v := (.slice (some ⟨go31, 0, none⟩) x10_3.length co31)) (by (with_reducible repeat (first|apply yy4|apply yy5|apply yy6));exact HO_264001.out) (Kd.R_typed HO_10.out) (by decide) hg);have n6_ := zA (yy0 (g := gb256) (o := .cells #[.slice none 0 0, .slice none 0 0] 48 (0, 0)) (by (with_reducible repeat (first|refine zJ ?_ _|refine zK ?_|refine zL ?_ _));exact BK256.out) hg (Kd.R_ne HO_10.out BK256.out (by decide)));have n7_ := zA (yy0 (g := gb263) (o := .cells #[u264000, u264001] 48 (0, 0)) (by (with_reducible repeat (first|refine zJ ?_ _|refine zK ?_|refine zL ?_ _));exact BK263.out) hg (Kd.R_ne HO_10.out BK263.out (by decide)));have n8_ := zA ((by rw [hw];exact zI (HB.out) GB31.out : Below w.heap.size w w47));clear HO_6;clear HO_7;clear HO_10;clear HO_11;clear HO_264000;clear HO_264001;clear BK256;clear BK263;clear HB;have HO_6 := n0_;have HO_7 := n1_;have HO_10 := n2_;have HO_11 := n3_;have HO_264000 := n4_;have HO_264001 := n5_;have BK256 := n6_;have BK263 := n7_;have HB := n8_;clear n0_ n1_ n2_ n3_ n4_ n5_ n6_ n7_ n8_;clear hg hw hp_;have p273 : 0 ≤ (x12_3 : Int) := zE (by first|(with_reducible assumption)|assumption);have q273 : x12_3 < (x6_2.length : Int) := zE (by first|(with_reducible assumption)|assumption);obtain ⟨ad273, e273, hx273_0⟩ := Kd.at_bool (Kd.R_reads' HO_6.out).2.2 x12_3 p273 q273;(try rw [← Nbq25.out] at hx273_0);obtain rfl : ad270 = ad273 := (by injection e273);replace p273 := eq_true p273;replace q273 := eq_true q273;have p32 : 0 ≤ (x12_3 : Int) := zE (by first|(with_reducible assumption)|assumption);have q32 : x12_3 < (a0.size : Int) := zE (by first|(with_reducible assumption)|assumption);have hx32 := bt_at a0 x12_3;replace p32 := eq_true p32;replace q32 := eq_true q32;have p43 : 0 ≤ (x12_3 : Int) := zE (by first|(with_reducible assumption)|assumption);have q43 : (x12_3 : Int) < ((x11_3.length : Int) : Int) := zE (by first|(with_reducible assumption)|assumption);obtain ⟨go43, co43, eo43, gb43, gl43, cl43, HG43⟩ := Kd.R_form HO_11.out (by omega);(first|cases eo43|(injection eo43 with ea_ en_ ec_;(first|subst ea_|(injection ea_ with ea_;subst ea_));subst ec_;clear en_));have GB43 := zA gb43;have GG43 := zA HG43;clear gb43 gl43 HG43;obtain ⟨hx43_0, hf43_0⟩ := Kd.R_celln false HO_11.out (x12_3 : Int) p43 q43;replace p43 := eq_true p43;replace q43 := eq_true q43;obtain ⟨hy48_, hz48_⟩ := Kd.R_celln false HO_11.out (x12_3 : Int) (zE (by first|(with_reducible assumption)|assumption)) (zE (by first|(with_reducible assumption)|assumption));have HP48 := Kd.R_putg HO_11.out (x12_3 : Int) false)|((with_reducible refine gate_store (t := 4) (p := 82) rfl ?_);refine store_event (t := 4) (p := 82) (v := ?vo_w49) (w1 := (w47.setCell ⟨go43, (x12_3 : Int).toNat, none⟩ (.bool false))) ?hg ?ho ?hn ?hr ?_;(case ho => rfl);(case hg => rfl);(case hn => rfl);(case hr => first|(go_simp;done)|(go_simp;rfl));intro w49 hw;have hg : w47.grownBy w49 (some go43) := (by rw [hw];exact HP48.2);have hp_ : Kd.R Kd.bool 4 w49 w.heap.size (fun k_ => some k_ ≠ (.slice (some ad270) x6_2.length co44 : Value).ownBlock ∧ some k_ ≠ (.slice (some ⟨go31, 0, none⟩) x10_3.length co31 : Value).ownBlock) (.slice (some ⟨go43, 0, none⟩) x11_3.length co43) y276 := (by rw [hw, Ny276.out];exact HP48.1);clear HP48;have n0_ := zA (Kd.R_after (v := (.slice (some ⟨go43, 0, none⟩) x11_3.length co43)) (v1 := (.slice (some ⟨go43, 0, none⟩) x11_3.length co43)) (ok := (fun k_ => some k_ ≠ (.slice (some ⟨go31, 0, none⟩) x10_3.length co31 : Value).ownBlock)) (by (with_reducible repeat (first|apply yy1|apply yy2|apply yy3));exact Kd.R_mono HO_6.out (fun _ hk => ⟨hk.2, hk.1⟩)) hg (.inl rfl));have n1_ := zA (Kd.R_over' (v := (.slice (some ⟨go43, 0, none⟩) x11_3.length co43)) (by (with_reducible repeat (first|apply yy1|apply yy2|apply yy3));exact HO_7.out) (Kd.R_typed HO_11.out) (by decide) hg);have n2_ := zA (Kd.R_after (v := (.slice (some ⟨go43, 0, none⟩) x11_3.length co43)) (v1 := (.slice (some ⟨go43, 0, none⟩) x11_3.length co43)) (ok := (fun k_ => some k_ ≠ (.slice (some ad270) x6_2.length co44 : Value).ownBlock)) (by (with_reducible repeat (first|apply yy1|apply yy2|apply yy3));exact HO_10.out) hg (.inl rfl));have n3_ := zA (hp_);have n4_ := zA (Kd.S_over' (v := (.slice (some ⟨go43, 0, none⟩) x11_3.length co43)) (by (with_reducible repeat (first|apply yy4|apply yy5|apply yy6));exact HO_264000.out) (Kd.R_typed HO_11.out) (by decide) hg);have n5_ := zA (Kd.S_over' (v := (.slice (some ⟨go43, 0, none⟩) x11_3.length co43)) (by (with_reducible repeat (first|apply yy4|apply yy5|apply yy6));exact HO_264001.out) (Kd.R_typed HO_11.out) (by decide) hg);have n6_ := zA (yy0 (g := gb256) (o := .cells #[.slice none 0 0, .slice none 0 0] 48 (0, 0)) (by (with_reducible repeat (first|refine zJ ?_ _|refine zK ?_|refine zL ?_ _));exact BK256.out) hg (Kd.R_ne HO_11.out BK256.out (by decide)));have n7_ := zA (yy0 (g := gb263) (o := .cells #[u264000, u264001] 48 (0, 0)) (by (with_reducible repeat (first|refine zJ ?_ _|refine zK ?_|refine zL ?_ _));exact BK263.out) hg (Kd.R_ne HO_11.out BK263.out (by decide)));have n8_ := zA ((by rw [hw];exact zI (HB.out) GB43.out : Below w.heap.size w w49));clear HO_6;clear HO_7;clear HO_10;clear HO_11;clear HO_264000;clear HO_264001;clear BK256;clear BK263;clear HB;have HO_6 := n0_;have HO_7 := n1_;have HO_10 := n2_;have HO_11 := n3_;have HO_264000 := n4_;have HO_264001 := n5_;have BK256 := n6_;have BK263 := n7_;have HB := n8_;clear n0_ n1_ n2_ n3_ n4_ n5_ n6_ n7_ n8_;clear hg hw hp_))
                    go_roundg k3
                    case measure => have := HJ2.out;have := HK2.out;have := HK3.out;omega
                    case rel => exact ⟨(y272), (y276), (wrap64 (x12_3 + 1)), (by first|rfl|(simp;done)|(simp [*];done)), H', ⟨by have := HJ2.out;have := HK2.out;have := HK3.out;omega⟩, ⟨by (with_reducible repeat (first|apply yy1|apply yy2|apply yy3));exact HO_6.out⟩, ⟨by (with_reducible repeat (first|apply yy1|apply yy2|apply yy3));exact HO_7.out⟩, ⟨by (with_reducible repeat (first|apply yy1|apply yy2|apply yy3));exact HO_10.out⟩, ⟨by (with_reducible repeat (first|apply yy1|apply yy2|apply yy3));exact HO_11.out⟩, ⟨by (with_reducible repeat (first|apply yy4|apply yy5|apply yy6));exact HO_264000.out⟩, ⟨by (with_reducible repeat (first|apply yy4|apply yy5|apply yy6));exact HO_264001.out⟩, ⟨by (with_reducible repeat (first|refine zJ ?_ _|refine zK ?_|refine zL ?_ _));exact BK256.out⟩, ⟨by (with_reducible repeat (first|refine zJ ?_ _|refine zK ?_|refine zL ?_ _));exact BK263.out⟩, ⟨by repeat (first|(with_reducible first|exact HB.out|apply zG|apply zF|apply zH|refine zI ?_ GE256.out|refine zI ?_ GE263.out)|exact HB.out)⟩⟩
                   ·rw [if_neg c42] at H
                    exact absurd H (by simp)
                 ·rw [if_neg c30] at H
                  exact absurd H (by simp)
                ·rw [if_neg c29] at H
                 exact absurd H (by simp)
               ·rw [if_neg c28] at H
                have c28b0 : ((bt a0 x12_3) == 58) = false := beq_eq_false_iff_ne.mpr c28
                have c28b1 : ((bt a0 x12_3) != 58) = true := bne_iff_ne.mpr c28
                by_cases c50 : x12_3 < (x10_3.length : Int)
                ·rw [if_pos c50] at H
                 have c50b0 : decide (x12_3 < (x10_3.length : Int)) = true := zz1 c50
                 clear c50
                 obtain ⟨y277, hy277⟩ : ∃ y_ : List Bool, y_ = (x10_3.set (x12_3 : Int).toNat false) := ⟨_, rfl⟩
                 replace H : (if (bt a0 x12_3) = 44 then (if x12_3 < (t260.length : Int) then (if x12_3 < (x11_3.length : Int) then (quarryref10_Build.l1 k3 a0 a1 x6_2 t260 x9_2 y277 (x11_3.set (x12_3 : Int).toNat ((rd t260 x12_3) == x9_2)) (wrap64 (x12_3 + 1)) x264000_2 x264001_2) else (none)) else (none)) else (if x12_3 < (x11_3.length : Int) then (quarryref10_Build.l1 k3 a0 a1 x6_2 t260 x9_2 y277 (x11_3.set (x12_3 : Int).toNat false) (wrap64 (x12_3 + 1)) x264000_2 x264001_2) else (none))) = some (r1, r2, r3) := by first|(rw [hy277];with_reducible exact H)|(have H2_ := (zz3 _ _).symm.trans H;rw [hy277];with_reducible exact H2_)|(have H2_ := (zz3 _ _).symm.trans H;with_reducible exact H2_)|with_reducible exact H|(rw [hy277];exact H)|exact H
                 have Ny277 := zA hy277
                 clear hy277
                 by_cases c53 : (bt a0 x12_3) = 44
                 ·rw [if_pos c53] at H
                  have c53b0 : ((bt a0 x12_3) == 44) = true := beq_iff_eq.mpr c53
                  have c53b1 : ((bt a0 x12_3) != 44) = false := bne_eq_false_iff_eq.mpr c53
                  clear c53
                  by_cases c54 : x12_3 < (t260.length : Int)
                  ·rw [if_pos c54] at H
                   have c54b0 : decide (x12_3 < (t260.length : Int)) = true := zz1 c54
                   clear c54
                   by_cases c55 : x12_3 < (x11_3.length : Int)
                   ·rw [if_pos c55] at H
                    have c55b0 : decide (x12_3 < (x11_3.length : Int)) = true := zz1 c55
                    clear c55
                    obtain ⟨y280, hy280⟩ : ∃ y_ : List Bool, y_ = (x11_3.set (x12_3 : Int).toNat ((rd t260 x12_3) == x9_2)) := ⟨_, rfl⟩
                    replace H : (quarryref10_Build.l1 k3 a0 a1 x6_2 t260 x9_2 y277 y280 (wrap64 (x12_3 + 1)) x264000_2 x264001_2) = some (r1, r2, r3) := by first|(rw [hy280];with_reducible exact H)|(have H2_ := (zz3 _ _).symm.trans H;rw [hy280];with_reducible exact H2_)|(have H2_ := (zz3 _ _).symm.trans H;with_reducible exact H2_)|with_reducible exact H|(rw [hy280];exact H)|exact H
                    have Ny280 := zA hy280
                    clear hy280
                    have H' := zA H
                    clear H
                    obtain ⟨Ao57, co57, eo57⟩ := Kd.R_slice HO_6.out
                    subst eo57
                    have p270 : 0 ≤ (x12_3 : Int) := zE (by first|(with_reducible assumption)|assumption)
                    have q270 : x12_3 < (x6_2.length : Int) := zE (by first|(with_reducible assumption)|assumption)
                    obtain ⟨ad270, e270, hx270_0⟩ := Kd.at_bool (Kd.R_reads' HO_6.out).2.2 x12_3 p270 q270
                    (try rw [← Nbq25.out] at hx270_0)
                    cases e270
                    replace p270 := eq_true p270
                    replace q270 := eq_true q270
                    have p27 : 0 ≤ (x12_3 : Int) := zE (by first|(with_reducible assumption)|assumption)
                    have q27 : x12_3 < (a0.size : Int) := zE (by first|(with_reducible assumption)|assumption)
                    have hx27 := bt_at a0 x12_3
                    replace p27 := eq_true p27
                    replace q27 := eq_true q27
                    have p51 : 0 ≤ (x12_3 : Int) := zE (by first|(with_reducible assumption)|assumption)
                    have q51 : (x12_3 : Int) < ((x10_3.length : Int) : Int) := zE (by first|(with_reducible assumption)|assumption)
                    obtain ⟨go51, co51, eo51, gb51, gl51, cl51, HG51⟩ := Kd.R_form HO_10.out (by omega)
                    (first|cases eo51|(injection eo51 with ea_ en_ ec_;(first|subst ea_|(injection ea_ with ea_;subst ea_));subst ec_;clear en_))
                    have GB51 := zA gb51
                    have GG51 := zA HG51
                    clear gb51 gl51 HG51
                    obtain ⟨hx51_0, hf51_0⟩ := Kd.R_celln false HO_10.out (x12_3 : Int) p51 q51
                    replace p51 := eq_true p51
                    replace q51 := eq_true q51
                    have HP58 := Kd.R_putg HO_10.out (x12_3 : Int) false
                    go_wp2_with (first|((with_reducible refine gate_store (t := 4) (p := 61) rfl ?_);refine store_event (t := 4) (p := 61) (v := ?vo_w59) (w1 := (wr.setCell ⟨go51, (x12_3 : Int).toNat, none⟩ (.bool false))) ?hg ?ho ?hn ?hr ?_;(case ho => rfl);(case hg => rfl);(case hn => rfl);(case hr => first|(go_simp;done)|(go_simp;rfl));intro w59 hw;have hg : wr.grownBy w59 (some go51) := (by rw [hw];exact HP58.2);have hp_ : Kd.R Kd.bool 4 w59 w.heap.size (fun k_ => some k_ ≠ (.slice (some ad270) x6_2.length co57 : Value).ownBlock ∧ some k_ ≠ (v268 : Value).ownBlock) (.slice (some ⟨go51, 0, none⟩) x10_3.length co51) y277 := (by rw [hw, Ny277.out];exact HP58.1);clear HP58;have n0_ := zA (Kd.R_after (v := (.slice (some ⟨go51, 0, none⟩) x10_3.length co51)) (v1 := (.slice (some ⟨go51, 0, none⟩) x10_3.length co51)) (ok := (fun k_ => some k_ ≠ (v268 : Value).ownBlock)) (by (with_reducible repeat (first|apply yy1|apply yy2|apply yy3));exact Kd.R_mono HO_6.out (fun _ hk => ⟨hk.2, hk.1⟩)) hg (.inl rfl));have n1_ := zA (Kd.R_over' (v := (.slice (some ⟨go51, 0, none⟩) x10_3.length co51)) (by (with_reducible repeat (first|apply yy1|apply yy2|apply yy3));exact HO_7.out) (Kd.R_typed HO_10.out) (by decide) hg);have n2_ := zA (hp_);have n3_ := zA (Kd.R_after (v := (.slice (some ⟨go51, 0, none⟩) x10_3.length co51)) (v1 := (.slice (some ⟨go51, 0, none⟩) x10_3.length co51)) (ok := (fun k_ => some k_ ≠ (.slice (some ad270) x6_2.length co57 : Value).ownBlock)) (by (with_reducible repeat (first|apply yy1|apply yy2|apply yy3));exact HO_11.out) hg (.inl rfl));have n4_ := zA (Kd.S_over' (v := (.slice (some ⟨go51, 0, none⟩) x10_3.length co51)) (by (with_reducible repeat (first|apply yy4|apply yy5|apply yy6));exact HO_264000.out) (Kd.R_typed HO_10.out) (by decide) hg);have n5_ := zA (Kd.S_over' (v := (.slice (some ⟨go51, 0, none⟩) x10_3.length co51)) (by (with_reducible repeat (first|apply yy4|apply yy5|apply yy6));exact HO_264001.out) (Kd.R_typed HO_10.out) (by decide) hg);have n6_ := zA (yy0 (g := gb256) (o := .cells #[.slice none 0 0, .slice none 0 0] 48 (0, 0)) (by (with_reducible repeat (first|refine zJ ?_ _|refine zK ?_|refine zL ?_ _));exact BK256.out) hg (Kd.R_ne HO_10.out BK256.out (by decide)));have n7_ := zA (yy0 (g := gb263) (o := .cells #[u264000, u264001] 48 (0, 0)) (by (with_reducible repeat (first|refine zJ ?_ _|refine zK ?_|refine zL ?_ _));exact BK263.out) hg (Kd.R_ne HO_10.out BK263.out (by decide)));have n8_ := zA ((by rw [hw];exact zI (HB.out) GB51.out : Below w.heap.size w w59));clear HO_6;clear HO_7;clear HO_10;clear HO_11;clear HO_264000;clear HO_264001;clear BK256;clear BK263;clear HB;have HO_6 := n0_;have HO_7 := n1_;have HO_10 := n2_;have HO_11 := n3_;have HO_264000 := n4_;have HO_264001 := n5_;have BK256 := n6_;have BK263 := n7_;have HB := n8_;clear n0_ n1_ n2_ n3_ n4_ n5_ n6_ n7_ n8_;clear hg hw hp_;have p278 : 0 ≤ (x12_3 : Int) := zE (by first|(with_reducible assumption)|assumption);have q278 : x12_3 < (x6_2.length : Int) := zE (by first|(with_reducible assumption)|assumption);obtain ⟨ad278, e278, hx278_0⟩ := Kd.at_bool (Kd.R_reads' HO_6.out).2.2 x12_3 p278 q278;(try rw [← Nbq25.out] at hx278_0);obtain rfl : ad270 = ad278 := (by injection e278);replace p278 := eq_true p278;replace q278 := eq_true q278;have p52 : 0 ≤ (x12_3 : Int) := zE (by first|(with_reducible assumption)|assumption);have q52 : x12_3 < (a0.size : Int) := zE (by first|(with_reducible assumption)|assumption);have hx52 := bt_at a0 x12_3;replace p52 := eq_true p52;replace q52 := eq_true q52;obtain ⟨Ao60, co60, eo60⟩ := Kd.R_slice HO_7.out;subst eo60;have p279 : 0 ≤ (x12_3 : Int) := zE (by first|(with_reducible assumption)|assumption);have q279 : x12_3 < (t260.length : Int) := zE (by first|(with_reducible assumption)|assumption);obtain ⟨ad279, e279, hx279_0⟩ := Kd.at_int (Kd.R_reads' HO_7.out).2.2 x12_3 p279 q279;cases e279;replace p279 := eq_true p279;replace q279 := eq_true q279;have p56 : 0 ≤ (x12_3 : Int) := zE (by first|(with_reducible assumption)|assumption);have q56 : (x12_3 : Int) < ((x11_3.length : Int) : Int) := zE (by first|(with_reducible assumption)|assumption);obtain ⟨go56, co56, eo56, gb56, gl56, cl56, HG56⟩ := Kd.R_form HO_11.out (by omega);(first|cases eo56|(injection eo56 with ea_ en_ ec_;(first|subst ea_|(injection ea_ with ea_;subst ea_));subst ec_;clear en_));have GB56 := zA gb56;have GG56 := zA HG56;clear gb56 gl56 HG56;obtain ⟨hx56_0, hf56_0⟩ := Kd.R_celln false HO_11.out (x12_3 : Int) p56 q56;replace p56 := eq_true p56;replace q56 := eq_true q56;obtain ⟨hy61_, hz61_⟩ := Kd.R_celln false HO_11.out (x12_3 : Int) (zE (by first|(with_reducible assumption)|assumption)) (zE (by first|(with_reducible assumption)|assumption));have HP61 := Kd.R_putg HO_11.out (x12_3 : Int) ((rd t260 x12_3) == x9_2))|((with_reducible refine gate_store (t := 4) (p := 82) rfl ?_);refine store_event (t := 4) (p := 82) (v := ?vo_w62) (w1 := (w59.setCell ⟨go56, (x12_3 : Int).toNat, none⟩ (.bool ((rd t260 x12_3) == x9_2)))) ?hg ?ho ?hn ?hr ?_;(case ho => rfl);(case hg => rfl);(case hn => rfl);(case hr => first|(go_simp;done)|(go_simp;rfl));intro w62 hw;have hg : w59.grownBy w62 (some go56) := (by rw [hw];exact HP61.2);have hp_ : Kd.R Kd.bool 4 w62 w.heap.size (fun k_ => some k_ ≠ (.slice (some ad270) x6_2.length co57 : Value).ownBlock ∧ some k_ ≠ (.slice (some ⟨go51, 0, none⟩) x10_3.length co51 : Value).ownBlock) (.slice (some ⟨go56, 0, none⟩) x11_3.length co56) y280 := (by rw [hw, Ny280.out];exact HP61.1);clear HP61;have n0_ := zA (Kd.R_after (v := (.slice (some ⟨go56, 0, none⟩) x11_3.length co56)) (v1 := (.slice (some ⟨go56, 0, none⟩) x11_3.length co56)) (ok := (fun k_ => some k_ ≠ (.slice (some ⟨go51, 0, none⟩) x10_3.length co51 : Value).ownBlock)) (by (with_reducible repeat (first|apply yy1|apply yy2|apply yy3));exact Kd.R_mono HO_6.out (fun _ hk => ⟨hk.2, hk.1⟩)) hg (.inl rfl));have n1_ := zA (Kd.R_over' (v := (.slice (some ⟨go56, 0, none⟩) x11_3.length co56)) (by (with_reducible repeat (first|apply yy1|apply yy2|apply yy3));exact HO_7.out) (Kd.R_typed HO_11.out) (by decide) hg);have n2_ := zA (Kd.R_after (v := (.slice (some ⟨go56, 0, none⟩) x11_3.length co56)) (v1 := (.slice (some ⟨go56, 0, none⟩) x11_3.length co56)) (ok := (fun k_ => some k_ ≠ (.slice (some ad270) x6_2.length co57 : Value).ownBlock)) (by (with_reducible repeat (first|apply yy1|apply yy2|apply yy3));exact HO_10.out) hg (.inl rfl));have n3_ := zA (hp_);have n4_ := zA (Kd.S_over' (v := (.slice (some ⟨go56, 0, none⟩) x11_3.length co56)) (by (with_reducible repeat (first|apply yy4|apply yy5|apply yy6));exact HO_264000.out) (Kd.R_typed HO_11.out) (by decide) hg);have n5_ := zA (Kd.S_over' (v := (.slice (some ⟨go56, 0, none⟩) x11_3.length co56)) (by (with_reducible repeat (first|apply yy4|apply yy5|apply yy6));exact HO_264001.out) (Kd.R_typed HO_11.out) (by decide) hg);have n6_ := zA (yy0 (g := gb256) (o := .cells #[.slice none 0 0, .slice none 0 0] 48 (0, 0)) (by (with_reducible repeat (first|refine zJ ?_ _|refine zK ?_|refine zL ?_ _));exact BK256.out) hg (Kd.R_ne HO_11.out BK256.out (by decide)));have n7_ := zA (yy0 (g := gb263) (o := .cells #[u264000, u264001] 48 (0, 0)) (by (with_reducible repeat (first|refine zJ ?_ _|refine zK ?_|refine zL ?_ _));exact BK263.out) hg (Kd.R_ne HO_11.out BK263.out (by decide)));have n8_ := zA ((by rw [hw];exact zI (HB.out) GB56.out : Below w.heap.size w w62));clear HO_6;clear HO_7;clear HO_10;clear HO_11;clear HO_264000;clear HO_264001;clear BK256;clear BK263;clear HB;have HO_6 := n0_;have HO_7 := n1_;have HO_10 := n2_;have HO_11 := n3_;have HO_264000 := n4_;have HO_264001 := n5_;have BK256 := n6_;have BK263 := n7_;have HB := n8_;clear n0_ n1_ n2_ n3_ n4_ n5_ n6_ n7_ n8_;clear hg hw hp_))
                    go_roundg k3
                    case measure => have := HJ2.out;have := HK2.out;have := HK3.out;omega
                    case rel => exact ⟨(y277), (y280), (wrap64 (x12_3 + 1)), (by first|rfl|(simp;done)|(simp [*];done)), H', ⟨by have := HJ2.out;have := HK2.out;have := HK3.out;omega⟩, ⟨by (with_reducible repeat (first|apply yy1|apply yy2|apply yy3));exact HO_6.out⟩, ⟨by (with_reducible repeat (first|apply yy1|apply yy2|apply yy3));exact HO_7.out⟩, ⟨by (with_reducible repeat (first|apply yy1|apply yy2|apply yy3));exact HO_10.out⟩, ⟨by (with_reducible repeat (first|apply yy1|apply yy2|apply yy3));exact HO_11.out⟩, ⟨by (with_reducible repeat (first|apply yy4|apply yy5|apply yy6));exact HO_264000.out⟩, ⟨by (with_reducible repeat (first|apply yy4|apply yy5|apply yy6));exact HO_264001.out⟩, ⟨by (with_reducible repeat (first|refine zJ ?_ _|refine zK ?_|refine zL ?_ _));exact BK256.out⟩, ⟨by (with_reducible repeat (first|refine zJ ?_ _|refine zK ?_|refine zL ?_ _));exact BK263.out⟩, ⟨by repeat (first|(with_reducible first|exact HB.out|apply zG|apply zF|apply zH|refine zI ?_ GE256.out|refine zI ?_ GE263.out)|exact HB.out)⟩⟩
                   ·rw [if_neg c55] at H
                    exact absurd H (by simp)
                  ·rw [if_neg c54] at H
                   exact absurd H (by simp)
                 ·rw [if_neg c53] at H
                  have c53b0 : ((bt a0 x12_3) == 44) = false := beq_eq_false_iff_ne.mpr c53
                  have c53b1 : ((bt a0 x12_3) != 44) = true := bne_iff_ne.mpr c53
                  by_cases c63 : x12_3 < (x11_3.length : Int)
                  ·rw [if_pos c63] at H
                   have c63b0 : decide (x12_3 < (x11_3.length : Int)) = true := zz1 c63
                   clear c63
                   obtain ⟨y281, hy281⟩ : ∃ y_ : List Bool, y_ = (x11_3.set (x12_3 : Int).toNat false) := ⟨_, rfl⟩
                   replace H : (quarryref10_Build.l1 k3 a0 a1 x6_2 t260 x9_2 y277 y281 (wrap64 (x12_3 + 1)) x264000_2 x264001_2) = some (r1, r2, r3) := by first|(rw [hy281];with_reducible exact H)|(have H2_ := (zz3 _ _).symm.trans H;rw [hy281];with_reducible exact H2_)|(have H2_ := (zz3 _ _).symm.trans H;with_reducible exact H2_)|with_reducible exact H|(rw [hy281];exact H)|exact H
                   have Ny281 := zA hy281
                   clear hy281
                   have H' := zA H
                   clear H
                   obtain ⟨Ao65, co65, eo65⟩ := Kd.R_slice HO_6.out
                   subst eo65
                   have p270 : 0 ≤ (x12_3 : Int) := zE (by first|(with_reducible assumption)|assumption)
                   have q270 : x12_3 < (x6_2.length : Int) := zE (by first|(with_reducible assumption)|assumption)
                   obtain ⟨ad270, e270, hx270_0⟩ := Kd.at_bool (Kd.R_reads' HO_6.out).2.2 x12_3 p270 q270
                   (try rw [← Nbq25.out] at hx270_0)
                   cases e270
                   replace p270 := eq_true p270
                   replace q270 := eq_true q270
                   have p27 : 0 ≤ (x12_3 : Int) := zE (by first|(with_reducible assumption)|assumption)
                   have q27 : x12_3 < (a0.size : Int) := zE (by first|(with_reducible assumption)|assumption)
                   have hx27 := bt_at a0 x12_3
                   replace p27 := eq_true p27
                   replace q27 := eq_true q27
                   have p51 : 0 ≤ (x12_3 : Int) := zE (by first|(with_reducible assumption)|assumption)
                   have q51 : (x12_3 : Int) < ((x10_3.length : Int) : Int) := zE (by first|(with_reducible assumption)|assumption)
                   obtain ⟨go51, co51, eo51, gb51, gl51, cl51, HG51⟩ := Kd.R_form HO_10.out (by omega)
                   (first|cases eo51|(injection eo51 with ea_ en_ ec_;(first|subst ea_|(injection ea_ with ea_;subst ea_));subst ec_;clear en_))
                   have GB51 := zA gb51
                   have GG51 := zA HG51
                   clear gb51 gl51 HG51
                   obtain ⟨hx51_0, hf51_0⟩ := Kd.R_celln false HO_10.out (x12_3 : Int) p51 q51
                   replace p51 := eq_true p51
                   replace q51 := eq_true q51
                   have HP66 := Kd.R_putg HO_10.out (x12_3 : Int) false
                   go_wp2_with (first|((with_reducible refine gate_store (t := 4) (p := 61) rfl ?_);refine store_event (t := 4) (p := 61) (v := ?vo_w67) (w1 := (wr.setCell ⟨go51, (x12_3 : Int).toNat, none⟩ (.bool false))) ?hg ?ho ?hn ?hr ?_;(case ho => rfl);(case hg => rfl);(case hn => rfl);(case hr => first|(go_simp;done)|(go_simp;rfl));intro w67 hw;have hg : wr.grownBy w67 (some go51) := (by rw [hw];exact HP66.2);have hp_ : Kd.R Kd.bool 4 w67 w.heap.size (fun k_ => some k_ ≠ (.slice (some ad270) x6_2.length co65 : Value).ownBlock ∧ some k_ ≠ (v268 : Value).ownBlock) (.slice (some ⟨go51, 0, none⟩) x10_3.length co51) y277 := (by rw [hw, Ny277.out];exact HP66.1);clear HP66;have n0_ := zA (Kd.R_after (v := (.slice (some ⟨go51, 0, none⟩) x10_3.length co51)) (v1 := (.slice (some ⟨go51, 0, none⟩) x10_3.length co51)) (ok := (fun k_ => some k_ ≠ (v268 : Value).ownBlock)) (by (with_reducible repeat (first|apply yy1|apply yy2|apply yy3));exact Kd.R_mono HO_6.out (fun _ hk => ⟨hk.2, hk.1⟩)) hg (.inl rfl));have n1_ := zA (Kd.R_over' (v := (.slice (some ⟨go51, 0, none⟩) x10_3.length co51)) (by (with_reducible repeat (first|apply yy1|apply yy2|apply yy3));exact HO_7.out) (Kd.R_typed HO_10.out) (by decide) hg);have n2_ := zA (hp_);have n3_ := zA (Kd.R_after (v := (.slice (some ⟨go51, 0, none⟩) x10_3.length co51)) (v1 := (.slice (some ⟨go51, 0, none⟩) x10_3.length co51)) (ok := (fun k_ => some k_ ≠ (.slice (some ad270) x6_2.length co65 : Value).ownBlock)) (by (with_reducible repeat (first|apply yy1|apply yy2|apply yy3));exact HO_11.out) hg (.inl rfl));have n4_ := zA (Kd.S_over' (v := (.slice (some ⟨go51, 0, none⟩) x10_3.length co51)) (by (with_reducible repeat (first|apply yy4|apply yy5|apply yy6));exact HO_264000.out) (Kd.R_typed HO_10.out) (by decide) hg);have n5_ := zA (Kd.S_over' (v := (.slice (some ⟨go51, 0, none⟩) x10_3.length co51)) (by (with_reducible repeat (first|apply yy4|apply yy5|apply yy6));exact HO_264001.out) (Kd.R_typed HO_10.out) (by decide) hg);have n6_ := zA (yy0 (g := gb256) (o := .cells #[.slice none 0 0, .slice none 0 0] 48 (0, 0)) (by (with_reducible repeat (first|refine zJ ?_ _|refine zK ?_|refine zL ?_ _));exact BK256.out) hg (Kd.R_ne HO_10.out BK256.out (by decide)));have n7_ := zA (yy0 (g := gb263) (o := .cells #[u264000, u264001] 48 (0, 0)) (by (with_reducible repeat (first|refine zJ ?_ _|refine zK ?_|refine zL ?_ _));exact BK263.out) hg (Kd.R_ne HO_10.out BK263.out (by decide)));have n8_ := zA ((by rw [hw];exact zI (HB.out) GB51.out : Below w.heap.size w w67));clear HO_6;clear HO_7;clear HO_10;clear HO_11;clear HO_264000;clear HO_264001;clear BK256;clear BK263;clear HB;have HO_6 := n0_;have HO_7 := n1_;have HO_10 := n2_;have HO_11 := n3_;have HO_264000 := n4_;have HO_264001 := n5_;have BK256 := n6_;have BK263 := n7_;have HB := n8_;clear n0_ n1_ n2_ n3_ n4_ n5_ n6_ n7_ n8_;clear hg hw hp_;have p278 : 0 ≤ (x12_3 : Int) := zE (by first|(with_reducible assumption)|assumption);have q278 : x12_3 < (x6_2.length : Int) := zE (by first|(with_reducible assumption)|assumption);obtain ⟨ad278, e278, hx278_0⟩ := Kd.at_bool (Kd.R_reads' HO_6.out).2.2 x12_3 p278 q278;(try rw [← Nbq25.out] at hx278_0);obtain rfl : ad270 = ad278 := (by injection e278);replace p278 := eq_true p278;replace q278 := eq_true q278;have p52 : 0 ≤ (x12_3 : Int) := zE (by first|(with_reducible assumption)|assumption);have q52 : x12_3 < (a0.size : Int) := zE (by first|(with_reducible assumption)|assumption);have hx52 := bt_at a0 x12_3;replace p52 := eq_true p52;replace q52 := eq_true q52;have p64 : 0 ≤ (x12_3 : Int) := zE (by first|(with_reducible assumption)|assumption);have q64 : (x12_3 : Int) < ((x11_3.length : Int) : Int) := zE (by first|(with_reducible assumption)|assumption);obtain ⟨go64, co64, eo64, gb64, gl64, cl64, HG64⟩ := Kd.R_form HO_11.out (by omega);(first|cases eo64|(injection eo64 with ea_ en_ ec_;(first|subst ea_|(injection ea_ with ea_;subst ea_));subst ec_;clear en_));have GB64 := zA gb64;have GG64 := zA HG64;clear gb64 gl64 HG64;obtain ⟨hx64_0, hf64_0⟩ := Kd.R_celln false HO_11.out (x12_3 : Int) p64 q64;replace p64 := eq_true p64;replace q64 := eq_true q64;obtain ⟨hy68_, hz68_⟩ := Kd.R_celln false HO_11.out (x12_3 : Int) (zE (by first|(with_reducible assumption)|assumption)) (zE (by first|(with_reducible assumption)|assumption));have HP68 := Kd.R_putg HO_11.out (x12_3 : Int) false)|((with_reducible refine gate_store (t := 4) (p := 82) rfl ?_);refine store_event (t := 4) (p := 82) (v := ?vo_w69) (w1 := (w67.setCell ⟨go64, (x12_3 : Int).toNat, none⟩ (.bool false))) ?hg ?ho ?hn ?hr ?_;(case ho => rfl);(case hg => rfl);(case hn => rfl);(case hr => first|(go_simp;done)|(go_simp;rfl));intro w69 hw;have hg : w67.grownBy w69 (some go64) := (by rw [hw];exact HP68.2);have hp_ : Kd.R Kd.bool 4 w69 w.heap.size (fun k_ => some k_ ≠ (.slice (some ad270) x6_2.length co65 : Value).ownBlock ∧ some k_ ≠ (.slice (some ⟨go51, 0, none⟩) x10_3.length co51 : Value).ownBlock) (.slice (some ⟨go64, 0, none⟩) x11_3.length co64) y281 := (by rw [hw, Ny281.out];exact HP68.1);clear HP68;have n0_ := zA (Kd.R_after (v := (.slice (some ⟨go64, 0, none⟩) x11_3.length co64)) (v1 := (.slice (some ⟨go64, 0, none⟩) x11_3.length co64)) (ok := (fun k_ => some k_ ≠ (.slice (some ⟨go51, 0, none⟩) x10_3.length co51 : Value).ownBlock)) (by (with_reducible repeat (first|apply yy1|apply yy2|apply yy3));exact Kd.R_mono HO_6.out (fun _ hk => ⟨hk.2, hk.1⟩)) hg (.inl rfl));have n1_ := zA (Kd.R_over' (v := (.slice (some ⟨go64, 0, none⟩) x11_3.length co64)) (by (with_reducible repeat (first|apply yy1|apply yy2|apply yy3));exact HO_7.out) (Kd.R_typed HO_11.out) (by decide) hg);have n2_ := zA (Kd.R_after (v := (.slice (some ⟨go64, 0, none⟩) x11_3.length co64)) (v1 := (.slice (some ⟨go64, 0, none⟩) x11_3.length co64)) (ok := (fun k_ => some k_ ≠ (.slice (some ad270) x6_2.length co65 : Value).ownBlock)) (by (with_reducible repeat (first|apply yy1|apply yy2|apply yy3));exact HO_10.out) hg (.inl rfl));have n3_ := zA (hp_);have n4_ := zA (Kd.S_over' (v := (.slice (some ⟨go64, 0, none⟩) x11_3.length co64)) (by (with_reducible repeat (first|apply yy4|apply yy5|apply yy6));exact HO_264000.out) (Kd.R_typed HO_11.out) (by decide) hg);have n5_ := zA (Kd.S_over' (v := (.slice (some ⟨go64, 0, none⟩) x11_3.length co64)) (by (with_reducible repeat (first|apply yy4|apply yy5|apply yy6));exact HO_264001.out) (Kd.R_typed HO_11.out) (by decide) hg);have n6_ := zA (yy0 (g := gb256) (o := .cells #[.slice none 0 0, .slice none 0 0] 48 (0, 0)) (by (with_reducible repeat (first|refine zJ ?_ _|refine zK ?_|refine zL ?_ _));exact BK256.out) hg (Kd.R_ne HO_11.out BK256.out (by decide)));have n7_ := zA (yy0 (g := gb263) (o := .cells #[u264000, u264001] 48 (0, 0)) (by (with_reducible repeat (first|refine zJ ?_ _|refine zK ?_|refine zL ?_ _));exact BK263.out) hg (Kd.R_ne HO_11.out BK263.out (by decide)));have n8_ := zA ((by rw [hw];exact zI (HB.out) GB64.out : Below w.heap.size w w69));clear HO_6;clear HO_7;clear HO_10;clear HO_11;clear HO_264000;clear HO_264001;clear BK256;clear BK263;clear HB;have HO_6 := n0_;have HO_7 := n1_;have HO_10 := n2_;have HO_11 := n3_;have HO_264000 := n4_;have HO_264001 := n5_;have BK256 := n6_;have BK263 := n7_;have HB := n8_;clear n0_ n1_ n2_ n3_ n4_ n5_ n6_ n7_ n8_;clear hg hw hp_))
                   go_roundg k3
                   case measure => have := HJ2.out;have := HK2.out;have := HK3.out;omega
                   case rel => exact ⟨(y277), (y281), (wrap64 (x12_3 + 1)), (by first|rfl|(simp;done)|(simp [*];done)), H', ⟨by have := HJ2.out;have := HK2.out;have := HK3.out;omega⟩, ⟨by (with_reducible repeat (first|apply yy1|apply yy2|apply yy3));exact HO_6.out⟩, ⟨by (with_reducible repeat (first|apply yy1|apply yy2|apply yy3));exact HO_7.out⟩, ⟨by (with_reducible repeat (first|apply yy1|apply yy2|apply yy3));exact HO_10.out⟩, ⟨by (with_reducible repeat (first|apply yy1|apply yy2|apply yy3));exact HO_11.out⟩, ⟨by (with_reducible repeat (first|apply yy4|apply yy5|apply yy6));exact HO_264000.out⟩, ⟨by (with_reducible repeat (first|apply yy4|apply yy5|apply yy6));exact HO_264001.out⟩, ⟨by (with_reducible repeat (first|refine zJ ?_ _|refine zK ?_|refine zL ?_ _));exact BK256.out⟩, ⟨by (with_reducible repeat (first|refine zJ ?_ _|refine zK ?_|refine zL ?_ _));exact BK263.out⟩, ⟨by repeat (first|(with_reducible first|exact HB.out|apply zG|apply zF|apply zH|refine zI ?_ GE256.out|refine zI ?_ GE263.out)|exact HB.out)⟩⟩
                  ·rw [if_neg c63] at H
                   exact absurd H (by simp)
                ·rw [if_neg c50] at H
                 exact absurd H (by simp)
              ·replace c26 := Bool.eq_false_iff.mpr c26
               subst c26
               have H1 : (if x12_3 < (x10_3.length : Int) then (if x12_3 < (x11_3.length : Int) then (quarryref10_Build.l1 k3 a0 a1 x6_2 t260 x9_2 (x10_3.set (x12_3 : Int).toNat false) (x11_3.set (x12_3 : Int).toNat false) (wrap64 (x12_3 + 1)) x264000_2 x264001_2) else (none)) else (none)) = some (r1, r2, r3) := by rw [if_neg (show ¬ (false = true) by decide)] at H;exact H
               clear H
               have H := H1
               clear H1
               by_cases c70 : x12_3 < (x10_3.length : Int)
               ·rw [if_pos c70] at H
                have c70b0 : decide (x12_3 < (x10_3.length : Int)) = true := zz1 c70
                clear c70
                obtain ⟨y282, hy282⟩ : ∃ y_ : List Bool, y_ = (x10_3.set (x12_3 : Int).toNat false) := ⟨_, rfl⟩
                replace H : (if x12_3 < (x11_3.length : Int) then (quarryref10_Build.l1 k3 a0 a1 x6_2 t260 x9_2 y282 (x11_3.set (x12_3 : Int).toNat false) (wrap64 (x12_3 + 1)) x264000_2 x264001_2) else (none)) = some (r1, r2, r3) := by first|(rw [hy282];with_reducible exact H)|(have H2_ := (zz3 _ _).symm.trans H;rw [hy282];with_reducible exact H2_)|(have H2_ := (zz3 _ _).symm.trans H;with_reducible exact H2_)|with_reducible exact H|(rw [hy282];exact H)|exact H
                have Ny282 := zA hy282
                clear hy282
                by_cases c72 : x12_3 < (x11_3.length : Int)
                ·rw [if_pos c72] at H
                 have c72b0 : decide (x12_3 < (x11_3.length : Int)) = true := zz1 c72
                 clear c72
                 obtain ⟨y284, hy284⟩ : ∃ y_ : List Bool, y_ = (x11_3.set (x12_3 : Int).toNat false) := ⟨_, rfl⟩
                 replace H : (quarryref10_Build.l1 k3 a0 a1 x6_2 t260 x9_2 y282 y284 (wrap64 (x12_3 + 1)) x264000_2 x264001_2) = some (r1, r2, r3) := by first|(rw [hy284];with_reducible exact H)|(have H2_ := (zz3 _ _).symm.trans H;rw [hy284];with_reducible exact H2_)|(have H2_ := (zz3 _ _).symm.trans H;with_reducible exact H2_)|with_reducible exact H|(rw [hy284];exact H)|exact H
                 have Ny284 := zA hy284
                 clear hy284
                 have H' := zA H
                 clear H
                 obtain ⟨Ao74, co74, eo74⟩ := Kd.R_slice HO_6.out
                 subst eo74
                 have p270 : 0 ≤ (x12_3 : Int) := zE (by first|(with_reducible assumption)|assumption)
                 have q270 : x12_3 < (x6_2.length : Int) := zE (by first|(with_reducible assumption)|assumption)
                 obtain ⟨ad270, e270, hx270_0⟩ := Kd.at_bool (Kd.R_reads' HO_6.out).2.2 x12_3 p270 q270
                 (try rw [← Nbq25.out] at hx270_0)
                 cases e270
                 replace p270 := eq_true p270
                 replace q270 := eq_true q270
                 have p71 : 0 ≤ (x12_3 : Int) := zE (by first|(with_reducible assumption)|assumption)
                 have q71 : (x12_3 : Int) < ((x10_3.length : Int) : Int) := zE (by first|(with_reducible assumption)|assumption)
                 obtain ⟨go71, co71, eo71, gb71, gl71, cl71, HG71⟩ := Kd.R_form HO_10.out (by omega)
                 (first|cases eo71|(injection eo71 with ea_ en_ ec_;(first|subst ea_|(injection ea_ with ea_;subst ea_));subst ec_;clear en_))
                 have GB71 := zA gb71
                 have GG71 := zA HG71
                 clear gb71 gl71 HG71
                 obtain ⟨hx71_0, hf71_0⟩ := Kd.R_celln false HO_10.out (x12_3 : Int) p71 q71
                 replace p71 := eq_true p71
                 replace q71 := eq_true q71
                 have HP75 := Kd.R_putg HO_10.out (x12_3 : Int) false
                 go_wp2_with (first|((with_reducible refine gate_store (t := 4) (p := 61) rfl ?_);refine store_event (t := 4) (p := 61) (v := ?vo_w76) (w1 := (wr.setCell ⟨go71, (x12_3 : Int).toNat, none⟩ (.bool false))) ?hg ?ho ?hn ?hr ?_;(case ho => rfl);(case hg => rfl);(case hn => rfl);(case hr => first|(go_simp;done)|(go_simp;rfl));intro w76 hw;have hg : wr.grownBy w76 (some go71) := (by rw [hw];exact HP75.2);have hp_ : Kd.R Kd.bool 4 w76 w.heap.size (fun k_ => some k_ ≠ (.slice (some ad270) x6_2.length co74 : Value).ownBlock ∧ some k_ ≠ (v268 : Value).ownBlock) (.slice (some ⟨go71, 0, none⟩) x10_3.length co71) y282 := (by rw [hw, Ny282.out];exact HP75.1);clear HP75;have n0_ := zA (Kd.R_after (v := (.slice (some ⟨go71, 0, none⟩) x10_3.length co71)) (v1 := (.slice (some ⟨go71, 0, none⟩) x10_3.length co71)) (ok := (fun k_ => some k_ ≠ (v268 : Value).ownBlock)) (by (with_reducible repeat (first|apply yy1|apply yy2|apply yy3));exact Kd.R_mono HO_6.out (fun _ hk => ⟨hk.2, hk.1⟩)) hg (.inl rfl));have n1_ := zA (Kd.R_over' (v := (.slice (some ⟨go71, 0, none⟩) x10_3.length co71)) (by (with_reducible repeat (first|apply yy1|apply yy2|apply yy3));exact HO_7.out) (Kd.R_typed HO_10.out) (by decide) hg);have n2_ := zA (hp_);have n3_ := zA (Kd.R_after (v := (.slice (some ⟨go71, 0, none⟩) x10_3.length co71)) (v1 := (.slice (some ⟨go71, 0, none⟩) x10_3.length co71)) (ok := (fun k_ => some k_ ≠ (.slice (some ad270) x6_2.length co74 : Value).ownBlock)) (by (with_reducible repeat (first|apply yy1|apply yy2|apply yy3));exact HO_11.out) hg (.inl rfl));have n4_ := zA (Kd.S_over' (v := (.slice (some ⟨go71, 0, none⟩) x10_3.length co71)) (by (with_reducible repeat (first|apply yy4|apply yy5|apply yy6));exact HO_264000.out) (Kd.R_typed HO_10.out) (by decide) hg);have n5_ := zA (Kd.S_over' (v := (.slice (some ⟨go71, 0, none⟩) x10_3.length co71)) (by (with_reducible repeat (first|apply yy4|apply yy5|apply yy6));exact HO_264001.out) (Kd.R_typed HO_10.out) (by decide) hg);have n6_ := zA (yy0 (g := gb256) (o := .cells #[.slice none 0 0, .slice none 0 0] 48 (0, 0)) (by (with_reducible repeat (first|refine zJ ?_ _|refine zK ?_|refine zL ?_ _));exact BK256.out) hg (Kd.R_ne HO_10.out BK256.out (by decide)));have n7_ := zA (yy0 (g := gb263) (o := .cells #[u264000, u264001] 48 (0, 0)) (by (with_reducible repeat (first|refine zJ ?_ _|refine zK ?_|refine zL ?_ _));exact BK263.out) hg (Kd.R_ne HO_10.out BK263.out (by decide)));have n8_ := zA ((by rw [hw];exact zI (HB.out) GB71.out : Below w.heap.size w w76));clear HO_6;clear HO_7;clear HO_10;clear HO_11;clear HO_264000;clear HO_264001;clear BK256;clear BK263;clear HB;have HO_6 := n0_;have HO_7 := n1_;have HO_10 := n2_;have HO_11 := n3_;have HO_264000 := n4_;have HO_264001 := n5_;have BK256 := n6_;have BK263 := n7_;have HB := n8_;clear n0_ n1_ n2_ n3_ n4_ n5_ n6_ n7_ n8_;clear hg hw hp_;have p283 : 0 ≤ (x12_3 : Int) := zE (by first|(with_reducible assumption)|assumption);have q283 : x12_3 < (x6_2.length : Int) := zE (by first|(with_reducible assumption)|assumption);obtain ⟨ad283, e283, hx283_0⟩ := Kd.at_bool (Kd.R_reads' HO_6.out).2.2 x12_3 p283 q283;(try rw [← Nbq25.out] at hx283_0);obtain rfl : ad270 = ad283 := (by injection e283);replace p283 := eq_true p283;replace q283 := eq_true q283;have p73 : 0 ≤ (x12_3 : Int) := zE (by first|(with_reducible assumption)|assumption);have q73 : (x12_3 : Int) < ((x11_3.length : Int) : Int) := zE (by first|(with_reducible assumption)|assumption);obtain ⟨go73, co73, eo73, gb73, gl73, cl73, HG73⟩ := Kd.R_form HO_11.out (by omega);(first|cases eo73|(injection eo73 with ea_ en_ ec_;(first|subst ea_|(injection ea_ with ea_;subst ea_));subst ec_;clear en_));have GB73 := zA gb73;have GG73 := zA HG73;clear gb73 gl73 HG73;obtain ⟨hx73_0, hf73_0⟩ := Kd.R_celln false HO_11.out (x12_3 : Int) p73 q73;replace p73 := eq_true p73;replace q73 := eq_true q73;obtain ⟨hy77_, hz77_⟩ := Kd.R_celln false HO_11.out (x12_3 : Int) (zE (by first|(with_reducible assumption)|assumption)) (zE (by first|(with_reducible assumption)|assumption));have HP77 := Kd.R_putg HO_11.out (x12_3 : Int) false)|((with_reducible refine gate_store (t := 4) (p := 82) rfl ?_);refine store_event (t := 4) (p := 82) (v := ?vo_w78) (w1 := (w76.setCell ⟨go73, (x12_3 : Int).toNat, none⟩ (.bool false))) ?hg ?ho ?hn ?hr ?_;(case ho => rfl);(case hg => rfl);(case hn => rfl);(case hr => first|(go_simp;done)|(go_simp;rfl));intro w78 hw;have hg : w76.grownBy w78 (some go73) := (by rw [hw];exact HP77.2);have hp_ : Kd.R Kd.bool 4 w78 w.heap.size (fun k_ => some k_ ≠ (.slice (some ad270) x6_2.length co74 : Value).ownBlock ∧ some k_ ≠ (.slice (some ⟨go71, 0, none⟩) x10_3.length co71 : Value).ownBlock) (.slice (some ⟨go73, 0, none⟩) x11_3.length co73) y284 := (by rw [hw, Ny284.out];exact HP77.1);clear HP77;have n0_ := zA (Kd.R_after (v := (.slice (some ⟨go73, 0, none⟩) x11_3.length co73)) (v1 := (.slice (some ⟨go73, 0, none⟩) x11_3.length co73)) (ok := (fun k_ => some k_ ≠ (.slice (some ⟨go71, 0, none⟩) x10_3.length co71 : Value).ownBlock)) (by (with_reducible repeat (first|apply yy1|apply yy2|apply yy3));exact Kd.R_mono HO_6.out (fun _ hk => ⟨hk.2, hk.1⟩)) hg (.inl rfl));have n1_ := zA (Kd.R_over' (v := (.slice (some ⟨go73, 0, none⟩) x11_3.length co73)) (by (with_reducible repeat (first|apply yy1|apply yy2|apply yy3));exact HO_7.out) (Kd.R_typed HO_11.out) (by decide) hg);have n2_ := zA (Kd.R_after (v := (.slice (some ⟨go73, 0, none⟩) x11_3.length co73)) (v1 := (.slice (some ⟨go73, 0, none⟩) x11_3.length co73)) (ok := (fun k_ => some k_ ≠ (.slice (some ad270) x6_2.length co74 : Value).ownBlock)) (by (with_reducible repeat (first|apply yy1|apply yy2|apply yy3));exact HO_10.out) hg (.inl rfl));have n3_ := zA (hp_);have n4_ := zA (Kd.S_over' (v := (.slice (some ⟨go73, 0, none⟩) x11_3.length co73)) (by (with_reducible repeat (first|apply yy4|apply yy5|apply yy6));exact HO_264000.out) (Kd.R_typed HO_11.out) (by decide) hg);have n5_ := zA (Kd.S_over' (v := (.slice (some ⟨go73, 0, none⟩) x11_3.length co73)) (by (with_reducible repeat (first|apply yy4|apply yy5|apply yy6));exact HO_264001.out) (Kd.R_typed HO_11.out) (by decide) hg);have n6_ := zA (yy0 (g := gb256) (o := .cells #[.slice none 0 0, .slice none 0 0] 48 (0, 0)) (by (with_reducible repeat (first|refine zJ ?_ _|refine zK ?_|refine zL ?_ _));exact BK256.out) hg (Kd.R_ne HO_11.out BK256.out (by decide)));have n7_ := zA (yy0 (g := gb263) (o := .cells #[u264000, u264001] 48 (0, 0)) (by (with_reducible repeat (first|refine zJ ?_ _|refine zK ?_|refine zL ?_ _));exact BK263.out) hg (Kd.R_ne HO_11.out BK263.out (by decide)));have n8_ := zA ((by rw [hw];exact zI (HB.out) GB73.out : Below w.heap.size w w78));clear HO_6;clear HO_7;clear HO_10;clear HO_11;clear HO_264000;clear HO_264001;clear BK256;clear BK263;clear HB;have HO_6 := n0_;have HO_7 := n1_;have HO_10 := n2_;have HO_11 := n3_;have HO_264000 := n4_;have HO_264001 := n5_;have BK256 := n6_;have BK263 := n7_;have HB := n8_;clear n0_ n1_ n2_ n3_ n4_ n5_ n6_ n7_ n8_;clear hg hw hp_))
                 go_roundg k3
                 case measure => have := HJ2.out;have := HK2.out;have := HK3.out;omega
                 case rel => exact ⟨(y282), (y284), (wrap64 (x12_3 + 1)), (by first|rfl|(simp;done)|(simp [*];done)), H', ⟨by have := HJ2.out;have := HK2.out;have := HK3.out;omega⟩, ⟨by (with_reducible repeat (first|apply yy1|apply yy2|apply yy3));exact HO_6.out⟩, ⟨by (with_reducible repeat (first|apply yy1|apply yy2|apply yy3));exact HO_7.out⟩, ⟨by (with_reducible repeat (first|apply yy1|apply yy2|apply yy3));exact HO_10.out⟩, ⟨by (with_reducible repeat (first|apply yy1|apply yy2|apply yy3));exact HO_11.out⟩, ⟨by (with_reducible repeat (first|apply yy4|apply yy5|apply yy6));exact HO_264000.out⟩, ⟨by (with_reducible repeat (first|apply yy4|apply yy5|apply yy6));exact HO_264001.out⟩, ⟨by (with_reducible repeat (first|refine zJ ?_ _|refine zK ?_|refine zL ?_ _));exact BK256.out⟩, ⟨by (with_reducible repeat (first|refine zJ ?_ _|refine zK ?_|refine zL ?_ _));exact BK263.out⟩, ⟨by repeat (first|(with_reducible first|exact HB.out|apply zG|apply zF|apply zH|refine zI ?_ GE256.out|refine zI ?_ GE263.out)|exact HB.out)⟩⟩
                ·rw [if_neg c72] at H
                 exact absurd H (by simp)
               ·rw [if_neg c70] at H
                exact absurd H (by simp)
             ·rw [if_neg c24] at H
              exact absurd H (by simp)
            ·rw [if_neg c23] at H
             exact absurd H (by simp)
           ·rw [if_neg c22] at H
            have c22b0 : decide (x12_3 < (a0.size : Int)) = false := decide_eq_false c22
            clear c22
            replace H := Option.bind_eq_some_iff.mp H
            obtain ⟨⟨t285, t286⟩, A790, H⟩ := H
            replace H : (if x264000_2.length < 4398046511104 then ((quarryref04_Of.f k3 x11_3).bind fun bt292 => (if x264001_2.length < 4398046511104 then (quarryref10_Build.l0 k3 a0 a1 x6_2 t260 (wrap64 (x9_2 + 1)) (x264000_2 ++ [(⟨t285, t286⟩ : S34)]) (x264001_2 ++ [(⟨bt292.1, bt292.2⟩ : S34)])) else (none))) else (none)) = some (r1, r2, r3) := H
            have A79 := zA A790
            clear A790
            by_cases c80 : x264000_2.length < 4398046511104
            ·rw [if_pos c80] at H
             have LMc80 := zA c80
             clear c80
             obtain ⟨y289, hy289⟩ : ∃ y_ : List (S34), y_ = (x264000_2 ++ [(⟨t285, t286⟩ : S34)]) := ⟨_, rfl⟩
             replace H : ((quarryref04_Of.f k3 x11_3).bind fun bt292 => (if x264001_2.length < 4398046511104 then (quarryref10_Build.l0 k3 a0 a1 x6_2 t260 (wrap64 (x9_2 + 1)) y289 (x264001_2 ++ [(⟨bt292.1, bt292.2⟩ : S34)])) else (none))) = some (r1, r2, r3) := by first|(rw [hy289];with_reducible exact H)|(have H2_ := (zz3 _ _).symm.trans H;rw [hy289];with_reducible exact H2_)|(have H2_ := (zz3 _ _).symm.trans H;with_reducible exact H2_)|with_reducible exact H|(rw [hy289];exact H)|exact H
             have Ny289 := zA hy289
             clear hy289
             replace H := Option.bind_eq_some_iff.mp H
             obtain ⟨⟨t292, t293⟩, A810, H⟩ := H
             replace H : (if x264001_2.length < 4398046511104 then (quarryref10_Build.l0 k3 a0 a1 x6_2 t260 (wrap64 (x9_2 + 1)) y289 (x264001_2 ++ [(⟨t292, t293⟩ : S34)])) else (none)) = some (r1, r2, r3) := H
             have A81 := zA A810
             clear A810
             by_cases c82 : x264001_2.length < 4398046511104
             ·rw [if_pos c82] at H
              have LMc82 := zA c82
              clear c82
              obtain ⟨y296, hy296⟩ : ∃ y_ : List (S34), y_ = (x264001_2 ++ [(⟨t292, t293⟩ : S34)]) := ⟨_, rfl⟩
              replace H : (quarryref10_Build.l0 k3 a0 a1 x6_2 t260 (wrap64 (x9_2 + 1)) y289 y296) = some (r1, r2, r3) := by first|(rw [hy296];with_reducible exact H)|(have H2_ := (zz3 _ _).symm.trans H;rw [hy296];with_reducible exact H2_)|(have H2_ := (zz3 _ _).symm.trans H;with_reducible exact H2_)|with_reducible exact H|(rw [hy296];exact H)|exact H
              have Ny296 := zA hy296
              clear hy296
              have H' := zA H
              clear H
              try go_wp2
              have n0_ := zA (yy3 HO_6.out)
              have n1_ := zA (yy3 HO_7.out)
              have n2_ := zA (yy3 HO_10.out)
              have n3_ := zA (yy3 HO_11.out)
              have n4_ := zA (yy6 HO_264000.out)
              have n5_ := zA (yy6 HO_264001.out)
              have n6_ := zA (zK BK256.out)
              have n7_ := zA (zK BK263.out)
              have n8_ := zA (zH HB.out)
              clear HO_6
              clear HO_7
              clear HO_10
              clear HO_11
              clear HO_264000
              clear HO_264001
              clear BK256
              clear BK263
              clear HB
              have HO_6 := n0_
              have HO_7 := n1_
              have HO_10 := n2_
              have HO_11 := n3_
              have HO_264000 := n4_
              have HO_264001 := n5_
              have BK256 := n6_
              have BK263 := n7_
              have HB := n8_
              clear n0_ n1_ n2_ n3_ n4_ n5_ n6_ n7_ n8_
              obtain ⟨Ao84, co84, eo84⟩ := Kd.R_slice HO_10.out
              (first|subst eo84|(injection eo84 with f1_ f2_ f3_;have f4_ := f1_.symm;have f5_ := f3_.symm;clear f1_ f2_ f3_;subst f4_;subst f5_))
              refine start_ (n := 8) (S := fun w' => w'.cell? ⟨gb263, 0, none⟩ = some (u264000) ∧ w'.cell? ⟨gb263, 1, none⟩ = some (u264001)) (ds := [7]) #[false, false, false, false, false, false, false, false] (by kernel_rfl) rfl rfl ⟨(zP BK263.out 0).trans rfl, (zP BK263.out 1).trans rfl⟩ (fun hHeld => ?_);refine with_tabW quarryref10_Build.tab14 quarryref10_Build.bits14 (fun HT_ HW_ => ?_)
              generalize wr.drew = w83 at HO_6 HO_7 HO_10 HO_11 HO_264000 HO_264001 BK256 BK263 HB hHeld ⊢
              refine pure_ (i := 0) (N := some 83) (v := ?_) (a' := ?_) #[true, false, false, false, false, false, false, false] rfl rfl (any_of HT_.out (by kernel_rfl)) (fun _ _ _ h => h) (Or.inl ⟨by rfl, ?_⟩) ?_ ?_
              rotate_left
              ·intro w'
               go_simp
               with_reducible rfl
              rotate_left
              ·simp only [Act.put, zB, zC, zD, i64_w, i32_w]
               rfl
              refine pure_ (i := 2) (N := some 85) (v := ?_) (a' := ?_) #[true, false, true, false, false, false, false, false] rfl rfl (any_of HT_.out (by kernel_rfl)) (fun _ _ _ h => h) (Or.inl ⟨by rfl, ?_⟩) ?_ ?_
              rotate_left
              ·intro w'
               go_simp
               with_reducible rfl
              rotate_left
              ·simp only [Act.put, zB, zC, zD, i64_w, i32_w]
               rfl
              refine take_ (i := 1) (N := some 84) (v := ?_) (a' := ?_) #[true, true, true, false, false, false, false, false] rfl rfl (take_ofW HT_.out HW_.out (by kernel_rfl)) (fun _ _ _ h => h) (Or.inl ⟨by rfl, ?_⟩) hHeld ?_ ?_
              rotate_left
              ·rintro w' ⟨s0, s1⟩
               go_simp
               with_reducible rfl
              rotate_left
              ·simp only [Act.put, zB, zC, zD, i64_w, i32_w]
               rfl
              refine one_ (i := 3) (N := some 86) #[true, true, true, true, false, false, false, false] rfl rfl (one_of HT_.out (by kernel_rfl)) (by decide) (fun K hK => ?_)
              refine goes_ Tryd.func68 (by kernel_rfl) rfl #[.slice Ao84 x10_3.length co84] (by rfl) rfl rfl (by (try simp only [List.map_toArray, List.map_cons, List.map_nil]);first|done|rfl|(simp only [List.length_drop, List.length_take];rfl)) ?_
              with_reducible refine (quarryref04_Of.calls k3 _ _ x10_3 t285 t286 _ ?side1 ?side2 A79.out).mono ?_
              (case side1 => repeat (first|exact (Kd.R_reads' HO_10.out).2.2|(with_reducible refine Kd.C_alloc ?_ _)|(with_reducible refine Kd.C_drewN ?_ _)|(with_reducible refine Kd.C_drew ?_)))
              (case side2 => exact (Kd.R_reads' HO_10.out).2.1)
              rintro e w85 ⟨v287, rfl, ho0, hb⟩
              refine ⟨_, rfl, ?_⟩
              have n0_ := zA (yy9 (by (with_reducible repeat (first|apply yy1|apply yy2|apply yy3));exact HO_6.out) hb)
              have n1_ := zA (yy9 (by (with_reducible repeat (first|apply yy1|apply yy2|apply yy3));exact HO_7.out) hb)
              have n2_ := zA (yy9 (by (with_reducible repeat (first|apply yy1|apply yy2|apply yy3));exact HO_10.out) hb)
              have n3_ := zA (yy9 (by (with_reducible repeat (first|apply yy1|apply yy2|apply yy3));exact HO_11.out) hb)
              have n4_ := zA (Kd.S_elder' (by (with_reducible repeat (first|apply yy4|apply yy5|apply yy6));exact HO_264000.out) (Kd.R_base ho0) hb)
              have n5_ := zA (Kd.S_elder' (by (with_reducible repeat (first|apply yy4|apply yy5|apply yy6));exact HO_264001.out) (Kd.R_base ho0) hb)
              have n6_ := zA (Kd.R_lower ho0 (zO (by repeat (first|(with_reducible first|exact HB.out|apply zG|apply zF|apply zH|refine zI ?_ GE256.out|refine zI ?_ GE263.out)|exact HB.out))))
              have n7_ := zA (zQ (g := gb256) (o := .cells #[.slice none 0 0, .slice none 0 0] 48 (0, 0)) (by (with_reducible repeat (first|refine zJ ?_ _|refine zK ?_|refine zL ?_ _));exact BK256.out) hb)
              have n8_ := zA (zQ (g := gb263) (o := .cells #[u264000, u264001] 48 (0, 0)) (by (with_reducible repeat (first|refine zJ ?_ _|refine zK ?_|refine zL ?_ _));exact BK263.out) hb)
              have n9_ := zA (zN (by repeat (first|(with_reducible first|exact HB.out|apply zG|apply zF|apply zH|refine zI ?_ GE256.out|refine zI ?_ GE263.out)|exact HB.out)) hb)
              clear HO_6
              clear HO_7
              clear HO_10
              clear HO_11
              clear HO_264000
              clear HO_264001
              clear BK256
              clear BK263
              clear HB
              have HO_6 := n0_
              have HO_7 := n1_
              have HO_10 := n2_
              have HO_11 := n3_
              have HO_264000 := n4_
              have HO_264001 := n5_
              have HO288 := n6_
              have BK256 := n7_
              have BK263 := n8_
              have HB := n9_
              clear n0_ n1_ n2_ n3_ n4_ n5_ n6_ n7_ n8_ n9_
              (try clear hb)
              (try clear hb2)
              (try clear hk)
              (try clear hi)
              (try clear ho0)
              obtain ⟨Ao87, co87, eo87⟩ := Kd.R_slice HO288.out
              (first|subst eo87|(injection eo87 with f1_ f2_ f3_;have f4_ := f1_.symm;have f5_ := f3_.symm;clear f1_ f2_ f3_;subst f4_;subst f5_))
              refine hK.out _ _ ⟨(zP BK263.out 0).trans rfl, (zP BK263.out 1).trans rfl⟩ (fun hHeld => ?_)
              clear hK K
              refine norm_ (a' := ?_) ?_ ?_
              rotate_left
              ·show Act.put _ (some 86) _ = _
               simp only [Act.put, zB, zC, zD, i64_w, i32_w]
               rfl
              refine one_ (i := 4) (N := some 87) #[true, true, true, true, true, false, false, false] rfl rfl (one_of HT_.out (by kernel_rfl)) (by decide) (fun K hK => ?_)
              refine value_ (w1 := ?_) (v := ?_) (by rfl) rfl ?_ ?_
              rotate_left 2
              ·go_simp
               constructor
               ·rfl
               ·rfl
              refine hK.out _ _ ⟨(zP (zL BK263.out _) 0).trans rfl, (zP (zL BK263.out _) 1).trans rfl⟩ (fun hHeld => ?_)
              clear hK K
              refine norm_ (a' := ?_) ?_ ?_
              rotate_left
              ·show Act.put _ (some 87) _ = _
               simp only [Act.put, zB, zC, zD, i64_w, i32_w]
               rfl
              refine one_ (i := 5) (N := some 88) #[true, true, true, true, true, true, false, false] rfl rfl (one_of HT_.out (by kernel_rfl)) (by decide) (fun K hK => ?_)
              refine Kd.S_append_step k34 (w0 := w) w.heap.size (by rfl) (.tmp 84) (.tmp 87) 46 34 (.agg #[(.int .i64 0), (.slice none 0 0)]) 32 rfl Tryd.underlying46 info34 rfl (by decide) (by omega) u264000 x264000_2 (⟨t285, t286⟩ : S34) [.int .i64 t285, .slice Ao87 t286.length co87] (fun k_ => some k_ ≠ (u264001 : Value).ownBlock) (fun k_ => some k_ = (.slice Ao87 t286.length co87 : Value).ownBlock) rfl rfl ?aP (fun k_ hk_ => ((Kd.R_mono (ok' := fun k_ => ((fun k_ => some k_ ≠ (u264001 : Value).ownBlock)) k_ ∧ some k_ ≠ (u264000 : Value).ownBlock) (Kd.R_apart' (Kd.R_apart' (HO288.out) (Kd.S_typed HO_264001.out) (by decide)) (Kd.S_typed HO_264000.out) (by decide)) (fun k_ hk => ⟨hk.1.2, hk.2⟩))).1 k_ hk_.symm) ?aF ?aO ?aB ?aS ?aL ?_
              (case aP => exact k34_mkM _ _ _ (⟨t285, t286⟩ : S34) (Kd.R_mono (Kd.R_tight rfl (Kd.R_mono (ok' := fun k_ => ((fun k_ => some k_ ≠ (u264001 : Value).ownBlock)) k_ ∧ some k_ ≠ (u264000 : Value).ownBlock) (Kd.R_apart' (Kd.R_apart' (HO288.out) (Kd.S_typed HO_264001.out) (by decide)) (Kd.S_typed HO_264000.out) (by decide)) (fun k_ hk => ⟨hk.1.2, hk.2⟩))) (fun _ h_ => h_)))
              (case aB => exact (by repeat (first|(with_reducible first|exact HB.out|apply zG|apply zF|apply zH|refine zI ?_ GE256.out|refine zI ?_ GE263.out)|exact HB.out)))
              (case aF => exact (fun k_ hk => Kd.fresh' (Kd.S_lt (by (with_reducible repeat (first|apply yy4|apply yy5|apply yy6));exact HO_264001.out)) k_ hk))
              (case aO => exact (by (with_reducible repeat (first|apply yy4|apply yy5|apply yy6));exact Kd.S_mono HO_264000.out (fun k_ hk => ⟨hk.1, fun e_ => hk.2 e_⟩)))
              (case aS => exact (zO (by repeat (first|(with_reducible first|exact HB.out|apply zG|apply zF|apply zH|refine zI ?_ GE256.out|refine zI ?_ GE263.out)|exact HB.out))))
              (case aL => have := LMc80.out;omega)
              intro v290 w86 ho hb hg hat
              rw [← Ny289.out] at ho
              have n0_ := zA (Kd.R_over' (by (with_reducible repeat (first|apply yy1|apply yy2|apply yy3));exact HO_6.out) (Kd.S_typed (by (with_reducible repeat (first|apply yy4|apply yy5|apply yy6));exact HO_264000.out)) (by decide) hg)
              have n1_ := zA (Kd.R_over' (by (with_reducible repeat (first|apply yy1|apply yy2|apply yy3));exact HO_7.out) (Kd.S_typed (by (with_reducible repeat (first|apply yy4|apply yy5|apply yy6));exact HO_264000.out)) (by decide) hg)
              have n2_ := zA (Kd.R_over' (by (with_reducible repeat (first|apply yy1|apply yy2|apply yy3));exact HO_10.out) (Kd.S_typed (by (with_reducible repeat (first|apply yy4|apply yy5|apply yy6));exact HO_264000.out)) (by decide) hg)
              have n3_ := zA (Kd.R_over' (by (with_reducible repeat (first|apply yy1|apply yy2|apply yy3));exact HO_11.out) (Kd.S_typed (by (with_reducible repeat (first|apply yy4|apply yy5|apply yy6));exact HO_264000.out)) (by decide) hg)
              have n4_ := zA (Kd.S_after (ok := (fun k_ => some k_ ≠ (.slice Ao87 t286.length co87 : Value).ownBlock)) (by (with_reducible repeat (first|apply yy4|apply yy5|apply yy6));exact Kd.S_mono HO_264001.out (fun _ hk => ⟨hk.2, hk.1⟩)) hg hat)
              have n5_ := zA (yy0 (g := gb256) (o := .cells #[.slice none 0 0, .slice none 0 0] 48 (0, 0)) (by (with_reducible repeat (first|refine zJ ?_ _|refine zK ?_|refine zL ?_ _));exact BK256.out) hg (Kd.S_ne HO_264000.out BK256.out (by decide)))
              have n6_ := zA (yy0 (g := gb263) (o := .cells #[u264000, u264001] 48 (0, 0)) (by (with_reducible repeat (first|refine zJ ?_ _|refine zK ?_|refine zL ?_ _));exact BK263.out) hg (Kd.S_ne HO_264000.out BK263.out (by decide)))
              have n7_ := zA (hb)
              have n8_ := zA (ho)
              clear HO_6
              clear HO_7
              clear HO_10
              clear HO_11
              clear HO_264001
              clear BK256
              clear BK263
              clear HB
              clear HO_264000
              clear HO288
              have HO_6 := n0_
              have HO_7 := n1_
              have HO_10 := n2_
              have HO_11 := n3_
              have HO_264001 := n4_
              have BK256 := n5_
              have BK263 := n6_
              have HB := n7_
              have HO291 := n8_
              clear n0_ n1_ n2_ n3_ n4_ n5_ n6_ n7_ n8_
              clear ho hb hg hat
              obtain ⟨Ao88, co88, eo88⟩ := Kd.S_slice HO291.out
              (first|subst eo88|(injection eo88 with f1_ f2_ f3_;have f4_ := f1_.symm;have f5_ := f3_.symm;clear f1_ f2_ f3_;subst f4_;subst f5_))
              refine hK.out _ _ ⟨(zP BK263.out 0).trans rfl, (zP BK263.out 1).trans rfl⟩ (fun hHeld => ?_)
              clear hK K
              refine norm_ (a' := ?_) ?_ ?_
              rotate_left
              ·show Act.put _ (some 88) _ = _
               simp only [Act.put, zB, zC, zD, i64_w, i32_w]
               rfl
              refine pure_ (i := 6) (N := some 89) (v := ?_) (a' := ?_) #[true, true, true, true, true, true, true, false] rfl rfl (any_of HT_.out (by kernel_rfl)) (fun _ _ _ h => h) (Or.inl ⟨by rfl, ?_⟩) ?_ ?_
              rotate_left
              ·intro w'
               go_simp
               with_reducible rfl
              rotate_left
              ·simp only [Act.put, zB, zC, zD, i64_w, i32_w]
               rfl
              refine last_ (i := 7) (N := none) #[true, true, true, true, true, true, true, true] rfl rfl (one_of HT_.out (by kernel_rfl)) (by decide) (fun K hK => ?_)
              have hs89 : w86.cell? ⟨gb263, 0, none⟩ = some (u264000) := (zP BK263.out 0).trans rfl
              have hfs89 := zR BK263.out 0
              have hns89_0 := NB256_263.out
              have hms89_0 := NB263_256.out
              refine skip_ (w1 := ?_) (by rfl) rfl ?_ ?_
              rotate_left
              ·go_simp
               rfl
              refine hK.out _ _ ?_
              clear hK K
              refine done_ (done_of HT_.out (by kernel_rfl)) ?_
              try go_wp2
              have n0_ : Aside0 (Kd.R Kd.bool 4 (w86.setCell ⟨gb263, 0, none⟩ (.slice Ao88 y289.length co88)) w.heap.size (fun k_ => some k_ ≠ (.slice Ao84 x10_3.length co84 : Value).ownBlock ∧ some k_ ≠ (v268 : Value).ownBlock) v258 x6_2) := ⟨by (with_reducible repeat (first|apply yy1|apply yy2|apply yy3));exact Kd.R_mono (Kd.R_far (p := ⟨gb263, 0, none⟩) (Kd.R_types HO_6.out BK263.out (by decide)) (fun _ hk => hk.2) (.slice Ao88 y289.length co88)) (fun _ hk => ⟨hk.1.1, hk.1.2⟩)⟩
              have n1_ : Aside0 (Kd.R (Kd.int .i64) 3 (w86.setCell ⟨gb263, 0, none⟩ (.slice Ao88 y289.length co88)) w.heap.size (fun _ => True) v261 t260) := ⟨by (with_reducible repeat (first|apply yy1|apply yy2|apply yy3));exact Kd.R_mono (Kd.R_far (p := ⟨gb263, 0, none⟩) (Kd.R_types HO_7.out BK263.out (by decide)) (fun _ hk => hk.2) (.slice Ao88 y289.length co88)) (fun _ hk => trivial)⟩
              have n2_ : Aside0 (Kd.R Kd.bool 4 (w86.setCell ⟨gb263, 0, none⟩ (.slice Ao88 y289.length co88)) w.heap.size (fun k_ => some k_ ≠ (v258 : Value).ownBlock ∧ some k_ ≠ (v268 : Value).ownBlock) (.slice Ao84 x10_3.length co84) x10_3) := ⟨by (with_reducible repeat (first|apply yy1|apply yy2|apply yy3));exact Kd.R_mono (Kd.R_far (p := ⟨gb263, 0, none⟩) (Kd.R_types HO_10.out BK263.out (by decide)) (fun _ hk => hk.2) (.slice Ao88 y289.length co88)) (fun _ hk => ⟨hk.1.1, hk.1.2⟩)⟩
              have n3_ : Aside0 (Kd.R Kd.bool 4 (w86.setCell ⟨gb263, 0, none⟩ (.slice Ao88 y289.length co88)) w.heap.size (fun k_ => some k_ ≠ (v258 : Value).ownBlock ∧ some k_ ≠ (.slice Ao84 x10_3.length co84 : Value).ownBlock) v268 x11_3) := ⟨by (with_reducible repeat (first|apply yy1|apply yy2|apply yy3));exact Kd.R_mono (Kd.R_far (p := ⟨gb263, 0, none⟩) (Kd.R_types HO_11.out BK263.out (by decide)) (fun _ hk => hk.2) (.slice Ao88 y289.length co88)) (fun _ hk => ⟨hk.1.1, hk.1.2⟩)⟩
              have n4_ : Aside0 (Kd.S k34 34 (w86.setCell ⟨gb263, 0, none⟩ (.slice Ao88 y289.length co88)) w.heap.size (fun k_ => some k_ ≠ (.slice Ao88 y289.length co88 : Value).ownBlock) u264001 x264001_2) := ⟨by (with_reducible repeat (first|apply yy4|apply yy5|apply yy6));exact Kd.S_mono (Kd.S_far (p := ⟨gb263, 0, none⟩) (Kd.S_types HO_264001.out BK263.out (by decide)) (fun _ hk => hk.2) (.slice Ao88 y289.length co88)) (fun _ hk => hk.1.2)⟩
              have n5_ : Aside0 (Kd.S k34 34 (w86.setCell ⟨gb263, 0, none⟩ (.slice Ao88 y289.length co88)) w.heap.size (fun k_ => some k_ ≠ (u264001 : Value).ownBlock) (.slice Ao88 y289.length co88) y289) := ⟨by (with_reducible repeat (first|apply yy4|apply yy5|apply yy6));exact Kd.S_mono (Kd.S_far (p := ⟨gb263, 0, none⟩) (Kd.S_types HO291.out BK263.out (by decide)) (fun _ hk => hk.2) (.slice Ao88 y289.length co88)) (fun _ hk => hk.1)⟩
              have n6_ : Aside0 ((w86.setCell ⟨gb263, 0, none⟩ (.slice Ao88 y289.length co88)).heap[gb256]? = some (.cells #[.slice none 0 0, .slice none 0 0] 48 (0, 0))) := ⟨by (with_reducible repeat (first|refine zJ ?_ _|refine zK ?_|refine zL ?_ _));refine blk_far ?_ NB256_263.out _;(with_reducible repeat (first|refine zJ ?_ _|refine zK ?_|refine zL ?_ _));exact BK256.out⟩
              have n7_ : Aside0 ((w86.setCell ⟨gb263, 0, none⟩ (.slice Ao88 y289.length co88)).heap[gb263]? = some (.cells #[.slice Ao88 y289.length co88, u264001] 48 (0, 0))) := ⟨by (with_reducible repeat (first|refine zJ ?_ _|refine zK ?_|refine zL ?_ _));refine blk_put (cs := #[u264000, u264001]) ?_ 0 _ rfl;(with_reducible repeat (first|refine zJ ?_ _|refine zK ?_|refine zL ?_ _));exact BK263.out⟩
              have n8_ : Aside0 (Below w.heap.size w (w86.setCell ⟨gb263, 0, none⟩ (.slice Ao88 y289.length co88))) := ⟨by repeat (first|(with_reducible first|exact HB.out|apply zG|apply zF|apply zH|refine zI ?_ GE256.out|refine zI ?_ GE263.out)|exact HB.out)⟩
              (try clear HO_6)
              (try clear HO_7)
              (try clear HO_10)
              (try clear HO_11)
              (try clear HO_264001)
              (try clear HO291)
              (try clear BK256)
              (try clear BK263)
              (try clear HB)
              generalize (w86.setCell ⟨gb263, 0, none⟩ (.slice Ao88 y289.length co88)) = w90 at n0_ n1_ n2_ n3_ n4_ n5_ n6_ n7_ n8_ ⊢
              have HO_6 := n0_
              have HO_7 := n1_
              have HO_10 := n2_
              have HO_11 := n3_
              have HO_264001 := n4_
              have HO291 := n5_
              have BK256 := n6_
              have BK263 := n7_
              have HB := n8_
              clear n0_ n1_ n2_ n3_ n4_ n5_ n6_ n7_ n8_
              have n0_ := zA (yy3 HO_6.out)
              have n1_ := zA (yy3 HO_7.out)
              have n2_ := zA (yy3 HO_10.out)
              have n3_ := zA (yy3 HO_11.out)
              have n4_ := zA (yy6 HO_264001.out)
              have n5_ := zA (yy6 HO291.out)
              have n6_ := zA (zK BK256.out)
              have n7_ := zA (zK BK263.out)
              have n8_ := zA (zH HB.out)
              clear HO_6
              clear HO_7
              clear HO_10
              clear HO_11
              clear HO_264001
              clear HO291
              clear BK256
              clear BK263
              clear HB
              have HO_6 := n0_
              have HO_7 := n1_
              have HO_10 := n2_
              have HO_11 := n3_
              have HO_264001 := n4_
              have HO291 := n5_
              have BK256 := n6_
              have BK263 := n7_
              have HB := n8_
              clear n0_ n1_ n2_ n3_ n4_ n5_ n6_ n7_ n8_
              obtain ⟨Ao92, co92, eo92⟩ := Kd.R_slice HO_11.out
              (first|subst eo92|(injection eo92 with f1_ f2_ f3_;have f4_ := f1_.symm;have f5_ := f3_.symm;clear f1_ f2_ f3_;subst f4_;subst f5_))
              refine start_ (n := 8) (S := fun w' => w'.cell? ⟨gb263, 0, none⟩ = some (.slice Ao88 y289.length co88) ∧ w'.cell? ⟨gb263, 1, none⟩ = some (u264001)) (ds := [7]) #[false, false, false, false, false, false, false, false] (by kernel_rfl) rfl rfl ⟨(zP BK263.out 0).trans rfl, (zP BK263.out 1).trans rfl⟩ (fun hHeld => ?_);refine with_tabW quarryref10_Build.tab15 quarryref10_Build.bits15 (fun HT_ HW_ => ?_)
              generalize w90.drew = w91 at HO_6 HO_7 HO_10 HO_11 HO_264001 HO291 BK256 BK263 HB hHeld ⊢
              refine pure_ (i := 0) (N := some 90) (v := ?_) (a' := ?_) #[true, false, false, false, false, false, false, false] rfl rfl (any_of HT_.out (by kernel_rfl)) (fun _ _ _ h => h) (Or.inl ⟨by rfl, ?_⟩) ?_ ?_
              rotate_left
              ·intro w'
               go_simp
               with_reducible rfl
              rotate_left
              ·simp only [Act.put, zB, zC, zD, i64_w, i32_w]
               rfl
              refine pure_ (i := 2) (N := some 92) (v := ?_) (a' := ?_) #[true, false, true, false, false, false, false, false] rfl rfl (any_of HT_.out (by kernel_rfl)) (fun _ _ _ h => h) (Or.inl ⟨by rfl, ?_⟩) ?_ ?_
              rotate_left
              ·intro w'
               go_simp
               with_reducible rfl
              rotate_left
              ·simp only [Act.put, zB, zC, zD, i64_w, i32_w]
               rfl
              refine take_ (i := 1) (N := some 91) (v := ?_) (a' := ?_) #[true, true, true, false, false, false, false, false] rfl rfl (take_ofW HT_.out HW_.out (by kernel_rfl)) (fun _ _ _ h => h) (Or.inl ⟨by rfl, ?_⟩) hHeld ?_ ?_
              rotate_left
              ·rintro w' ⟨s0, s1⟩
               go_simp
               with_reducible rfl
              rotate_left
              ·simp only [Act.put, zB, zC, zD, i64_w, i32_w]
               rfl
              refine one_ (i := 3) (N := some 93) #[true, true, true, true, false, false, false, false] rfl rfl (one_of HT_.out (by kernel_rfl)) (by decide) (fun K hK => ?_)
              refine goes_ Tryd.func68 (by kernel_rfl) rfl #[.slice Ao92 x11_3.length co92] (by rfl) rfl rfl (by (try simp only [List.map_toArray, List.map_cons, List.map_nil]);first|done|rfl|(simp only [List.length_drop, List.length_take];rfl)) ?_
              with_reducible refine (quarryref04_Of.calls k3 _ _ x11_3 t292 t293 _ ?side1 ?side2 A81.out).mono ?_
              (case side1 => repeat (first|exact (Kd.R_reads' HO_11.out).2.2|(with_reducible refine Kd.C_alloc ?_ _)|(with_reducible refine Kd.C_drewN ?_ _)|(with_reducible refine Kd.C_drew ?_)))
              (case side2 => exact (Kd.R_reads' HO_11.out).2.1)
              rintro e w93 ⟨v294, rfl, ho0, hb⟩
              refine ⟨_, rfl, ?_⟩
              have n0_ := zA (yy9 (by (with_reducible repeat (first|apply yy1|apply yy2|apply yy3));exact HO_6.out) hb)
              have n1_ := zA (yy9 (by (with_reducible repeat (first|apply yy1|apply yy2|apply yy3));exact HO_7.out) hb)
              have n2_ := zA (yy9 (by (with_reducible repeat (first|apply yy1|apply yy2|apply yy3));exact HO_10.out) hb)
              have n3_ := zA (yy9 (by (with_reducible repeat (first|apply yy1|apply yy2|apply yy3));exact HO_11.out) hb)
              have n4_ := zA (Kd.S_elder' (by (with_reducible repeat (first|apply yy4|apply yy5|apply yy6));exact HO_264001.out) (Kd.R_base ho0) hb)
              have n5_ := zA (Kd.S_elder' (by (with_reducible repeat (first|apply yy4|apply yy5|apply yy6));exact HO291.out) (Kd.R_base ho0) hb)
              have n6_ := zA (Kd.R_lower ho0 (zO (by repeat (first|(with_reducible first|exact HB.out|apply zG|apply zF|apply zH|refine zI ?_ GE256.out|refine zI ?_ GE263.out)|exact HB.out))))
              have n7_ := zA (zQ (g := gb256) (o := .cells #[.slice none 0 0, .slice none 0 0] 48 (0, 0)) (by (with_reducible repeat (first|refine zJ ?_ _|refine zK ?_|refine zL ?_ _));exact BK256.out) hb)
              have n8_ := zA (zQ (g := gb263) (o := .cells #[.slice Ao88 y289.length co88, u264001] 48 (0, 0)) (by (with_reducible repeat (first|refine zJ ?_ _|refine zK ?_|refine zL ?_ _));exact BK263.out) hb)
              have n9_ := zA (zN (by repeat (first|(with_reducible first|exact HB.out|apply zG|apply zF|apply zH|refine zI ?_ GE256.out|refine zI ?_ GE263.out)|exact HB.out)) hb)
              clear HO_6
              clear HO_7
              clear HO_10
              clear HO_11
              clear HO_264001
              clear HO291
              clear BK256
              clear BK263
              clear HB
              have HO_6 := n0_
              have HO_7 := n1_
              have HO_10 := n2_
              have HO_11 := n3_
              have HO_264001 := n4_
              have HO291 := n5_
              have HO295 := n6_
              have BK256 := n7_
              have BK263 := n8_
              have HB := n9_
              clear n0_ n1_ n2_ n3_ n4_ n5_ n6_ n7_ n8_ n9_
              (try clear hb)
              (try clear hb2)
              (try clear hk)
              (try clear hi)
              (try clear ho0)
              obtain ⟨Ao95, co95, eo95⟩ := Kd.R_slice HO295.out
              (first|subst eo95|(injection eo95 with f1_ f2_ f3_;have f4_ := f1_.symm;have f5_ := f3_.symm;clear f1_ f2_ f3_;subst f4_;subst f5_))
              refine hK.out _ _ ⟨(zP BK263.out 0).trans rfl, (zP BK263.out 1).trans rfl⟩ (fun hHeld => ?_)
              clear hK K
              refine norm_ (a' := ?_) ?_ ?_
              rotate_left
              ·show Act.put _ (some 93) _ = _
               simp only [Act.put, zB, zC, zD, i64_w, i32_w]
               rfl
              refine one_ (i := 4) (N := some 94) #[true, true, true, true, true, false, false, false] rfl rfl (one_of HT_.out (by kernel_rfl)) (by decide) (fun K hK => ?_)
              refine value_ (w1 := ?_) (v := ?_) (by rfl) rfl ?_ ?_
              rotate_left 2
              ·go_simp
               constructor
               ·rfl
               ·rfl
              refine hK.out _ _ ⟨(zP (zL BK263.out _) 0).trans rfl, (zP (zL BK263.out _) 1).trans rfl⟩ (fun hHeld => ?_)
              clear hK K
              refine norm_ (a' := ?_) ?_ ?_
              rotate_left
              ·show Act.put _ (some 94) _ = _
               simp only [Act.put, zB, zC, zD, i64_w, i32_w]
               rfl
              refine one_ (i := 5) (N := some 95) #[true, true, true, true, true, true, false, false] rfl rfl (one_of HT_.out (by kernel_rfl)) (by decide) (fun K hK => ?_)
              refine Kd.S_append_step k34 (w0 := w) w.heap.size (by rfl) (.tmp 91) (.tmp 94) 46 34 (.agg #[(.int .i64 0), (.slice none 0 0)]) 32 rfl Tryd.underlying46 info34 rfl (by decide) (by omega) u264001 x264001_2 (⟨t292, t293⟩ : S34) [.int .i64 t292, .slice Ao95 t293.length co95] (fun k_ => some k_ ≠ (.slice Ao88 y289.length co88 : Value).ownBlock) (fun k_ => some k_ = (.slice Ao95 t293.length co95 : Value).ownBlock) rfl rfl ?aP (fun k_ hk_ => ((Kd.R_mono (ok' := fun k_ => ((fun k_ => some k_ ≠ (.slice Ao88 y289.length co88 : Value).ownBlock)) k_ ∧ some k_ ≠ (u264001 : Value).ownBlock) (Kd.R_apart' (Kd.R_apart' (HO295.out) (Kd.S_typed HO291.out) (by decide)) (Kd.S_typed HO_264001.out) (by decide)) (fun k_ hk => ⟨hk.1.2, hk.2⟩))).1 k_ hk_.symm) ?aF ?aO ?aB ?aS ?aL ?_
              (case aP => exact k34_mkM _ _ _ (⟨t292, t293⟩ : S34) (Kd.R_mono (Kd.R_tight rfl (Kd.R_mono (ok' := fun k_ => ((fun k_ => some k_ ≠ (.slice Ao88 y289.length co88 : Value).ownBlock)) k_ ∧ some k_ ≠ (u264001 : Value).ownBlock) (Kd.R_apart' (Kd.R_apart' (HO295.out) (Kd.S_typed HO291.out) (by decide)) (Kd.S_typed HO_264001.out) (by decide)) (fun k_ hk => ⟨hk.1.2, hk.2⟩))) (fun _ h_ => h_)))
              (case aB => exact (by repeat (first|(with_reducible first|exact HB.out|apply zG|apply zF|apply zH|refine zI ?_ GE256.out|refine zI ?_ GE263.out)|exact HB.out)))
              (case aF => exact (fun k_ hk => Kd.fresh' (Kd.S_lt (by (with_reducible repeat (first|apply yy4|apply yy5|apply yy6));exact HO291.out)) k_ hk))
              (case aO => exact (by (with_reducible repeat (first|apply yy4|apply yy5|apply yy6));exact Kd.S_mono HO_264001.out (fun k_ hk => ⟨hk.1, fun e_ => hk.2 e_⟩)))
              (case aS => exact (zO (by repeat (first|(with_reducible first|exact HB.out|apply zG|apply zF|apply zH|refine zI ?_ GE256.out|refine zI ?_ GE263.out)|exact HB.out))))
              (case aL => have := LMc82.out;omega)
              intro v297 w94 ho hb hg hat
              rw [← Ny296.out] at ho
              have n0_ := zA (Kd.R_over' (by (with_reducible repeat (first|apply yy1|apply yy2|apply yy3));exact HO_6.out) (Kd.S_typed (by (with_reducible repeat (first|apply yy4|apply yy5|apply yy6));exact HO_264001.out)) (by decide) hg)
              have n1_ := zA (Kd.R_over' (by (with_reducible repeat (first|apply yy1|apply yy2|apply yy3));exact HO_7.out) (Kd.S_typed (by (with_reducible repeat (first|apply yy4|apply yy5|apply yy6));exact HO_264001.out)) (by decide) hg)
              have n2_ := zA (Kd.R_over' (by (with_reducible repeat (first|apply yy1|apply yy2|apply yy3));exact HO_10.out) (Kd.S_typed (by (with_reducible repeat (first|apply yy4|apply yy5|apply yy6));exact HO_264001.out)) (by decide) hg)
              have n3_ := zA (Kd.R_over' (by (with_reducible repeat (first|apply yy1|apply yy2|apply yy3));exact HO_11.out) (Kd.S_typed (by (with_reducible repeat (first|apply yy4|apply yy5|apply yy6));exact HO_264001.out)) (by decide) hg)
              have n4_ := zA (yy0 (g := gb256) (o := .cells #[.slice none 0 0, .slice none 0 0] 48 (0, 0)) (by (with_reducible repeat (first|refine zJ ?_ _|refine zK ?_|refine zL ?_ _));exact BK256.out) hg (Kd.S_ne HO_264001.out BK256.out (by decide)))
              have n5_ := zA (yy0 (g := gb263) (o := .cells #[.slice Ao88 y289.length co88, u264001] 48 (0, 0)) (by (with_reducible repeat (first|refine zJ ?_ _|refine zK ?_|refine zL ?_ _));exact BK263.out) hg (Kd.S_ne HO_264001.out BK263.out (by decide)))
              have n6_ := zA (Kd.S_after (ok := (fun k_ => some k_ ≠ (.slice Ao95 t293.length co95 : Value).ownBlock)) (by (with_reducible repeat (first|apply yy4|apply yy5|apply yy6));exact Kd.S_mono HO291.out (fun _ hk => ⟨hk.2, hk.1⟩)) hg hat)
              have n7_ := zA (hb)
              have n8_ := zA (ho)
              clear HO_6
              clear HO_7
              clear HO_10
              clear HO_11
              clear BK256
              clear BK263
              clear HO291
              clear HB
              clear HO_264001
              clear HO295
              have HO_6 := n0_
              have HO_7 := n1_
              have HO_10 := n2_
              have HO_11 := n3_
              have BK256 := n4_
              have BK263 := n5_
              have HO291 := n6_
              have HB := n7_
              have HO298 := n8_
              clear n0_ n1_ n2_ n3_ n4_ n5_ n6_ n7_ n8_
              clear ho hb hg hat
              obtain ⟨Ao96, co96, eo96⟩ := Kd.S_slice HO298.out
              (first|subst eo96|(injection eo96 with f1_ f2_ f3_;have f4_ := f1_.symm;have f5_ := f3_.symm;clear f1_ f2_ f3_;subst f4_;subst f5_))
              refine hK.out _ _ ⟨(zP BK263.out 0).trans rfl, (zP BK263.out 1).trans rfl⟩ (fun hHeld => ?_)
              clear hK K
              refine norm_ (a' := ?_) ?_ ?_
              rotate_left
              ·show Act.put _ (some 95) _ = _
               simp only [Act.put, zB, zC, zD, i64_w, i32_w]
               rfl
              refine pure_ (i := 6) (N := some 96) (v := ?_) (a' := ?_) #[true, true, true, true, true, true, true, false] rfl rfl (any_of HT_.out (by kernel_rfl)) (fun _ _ _ h => h) (Or.inl ⟨by rfl, ?_⟩) ?_ ?_
              rotate_left
              ·intro w'
               go_simp
               with_reducible rfl
              rotate_left
              ·simp only [Act.put, zB, zC, zD, i64_w, i32_w]
               rfl
              refine last_ (i := 7) (N := none) #[true, true, true, true, true, true, true, true] rfl rfl (one_of HT_.out (by kernel_rfl)) (by decide) (fun K hK => ?_)
              have hs97 : w94.cell? ⟨gb263, 1, none⟩ = some (u264001) := (zP BK263.out 1).trans rfl
              have hfs97 := zR BK263.out 1
              have hns97_0 := NB256_263.out
              have hms97_0 := NB263_256.out
              refine skip_ (w1 := ?_) (by rfl) rfl ?_ ?_
              rotate_left
              ·go_simp
               rfl
              refine hK.out _ _ ?_
              clear hK K
              refine done_ (done_of HT_.out (by kernel_rfl)) ?_
              try go_wp2
              go_roundg k3
              case measure => have := HJ2.out;have := HK2.out;have := HK3.out;omega
              case rel => exact ⟨(x6_2), (wrap64 (x9_2 + 1)), (y289), (y296), (.slice Ao88 y289.length co88), (.slice Ao96 y296.length co96), (by first|rfl|(simp;done)|(simp [*];done)), H', ⟨by have := HJ2.out;have := HK2.out;have := HK3.out;omega⟩, ⟨by (with_reducible repeat (first|apply yy1|apply yy2|apply yy3));exact Kd.R_mono (Kd.R_far (p := ⟨gb263, 1, none⟩) (Kd.R_types HO_6.out BK263.out (by decide)) (fun _ hk => hk.2) (.slice Ao96 y296.length co96)) (fun _ hk => trivial)⟩, ⟨by (with_reducible repeat (first|apply yy1|apply yy2|apply yy3));exact Kd.R_mono (Kd.R_far (p := ⟨gb263, 1, none⟩) (Kd.R_types HO_7.out BK263.out (by decide)) (fun _ hk => hk.2) (.slice Ao96 y296.length co96)) (fun _ hk => trivial)⟩, ⟨by (with_reducible repeat (first|apply yy4|apply yy5|apply yy6));exact Kd.S_mono (Kd.S_far (p := ⟨gb263, 1, none⟩) (Kd.S_types HO291.out BK263.out (by decide)) (fun _ hk => hk.2) (.slice Ao96 y296.length co96)) (fun _ hk => hk.1.2)⟩, ⟨by (with_reducible repeat (first|apply yy4|apply yy5|apply yy6));exact Kd.S_mono (Kd.S_far (p := ⟨gb263, 1, none⟩) (Kd.S_types HO298.out BK263.out (by decide)) (fun _ hk => hk.2) (.slice Ao96 y296.length co96)) (fun _ hk => hk.1)⟩, ⟨by (with_reducible repeat (first|refine zJ ?_ _|refine zK ?_|refine zL ?_ _));refine blk_far ?_ NB256_263.out _;(with_reducible repeat (first|refine zJ ?_ _|refine zK ?_|refine zL ?_ _));exact BK256.out⟩, ⟨by (with_reducible repeat (first|refine zJ ?_ _|refine zK ?_|refine zL ?_ _));refine blk_put (cs := #[.slice Ao88 y289.length co88, u264001]) ?_ 1 _ rfl;(with_reducible repeat (first|refine zJ ?_ _|refine zK ?_|refine zL ?_ _));exact BK263.out⟩, ⟨by repeat (first|(with_reducible first|exact HB.out|apply zG|apply zF|apply zH|refine zI ?_ GE256.out|refine zI ?_ GE263.out)|exact HB.out)⟩⟩
             ·rw [if_neg c82] at H
              exact absurd H (by simp)
            ·rw [if_neg c80] at H
             exact absurd H (by simp)
        ·rw [if_neg c15] at H
         exact absurd H (by simp)
       ·rw [if_neg c14] at H
        exact absurd H (by simp)
      ·rw [if_neg c13] at H
       have c13b0 : decide (x9_2 ≤ a1) = false := decide_eq_false c13
       clear c13
       simp only [Option.some.injEq, Prod.mk.injEq] at H
       obtain ⟨rfl, rfl, rfl⟩ := H
       have hnb98 := NB263_256.out
       have hnc98 := NB256_263.out
       have hcz99_0 : wr.cell? ⟨gb263, 0, none⟩ = some (u264000) := (zP BK263.out 0).trans rfl
       have hcz99_1 : wr.cell? ⟨gb263, 1, none⟩ = some (u264001) := (zP BK263.out 1).trans rfl
       have hfz99_0 := zR BK263.out 0
       have hfz99_1 := zR BK263.out 1
       obtain ⟨Ao100, co100, eo100⟩ := Kd.S_slice HO_264000.out
       subst eo100
       have hcz101_0 : wr.cell? ⟨gb256, 0, none⟩ = some (.slice none 0 0) := (zP BK256.out 0).trans rfl
       have hcz101_1 : wr.cell? ⟨gb256, 1, none⟩ = some (.slice none 0 0) := (zP BK256.out 1).trans rfl
       have hfz101_0 := zR BK256.out 0
       have hfz101_1 := zR BK256.out 1
       obtain ⟨Ao102, co102, eo102⟩ := Kd.S_slice HO_264001.out
       subst eo102
       go_wp2
       refine bodyPost_ret (results_ct rfl _ _ gb256 48 #[.slice Ao100 x264000_2.length co100, .slice Ao102 x264001_2.length co102] (0, 0) _ rfl (by (with_reducible repeat (first|refine zJ ?_ _|refine zK ?_|refine zL ?_ _));refine blk_put (cs := #[.slice Ao100 x264000_2.length co100, .slice none 0 0]) ?_ 1 _ rfl;(with_reducible repeat (first|refine zJ ?_ _|refine zK ?_|refine zL ?_ _));refine blk_put (cs := #[.slice none 0 0, .slice none 0 0]) ?_ 0 _ rfl;(with_reducible repeat (first|refine zJ ?_ _|refine zK ?_|refine zL ?_ _));exact BK256.out) Tryd.underlying48 rfl (by kernel_rfl)) rfl ?_
       exact ⟨_, _, by first|rfl|(simp [errW_none, errW_some] <;> rfl)|(simp [*, errW_none, errW_some] <;> rfl), by (with_reducible repeat (first|apply yy4|apply yy5|apply yy6));exact Kd.S_mono (Kd.S_far (p := ⟨gb256, 1, none⟩) (Kd.S_far (p := ⟨gb256, 0, none⟩) (Kd.S_types HO_264000.out BK256.out (by decide)) (fun _ hk => hk.2) (.slice Ao100 x264000_2.length co100)) (fun _ hk => hk.2) (.slice Ao102 x264001_2.length co102)) (fun _ hk => hk.1), by (with_reducible repeat (first|apply yy4|apply yy5|apply yy6));exact Kd.S_mono (Kd.S_far (p := ⟨gb256, 1, none⟩) (Kd.S_far (p := ⟨gb256, 0, none⟩) (Kd.S_types HO_264001.out BK256.out (by decide)) (fun _ hk => hk.2) (.slice Ao100 x264000_2.length co100)) (fun _ hk => hk.2) (.slice Ao102 x264001_2.length co102)) (fun _ hk => hk.1), by repeat (first|(with_reducible first|exact HB.out|apply zG|apply zF|apply zH|refine zI ?_ GE256.out|refine zI ?_ GE263.out)|exact HB.out)⟩

end Go.Proofs.YtgddljealeklkaaDoor.PL
end
-- PLx10
section
namespace Go.Proofs.YtgddljealeklkaaDoor.PL
open Go.RowKit Go.Proofs.YtgddljealeklkaaDoorW.PrintWords Go.Proofs.YtgddljealeklkaaDoorW.PrintLast Go.Proofs.YtgddljealeklkaaDoorW.PrintMore
attribute [local go_sem] max2_int min2_int max_two min_two max_three min_three max_four min_four   -- for this text's walks alone
set_option linter.unusedVariables false
set_option linter.unusedSimpArgs false

mutual
def quarryref00_SameBits.j0 : Nat → Bool → Int → List Int → Int → List Int → Option (Bool)
 | 0, _, _, _, _, _ => none
 | k + 1, x19, x300000, x300001, x301000, x301001 => if x19 = true then (some false) else (quarryref00_SameBits.l0 k 0 x300000 x300001 x301000 x301001)
def quarryref00_SameBits.l0 : Nat → Int → Int → List Int → Int → List Int → Option (Bool)
 | 0, _, _, _, _, _ => none
 | k + 1, x5, x300000, x300001, x301000, x301001 => if x5 < (x300001.length : Int) then (if 0 ≤ x5 then (if x5 < (x301001.length : Int) then (if (rd x300001 x5) = (rd x301001 x5) then (quarryref00_SameBits.l0 k (wrap64 (x5 + 1)) x300000 x300001 x301000 x301001) else (some false)) else (none)) else (none)) else (some true)
end
def quarryref00_SameBits.f (k : Nat) (a0_0 : Int) (l0_1 : List Int) (a1_0 : Int) (l1_1 : List Int) : Option (Bool) := if a0_0 = a1_0 then (quarryref00_SameBits.j0 k ((l0_1.length : Int) != (l1_1.length : Int)) a0_0 l0_1 a1_0 l1_1) else (quarryref00_SameBits.j0 k true a0_0 l0_1 a1_0 l1_1)
set_option maxHeartbeats 8000000 in
set_option maxRecDepth 100000 in
theorem quarryref00_SameBits.calls (k : Nat) (a0_0 : Int) (A0_1 : Option Addr) (c0_1 : Nat) (l0_1 : List Int) (a1_0 : Int) (A1_1 : Option Addr) (c1_1 : Nat) (l1_1 : List Int) (r : Bool) (w : World) (hr0_1 : Kd.C (Kd.int .u64) w A0_1 l0_1.length l0_1) (hc0_1 : l0_1.length ≤ c0_1) (hr1_1 : Kd.C (Kd.int .u64) w A1_1 l1_1.length l1_1) (hc1_1 : l1_1.length ≤ c1_1) (h : quarryref00_SameBits.f k a0_0 l0_1 a1_0 l1_1 = some r) :
  Calls Tryd.prog 69 #[.agg #[.int .i64 a0_0, .slice A0_1 l0_1.length c0_1], .agg #[.int .i64 a1_0, .slice A1_1 l1_1.length c1_1]] w fun e w' => e = .returned (.bool r) ∧ Below w.heap.size w w' := by
 have hu34 := Tryd.underlying34
 have HR0_1 := zA hr0_1
 have HC0_1 := zA hc0_1
 clear hr0_1 hc0_1
 have HR1_1 := zA hr1_1
 have HC1_1 := zA hc1_1
 clear hr1_1 hc1_1
 have HB := zA (Below.refl w.heap.size w)
 have H : (if a0_0 = a1_0 then (quarryref00_SameBits.j0 k ((l0_1.length : Int) != (l1_1.length : Int)) a0_0 l0_1 a1_0 l1_1) else (quarryref00_SameBits.j0 k true a0_0 l0_1 a1_0 l1_1)) = some r := h
 clear h
 have HC3 := zA H
 clear H
 go_enter Tryd.func69, Tryd.ntmps69
 go_upto_region 1 with (first|((with_reducible refine gate_dst (N := 2) rfl ?_);(try (refine gate_guard (by rfl) ?_;dsimp only));refine box_event ?hg (N := 2) ?hd (cs := #[.int .i64 a0_0, .slice A0_1 l0_1.length c0_1]) (t := 34) ?hr ?_;(case hd => rfl);(case hg => rfl);(case hr => first|(go_simp;done)|(go_simp;rfl));intro gb299 hg w4 hbox hb;have n0_ := zA (zN (by repeat (first|(with_reducible first|exact HB.out|apply zG|apply zF|apply zH)|exact HB.out)) hb);have n1_ := zA (hbox);have n2_ := zA ((by rw [hg];exact (zO (by repeat (first|(with_reducible first|exact HB.out|apply zG|apply zF|apply zH)|exact HB.out))) : w.heap.size ≤ gb299));have n3_ := zA ((by rw [hg];exact (zO (by repeat (first|(with_reducible first|exact HB.out|apply zG|apply zF|apply zH)|exact HB.out))) : w.heap.size ≤ gb299));clear HB;have HB := n0_;have BK299 := n1_;have GW299 := n2_;have GE299 := n3_;clear n0_ n1_ n2_ n3_;clear hb hbox hg)|((with_reducible refine gate_dst (N := 3) rfl ?_);(try (refine gate_guard (by rfl) ?_;dsimp only));refine box_event ?hg (N := 3) ?hd (cs := #[.int .i64 a1_0, .slice A1_1 l1_1.length c1_1]) (t := 34) ?hr ?_;(case hd => rfl);(case hg => rfl);(case hr => first|(go_simp;done)|(go_simp;rfl));intro gb300 hg w5 hbox hb;have n0_ := zA (zQ (g := gb299) (o := .cells #[.int .i64 a0_0, .slice A0_1 l0_1.length c0_1] 34 (0, 0)) (by (with_reducible repeat (first|refine zJ ?_ _|refine zK ?_|refine zL ?_ _));exact BK299.out) hb);have n1_ := zA (zN (by repeat (first|(with_reducible first|exact HB.out|apply zG|apply zF|apply zH|refine zI ?_ GE299.out)|exact HB.out)) hb);have n2_ := zA (hbox);have n3_ := zA ((by rw [hg];exact (zO (by repeat (first|(with_reducible first|exact HB.out|apply zG|apply zF|apply zH|refine zI ?_ GE299.out)|exact HB.out))) : w.heap.size ≤ gb300));have n4_ := zA ((by rw [hg];exact (zO (by repeat (first|(with_reducible first|exact HB.out|apply zG|apply zF|apply zH|refine zI ?_ GE299.out)|exact HB.out))) : w.heap.size ≤ gb300));have n5_ := zA ((by rw [hg];exact Nat.ne_of_lt (blk_lt (g := gb299) (o := .cells #[.int .i64 a0_0, .slice A0_1 l0_1.length c0_1] 34 (0, 0)) (by (with_reducible repeat (first|refine zJ ?_ _|refine zK ?_|refine zL ?_ _));exact BK299.out)) : gb299 ≠ gb300));have n6_ := zA ((by rw [hg];exact Nat.ne_of_gt (blk_lt (g := gb299) (o := .cells #[.int .i64 a0_0, .slice A0_1 l0_1.length c0_1] 34 (0, 0)) (by (with_reducible repeat (first|refine zJ ?_ _|refine zK ?_|refine zL ?_ _));exact BK299.out)) : gb300 ≠ gb299));clear BK299;clear HB;have BK299 := n0_;have HB := n1_;have BK300 := n2_;have GW300 := n3_;have GE300 := n4_;have NB299_300 := n5_;have NB300_299 := n6_;clear n0_ n1_ n2_ n3_ n4_ n5_ n6_;clear hb hbox hg))
 repeat (go_quiet (first|((with_reducible refine gate_dst (N := 2) rfl ?_);(try (refine gate_guard (by rfl) ?_;dsimp only));refine box_event ?hg (N := 2) ?hd (cs := #[.int .i64 a0_0, .slice A0_1 l0_1.length c0_1]) (t := 34) ?hr ?_;(case hd => rfl);(case hg => rfl);(case hr => first|(go_simp;done)|(go_simp;rfl));intro gb299 hg w4 hbox hb;have n0_ := zA (zN (by repeat (first|(with_reducible first|exact HB.out|apply zG|apply zF|apply zH)|exact HB.out)) hb);have n1_ := zA (hbox);have n2_ := zA ((by rw [hg];exact (zO (by repeat (first|(with_reducible first|exact HB.out|apply zG|apply zF|apply zH)|exact HB.out))) : w.heap.size ≤ gb299));have n3_ := zA ((by rw [hg];exact (zO (by repeat (first|(with_reducible first|exact HB.out|apply zG|apply zF|apply zH)|exact HB.out))) : w.heap.size ≤ gb299));clear HB;have HB := n0_;have BK299 := n1_;have GW299 := n2_;have GE299 := n3_;clear n0_ n1_ n2_ n3_;clear hb hbox hg)|((with_reducible refine gate_dst (N := 3) rfl ?_);(try (refine gate_guard (by rfl) ?_;dsimp only));refine box_event ?hg (N := 3) ?hd (cs := #[.int .i64 a1_0, .slice A1_1 l1_1.length c1_1]) (t := 34) ?hr ?_;(case hd => rfl);(case hg => rfl);(case hr => first|(go_simp;done)|(go_simp;rfl));intro gb300 hg w5 hbox hb;have n0_ := zA (zQ (g := gb299) (o := .cells #[.int .i64 a0_0, .slice A0_1 l0_1.length c0_1] 34 (0, 0)) (by (with_reducible repeat (first|refine zJ ?_ _|refine zK ?_|refine zL ?_ _));exact BK299.out) hb);have n1_ := zA (zN (by repeat (first|(with_reducible first|exact HB.out|apply zG|apply zF|apply zH|refine zI ?_ GE299.out)|exact HB.out)) hb);have n2_ := zA (hbox);have n3_ := zA ((by rw [hg];exact (zO (by repeat (first|(with_reducible first|exact HB.out|apply zG|apply zF|apply zH|refine zI ?_ GE299.out)|exact HB.out))) : w.heap.size ≤ gb300));have n4_ := zA ((by rw [hg];exact (zO (by repeat (first|(with_reducible first|exact HB.out|apply zG|apply zF|apply zH|refine zI ?_ GE299.out)|exact HB.out))) : w.heap.size ≤ gb300));have n5_ := zA ((by rw [hg];exact Nat.ne_of_lt (blk_lt (g := gb299) (o := .cells #[.int .i64 a0_0, .slice A0_1 l0_1.length c0_1] 34 (0, 0)) (by (with_reducible repeat (first|refine zJ ?_ _|refine zK ?_|refine zL ?_ _));exact BK299.out)) : gb299 ≠ gb300));have n6_ := zA ((by rw [hg];exact Nat.ne_of_gt (blk_lt (g := gb299) (o := .cells #[.int .i64 a0_0, .slice A0_1 l0_1.length c0_1] 34 (0, 0)) (by (with_reducible repeat (first|refine zJ ?_ _|refine zK ?_|refine zL ?_ _));exact BK299.out)) : gb300 ≠ gb299));clear BK299;clear HB;have BK299 := n0_;have HB := n1_;have BK300 := n2_;have GW300 := n3_;have GE300 := n4_;have NB299_300 := n5_;have NB300_299 := n6_;clear n0_ n1_ n2_ n3_ n4_ n5_ n6_;clear hb hbox hg));go_upto_region 1 with (first|((with_reducible refine gate_dst (N := 2) rfl ?_);(try (refine gate_guard (by rfl) ?_;dsimp only));refine box_event ?hg (N := 2) ?hd (cs := #[.int .i64 a0_0, .slice A0_1 l0_1.length c0_1]) (t := 34) ?hr ?_;(case hd => rfl);(case hg => rfl);(case hr => first|(go_simp;done)|(go_simp;rfl));intro gb299 hg w4 hbox hb;have n0_ := zA (zN (by repeat (first|(with_reducible first|exact HB.out|apply zG|apply zF|apply zH)|exact HB.out)) hb);have n1_ := zA (hbox);have n2_ := zA ((by rw [hg];exact (zO (by repeat (first|(with_reducible first|exact HB.out|apply zG|apply zF|apply zH)|exact HB.out))) : w.heap.size ≤ gb299));have n3_ := zA ((by rw [hg];exact (zO (by repeat (first|(with_reducible first|exact HB.out|apply zG|apply zF|apply zH)|exact HB.out))) : w.heap.size ≤ gb299));clear HB;have HB := n0_;have BK299 := n1_;have GW299 := n2_;have GE299 := n3_;clear n0_ n1_ n2_ n3_;clear hb hbox hg)|((with_reducible refine gate_dst (N := 3) rfl ?_);(try (refine gate_guard (by rfl) ?_;dsimp only));refine box_event ?hg (N := 3) ?hd (cs := #[.int .i64 a1_0, .slice A1_1 l1_1.length c1_1]) (t := 34) ?hr ?_;(case hd => rfl);(case hg => rfl);(case hr => first|(go_simp;done)|(go_simp;rfl));intro gb300 hg w5 hbox hb;have n0_ := zA (zQ (g := gb299) (o := .cells #[.int .i64 a0_0, .slice A0_1 l0_1.length c0_1] 34 (0, 0)) (by (with_reducible repeat (first|refine zJ ?_ _|refine zK ?_|refine zL ?_ _));exact BK299.out) hb);have n1_ := zA (zN (by repeat (first|(with_reducible first|exact HB.out|apply zG|apply zF|apply zH|refine zI ?_ GE299.out)|exact HB.out)) hb);have n2_ := zA (hbox);have n3_ := zA ((by rw [hg];exact (zO (by repeat (first|(with_reducible first|exact HB.out|apply zG|apply zF|apply zH|refine zI ?_ GE299.out)|exact HB.out))) : w.heap.size ≤ gb300));have n4_ := zA ((by rw [hg];exact (zO (by repeat (first|(with_reducible first|exact HB.out|apply zG|apply zF|apply zH|refine zI ?_ GE299.out)|exact HB.out))) : w.heap.size ≤ gb300));have n5_ := zA ((by rw [hg];exact Nat.ne_of_lt (blk_lt (g := gb299) (o := .cells #[.int .i64 a0_0, .slice A0_1 l0_1.length c0_1] 34 (0, 0)) (by (with_reducible repeat (first|refine zJ ?_ _|refine zK ?_|refine zL ?_ _));exact BK299.out)) : gb299 ≠ gb300));have n6_ := zA ((by rw [hg];exact Nat.ne_of_gt (blk_lt (g := gb299) (o := .cells #[.int .i64 a0_0, .slice A0_1 l0_1.length c0_1] 34 (0, 0)) (by (with_reducible repeat (first|refine zJ ?_ _|refine zK ?_|refine zL ?_ _));exact BK299.out)) : gb300 ≠ gb299));clear BK299;clear HB;have BK299 := n0_;have HB := n1_;have BK300 := n2_;have GW300 := n3_;have GE300 := n4_;have NB299_300 := n5_;have NB300_299 := n6_;clear n0_ n1_ n2_ n3_ n4_ n5_ n6_;clear hb hbox hg)))
 (try simp only [Act.put, zB, zC, zD])
 go_cut [19] (fun v19 wc => ∃ (kq : Nat) (x19_2 : Bool), v19 = .bool x19_2 ∧ Aside0 (quarryref00_SameBits.j0 kq x19_2 a0_0 l0_1 a1_0 l1_1 = some r) ∧ Aside0 (kq ≤ k) ∧ Aside0 (wc.heap[gb299]? = some (.cells #[.int .i64 a0_0, (.slice A0_1 l0_1.length c0_1)] 34 (0, 0))) ∧ Aside0 (wc.heap[gb300]? = some (.cells #[.int .i64 a1_0, (.slice A1_1 l1_1.length c1_1)] 34 (0, 0))) ∧ Aside0 (Below w.heap.size w wc))
 case first =>
  have H := HC3.out
  clear HC3
  by_cases c6 : a0_0 = a1_0
  ·rw [if_pos c6] at H
   have c6b0 : (a0_0 == a1_0) = true := beq_iff_eq.mpr c6
   have c6b1 : (a0_0 != a1_0) = false := bne_eq_false_iff_eq.mpr c6
   clear c6
   (first|rw [c6b0]|(simp only [i64_w, i32_w];rw [c6b0])|skip)
   have H' := zA H
   clear H
   have hnb7 := NB299_300.out
   have hnc7 := NB300_299.out
   have hcz8_0 : w5.cell? ⟨gb299, 0, none⟩ = some (.int .i64 a0_0) := (zP BK299.out 0).trans rfl
   have hcz8_1 : w5.cell? ⟨gb299, 1, none⟩ = some (.slice A0_1 l0_1.length c0_1) := (zP BK299.out 1).trans rfl
   have hfz8_0 := zR BK299.out 0
   have hfz8_1 := zR BK299.out 1
   have hcz9_0 : w5.cell? ⟨gb300, 0, none⟩ = some (.int .i64 a1_0) := (zP BK300.out 0).trans rfl
   have hcz9_1 : w5.cell? ⟨gb300, 1, none⟩ = some (.slice A1_1 l1_1.length c1_1) := (zP BK300.out 1).trans rfl
   have hfz9_0 := zR BK300.out 0
   have hfz9_1 := zR BK300.out 1
   go_wp2
   repeat (go_quiet (fail);try go_wp2)
   go_meet
   case rel => exact ⟨_, (((l0_1.length : Int) != (l1_1.length : Int))), (by first|rfl|(simp;done)|(simp [*];done)), H', ⟨by first|omega|exact Nat.le_refl _⟩, ⟨by (with_reducible repeat (first|refine zJ ?_ _|refine zK ?_|refine zL ?_ _));exact BK299.out⟩, ⟨by (with_reducible repeat (first|refine zJ ?_ _|refine zK ?_|refine zL ?_ _));exact BK300.out⟩, ⟨by repeat (first|(with_reducible first|exact HB.out|apply zG|apply zF|apply zH|refine zI ?_ GE299.out|refine zI ?_ GE300.out)|exact HB.out)⟩⟩
  ·rw [if_neg c6] at H
   have c6b0 : (a0_0 == a1_0) = false := beq_eq_false_iff_ne.mpr c6
   have c6b1 : (a0_0 != a1_0) = true := bne_iff_ne.mpr c6
   (first|rw [c6b0]|(simp only [i64_w, i32_w];rw [c6b0])|skip)
   have H' := zA H
   clear H
   have hnb10 := NB299_300.out
   have hnc10 := NB300_299.out
   have hcz11_0 : w5.cell? ⟨gb299, 0, none⟩ = some (.int .i64 a0_0) := (zP BK299.out 0).trans rfl
   have hcz11_1 : w5.cell? ⟨gb299, 1, none⟩ = some (.slice A0_1 l0_1.length c0_1) := (zP BK299.out 1).trans rfl
   have hfz11_0 := zR BK299.out 0
   have hfz11_1 := zR BK299.out 1
   have hcz12_0 : w5.cell? ⟨gb300, 0, none⟩ = some (.int .i64 a1_0) := (zP BK300.out 0).trans rfl
   have hcz12_1 : w5.cell? ⟨gb300, 1, none⟩ = some (.slice A1_1 l1_1.length c1_1) := (zP BK300.out 1).trans rfl
   have hfz12_0 := zR BK300.out 0
   have hfz12_1 := zR BK300.out 1
   go_wp2
   repeat (go_quiet (fail);try go_wp2)
   go_meet
   case rel => exact ⟨_, (true), (by first|rfl|(simp;done)|(simp [*];done)), H', ⟨by first|omega|exact Nat.le_refl _⟩, ⟨by (with_reducible repeat (first|refine zJ ?_ _|refine zK ?_|refine zL ?_ _));exact BK299.out⟩, ⟨by (with_reducible repeat (first|refine zJ ?_ _|refine zK ?_|refine zL ?_ _));exact BK300.out⟩, ⟨by repeat (first|(with_reducible first|exact HB.out|apply zG|apply zF|apply zH|refine zI ?_ GE299.out|refine zI ?_ GE300.out)|exact HB.out)⟩⟩
 case rest =>
  clear HC3
  try clear c1
  try clear p2
  try clear c6
  try clear c6b0
  try clear c6b1
  try clear c7
  try clear c10
  try clear hcz11_0
  try clear hcz11_1
  try clear hcz12_0
  try clear hcz12_1
  try clear hcz8_0
  try clear hcz8_1
  try clear hcz9_0
  try clear hcz9_1
  try clear hfz11_0
  try clear hfz11_1
  try clear hfz12_0
  try clear hfz12_1
  try clear hfz8_0
  try clear hfz8_1
  try clear hfz9_0
  try clear hfz9_1
  obtain ⟨kq, x19_2, rfl, HA, HJ2, BK299, BK300, HB⟩ := hcut
  cases kq with
  | zero => exact absurd HA.out (by simp [quarryref00_SameBits.j0])
  | succ kj2 =>
   have H := HA.out
   clear HA
   simp only [quarryref00_SameBits.j0] at H
   by_cases c13 : x19_2 = true
   ·subst c13
    have H1 : (some false) = some r := by rw [if_pos rfl] at H;exact H
    clear H
    have H := H1
    clear H1
    obtain rfl := Option.some.inj H
    go_wp2
    repeat (go_quiet (fail);try go_wp2)
    go_ret
    exact ⟨by first|rfl|(simp [errW_none, errW_some] <;> rfl)|(simp [*, errW_none, errW_some] <;> rfl), by repeat (first|(with_reducible first|exact HB.out|apply zG|apply zF|apply zH|refine zI ?_ GE299.out|refine zI ?_ GE300.out)|exact HB.out)⟩
   ·replace c13 := Bool.eq_false_iff.mpr c13
    subst c13
    have H1 : (quarryref00_SameBits.l0 kj2 0 a0_0 l0_1 a1_0 l1_1) = some r := by rw [if_neg (show ¬ (false = true) by decide)] at H;exact H
    clear H
    have H := H1
    clear H1
    have H' := zA H
    clear H
    go_wp2
    repeat (go_quiet (fail);try go_wp2)
    go_loopg [5] kj2 (fun kq v5 w' => ∃ (x5_2 : Int), v5 = .int .i64 x5_2 ∧ Aside0 (quarryref00_SameBits.l0 kq x5_2 a0_0 l0_1 a1_0 l1_1 = some r) ∧ Aside0 (kq ≤ kj2) ∧ Aside0 (w'.heap[gb299]? = some (.cells #[.int .i64 a0_0, (.slice A0_1 l0_1.length c0_1)] 34 (0, 0))) ∧ Aside0 (w'.heap[gb300]? = some (.cells #[.int .i64 a1_0, (.slice A1_1 l1_1.length c1_1)] 34 (0, 0))) ∧ Aside0 (Below w.heap.size w w'))
    case atStart => exact ⟨(0), (by first|rfl|(simp;done)|(simp [*];done)), H', ⟨Nat.le_refl _⟩, ⟨by (with_reducible repeat (first|refine zJ ?_ _|refine zK ?_|refine zL ?_ _));exact BK299.out⟩, ⟨by (with_reducible repeat (first|refine zJ ?_ _|refine zK ?_|refine zL ?_ _));exact BK300.out⟩, ⟨by repeat (first|(with_reducible first|exact HB.out|apply zG|apply zF|apply zH|refine zI ?_ GE299.out|refine zI ?_ GE300.out)|exact HB.out)⟩⟩
    case round =>
     clear H'
     try clear c1
     try clear p2
     try clear c6
     try clear c6b0
     try clear c6b1
     try clear c7
     try clear c10
     try clear c13
     try clear hcz11_0
     try clear hcz11_1
     try clear hcz12_0
     try clear hcz12_1
     try clear hcz8_0
     try clear hcz8_1
     try clear hcz9_0
     try clear hcz9_1
     try clear hfz11_0
     try clear hfz11_1
     try clear hfz12_0
     try clear hfz12_1
     try clear hfz8_0
     try clear hfz8_1
     try clear hfz9_0
     try clear hfz9_1
     try clear p2
     obtain ⟨x5_2, rfl, HA, HK2, BK299, BK300, HB⟩ := hrel
     cases gk with
     | zero => exact absurd HA.out (by simp [quarryref00_SameBits.l0])
     | succ k2 =>
      have H := HA.out
      clear HA
      simp only [quarryref00_SameBits.l0] at H
      by_cases c14 : x5_2 < (l0_1.length : Int)
      ·rw [if_pos c14] at H
       have c14b0 : decide (x5_2 < (l0_1.length : Int)) = true := zz1 c14
       clear c14
       by_cases c15 : 0 ≤ x5_2
       ·rw [if_pos c15] at H
        have c15b0 : decide (0 ≤ x5_2) = true := zz1 c15
        clear c15
        by_cases c16 : x5_2 < (l1_1.length : Int)
        ·rw [if_pos c16] at H
         have c16b0 : decide (x5_2 < (l1_1.length : Int)) = true := zz1 c16
         clear c16
         by_cases c17 : (rd l0_1 x5_2) = (rd l1_1 x5_2)
         ·rw [if_pos c17] at H
          have c17b0 : ((rd l0_1 x5_2) == (rd l1_1 x5_2)) = true := beq_iff_eq.mpr c17
          have c17b1 : ((rd l0_1 x5_2) != (rd l1_1 x5_2)) = false := bne_eq_false_iff_eq.mpr c17
          clear c17
          have H' := zA H
          clear H
          have hnb18 := NB299_300.out
          have hnc18 := NB300_299.out
          have hcz19_0 : wr.cell? ⟨gb299, 0, none⟩ = some (.int .i64 a0_0) := (zP BK299.out 0).trans rfl
          have hcz19_1 : wr.cell? ⟨gb299, 1, none⟩ = some (.slice A0_1 l0_1.length c0_1) := (zP BK299.out 1).trans rfl
          have hfz19_0 := zR BK299.out 0
          have hfz19_1 := zR BK299.out 1
          have p301 : 0 ≤ (x5_2 : Int) := zE (by first|(with_reducible assumption)|assumption)
          have q301 : x5_2 < (l0_1.length : Int) := zE (by first|(with_reducible assumption)|assumption)
          obtain ⟨ad301, e301, hx301_0⟩ := Kd.at_int HR0_1.out x5_2 p301 q301
          cases e301
          replace hx301_0 := (HB.out.cell (zz4 w _ hx301_0)).trans hx301_0
          replace p301 := eq_true p301
          replace q301 := eq_true q301
          have hcz20_0 : wr.cell? ⟨gb300, 0, none⟩ = some (.int .i64 a1_0) := (zP BK300.out 0).trans rfl
          have hcz20_1 : wr.cell? ⟨gb300, 1, none⟩ = some (.slice A1_1 l1_1.length c1_1) := (zP BK300.out 1).trans rfl
          have hfz20_0 := zR BK300.out 0
          have hfz20_1 := zR BK300.out 1
          have p302 : 0 ≤ (x5_2 : Int) := zE (by first|(with_reducible assumption)|assumption)
          have q302 : x5_2 < (l1_1.length : Int) := zE (by first|(with_reducible assumption)|assumption)
          obtain ⟨ad302, e302, hx302_0⟩ := Kd.at_int HR1_1.out x5_2 p302 q302
          cases e302
          replace hx302_0 := (HB.out.cell (zz4 w _ hx302_0)).trans hx302_0
          replace p302 := eq_true p302
          replace q302 := eq_true q302
          go_wp2
          repeat (go_quiet (fail);try go_wp2)
          go_roundg k2
          case measure => have := HJ2.out;have := HK2.out;omega
          case rel => exact ⟨(wrap64 (x5_2 + 1)), (by first|rfl|(simp;done)|(simp [*];done)), H', ⟨by have := HJ2.out;have := HK2.out;omega⟩, ⟨by (with_reducible repeat (first|refine zJ ?_ _|refine zK ?_|refine zL ?_ _));exact BK299.out⟩, ⟨by (with_reducible repeat (first|refine zJ ?_ _|refine zK ?_|refine zL ?_ _));exact BK300.out⟩, ⟨by repeat (first|(with_reducible first|exact HB.out|apply zG|apply zF|apply zH|refine zI ?_ GE299.out|refine zI ?_ GE300.out)|exact HB.out)⟩⟩
         ·rw [if_neg c17] at H
          have c17b0 : ((rd l0_1 x5_2) == (rd l1_1 x5_2)) = false := beq_eq_false_iff_ne.mpr c17
          have c17b1 : ((rd l0_1 x5_2) != (rd l1_1 x5_2)) = true := bne_iff_ne.mpr c17
          obtain rfl := Option.some.inj H
          have hnb21 := NB299_300.out
          have hnc21 := NB300_299.out
          have hcz22_0 : wr.cell? ⟨gb299, 0, none⟩ = some (.int .i64 a0_0) := (zP BK299.out 0).trans rfl
          have hcz22_1 : wr.cell? ⟨gb299, 1, none⟩ = some (.slice A0_1 l0_1.length c0_1) := (zP BK299.out 1).trans rfl
          have hfz22_0 := zR BK299.out 0
          have hfz22_1 := zR BK299.out 1
          have p301 : 0 ≤ (x5_2 : Int) := zE (by first|(with_reducible assumption)|assumption)
          have q301 : x5_2 < (l0_1.length : Int) := zE (by first|(with_reducible assumption)|assumption)
          obtain ⟨ad301, e301, hx301_0⟩ := Kd.at_int HR0_1.out x5_2 p301 q301
          cases e301
          replace hx301_0 := (HB.out.cell (zz4 w _ hx301_0)).trans hx301_0
          replace p301 := eq_true p301
          replace q301 := eq_true q301
          have hcz23_0 : wr.cell? ⟨gb300, 0, none⟩ = some (.int .i64 a1_0) := (zP BK300.out 0).trans rfl
          have hcz23_1 : wr.cell? ⟨gb300, 1, none⟩ = some (.slice A1_1 l1_1.length c1_1) := (zP BK300.out 1).trans rfl
          have hfz23_0 := zR BK300.out 0
          have hfz23_1 := zR BK300.out 1
          have p302 : 0 ≤ (x5_2 : Int) := zE (by first|(with_reducible assumption)|assumption)
          have q302 : x5_2 < (l1_1.length : Int) := zE (by first|(with_reducible assumption)|assumption)
          obtain ⟨ad302, e302, hx302_0⟩ := Kd.at_int HR1_1.out x5_2 p302 q302
          cases e302
          replace hx302_0 := (HB.out.cell (zz4 w _ hx302_0)).trans hx302_0
          replace p302 := eq_true p302
          replace q302 := eq_true q302
          go_wp2
          repeat (go_quiet (fail);try go_wp2)
          go_ret
          exact ⟨by first|rfl|(simp [errW_none, errW_some] <;> rfl)|(simp [*, errW_none, errW_some] <;> rfl), by repeat (first|(with_reducible first|exact HB.out|apply zG|apply zF|apply zH|refine zI ?_ GE299.out|refine zI ?_ GE300.out)|exact HB.out)⟩
        ·rw [if_neg c16] at H
         exact absurd H (by simp)
       ·rw [if_neg c15] at H
        exact absurd H (by simp)
      ·rw [if_neg c14] at H
       have c14b0 : decide (x5_2 < (l0_1.length : Int)) = false := decide_eq_false c14
       clear c14
       obtain rfl := Option.some.inj H
       have hnb24 := NB299_300.out
       have hnc24 := NB300_299.out
       have hcz25_0 : wr.cell? ⟨gb299, 0, none⟩ = some (.int .i64 a0_0) := (zP BK299.out 0).trans rfl
       have hcz25_1 : wr.cell? ⟨gb299, 1, none⟩ = some (.slice A0_1 l0_1.length c0_1) := (zP BK299.out 1).trans rfl
       have hfz25_0 := zR BK299.out 0
       have hfz25_1 := zR BK299.out 1
       go_wp2
       repeat (go_quiet (fail);try go_wp2)
       go_ret
       exact ⟨by first|rfl|(simp [errW_none, errW_some] <;> rfl)|(simp [*, errW_none, errW_some] <;> rfl), by repeat (first|(with_reducible first|exact HB.out|apply zG|apply zF|apply zH|refine zI ?_ GE299.out|refine zI ?_ GE300.out)|exact HB.out)⟩

mutual
def quarryref00_SameLevels.j0 : Nat → Bool → List (S34) → List (S34) → List (S34) → List (S34) → Option (Bool)
 | 0, _, _, _, _, _ => none
 | k + 1, x22, x304000, x304001, x305000, x305001 => if x22 = true then (some false) else (quarryref00_SameLevels.l0 k 0 x304000 x304001 x305000 x305001)
def quarryref00_SameLevels.l0 : Nat → Int → List (S34) → List (S34) → List (S34) → List (S34) → Option (Bool)
 | 0, _, _, _, _, _ => none
 | k + 1, x5, x304000, x304001, x305000, x305001 => if x5 < (x304000.length : Int) then (if 0 ≤ x5 then (if x5 < (x305000.length : Int) then ((quarryref00_SameBits.f k ((rd_T34 x304000 x5).f0) ((rd_T34 x304000 x5).f1) ((rd_T34 x305000 x5).f0) ((rd_T34 x305000 x5).f1)).bind fun t307 => (if t307 = true then (quarryref00_SameLevels.l0 k (wrap64 (x5 + 1)) x304000 x304001 x305000 x305001) else (some false))) else (none)) else (none)) else (quarryref00_SameLevels.l1 k 0 x304000 x304001 x305000 x305001)
def quarryref00_SameLevels.l1 : Nat → Int → List (S34) → List (S34) → List (S34) → List (S34) → Option (Bool)
 | 0, _, _, _, _, _ => none
 | k + 1, x6, x304000, x304001, x305000, x305001 => if x6 < (x304001.length : Int) then (if 0 ≤ x6 then (if x6 < (x305001.length : Int) then ((quarryref00_SameBits.f k ((rd_T34 x304001 x6).f0) ((rd_T34 x304001 x6).f1) ((rd_T34 x305001 x6).f0) ((rd_T34 x305001 x6).f1)).bind fun t310 => (if t310 = true then (quarryref00_SameLevels.l1 k (wrap64 (x6 + 1)) x304000 x304001 x305000 x305001) else (some false))) else (none)) else (none)) else (some true)
end
def quarryref00_SameLevels.f (k : Nat) (l0_0 : List (S34)) (l0_1 : List (S34)) (l1_0 : List (S34)) (l1_1 : List (S34)) : Option (Bool) := if (l0_0.length : Int) = (l1_0.length : Int) then (quarryref00_SameLevels.j0 k ((l0_1.length : Int) != (l1_1.length : Int)) l0_0 l0_1 l1_0 l1_1) else (quarryref00_SameLevels.j0 k true l0_0 l0_1 l1_0 l1_1)
def quarryref00_SameLevels.T6 : Bool × List (List Nat × List Nat) := (true, [([], []), ([0], [0]), ([], []), ([1, 2], [1, 2]), ([3], [3]), ([], []), ([5], [5]), ([], []), ([6, 7], [6, 7]), ([8], [8]), ([4, 9], [4, 9]), ([10], [10])])
def quarryref00_SameLevels.B6 : List Nat := [0, 1, 0, 7, 15, 0, 32, 0, 224, 480, 1023, 2047]
theorem quarryref00_SameLevels.tab6 : rtab .any (opsOf Tryd.f31 6) = quarryref00_SameLevels.T6 := by kernel_rfl
theorem quarryref00_SameLevels.bits6 : waitsOk quarryref00_SameLevels.T6.2 quarryref00_SameLevels.B6 = true := by kernel_rfl
def quarryref00_SameLevels.T11 : Bool × List (List Nat × List Nat) := (true, [([], []), ([0], [0]), ([], []), ([1, 2], [1, 2]), ([3], [3]), ([], []), ([5], [5]), ([], []), ([6, 7], [6, 7]), ([8], [8]), ([4, 9], [4, 9]), ([10], [10])])
def quarryref00_SameLevels.B11 : List Nat := [0, 1, 0, 7, 15, 0, 32, 0, 224, 480, 1023, 2047]
theorem quarryref00_SameLevels.tab11 : rtab .any (opsOf Tryd.f31 11) = quarryref00_SameLevels.T11 := by kernel_rfl
theorem quarryref00_SameLevels.bits11 : waitsOk quarryref00_SameLevels.T11.2 quarryref00_SameLevels.B11 = true := by kernel_rfl
set_option maxHeartbeats 8000000 in
set_option maxRecDepth 100000 in
theorem quarryref00_SameLevels.calls (k : Nat) (A0_0 : Option Addr) (c0_0 : Nat) (l0_0 : List (S34)) (A0_1 : Option Addr) (c0_1 : Nat) (l0_1 : List (S34)) (A1_0 : Option Addr) (c1_0 : Nat) (l1_0 : List (S34)) (A1_1 : Option Addr) (c1_1 : Nat) (l1_1 : List (S34)) (r : Bool) (w : World) (hr0_0 : Kd.C k34 w A0_0 l0_0.length l0_0) (hc0_0 : l0_0.length ≤ c0_0) (hr0_1 : Kd.C k34 w A0_1 l0_1.length l0_1) (hc0_1 : l0_1.length ≤ c0_1) (hr1_0 : Kd.C k34 w A1_0 l1_0.length l1_0) (hc1_0 : l1_0.length ≤ c1_0) (hr1_1 : Kd.C k34 w A1_1 l1_1.length l1_1) (hc1_1 : l1_1.length ≤ c1_1) (h : quarryref00_SameLevels.f k l0_0 l0_1 l1_0 l1_1 = some r) :
  Calls Tryd.prog 31 #[.agg #[.slice A0_0 l0_0.length c0_0, .slice A0_1 l0_1.length c0_1], .agg #[.slice A1_0 l1_0.length c1_0, .slice A1_1 l1_1.length c1_1]] w fun e w' => e = .returned (.bool r) ∧ Below w.heap.size w w' := by
 have hu48 := Tryd.underlying48
 have hu34 := Tryd.underlying34
 have HR0_0 := zA hr0_0
 have HC0_0 := zA hc0_0
 clear hr0_0 hc0_0
 have HR0_1 := zA hr0_1
 have HC0_1 := zA hc0_1
 clear hr0_1 hc0_1
 have HR1_0 := zA hr1_0
 have HC1_0 := zA hc1_0
 clear hr1_0 hc1_0
 have HR1_1 := zA hr1_1
 have HC1_1 := zA hc1_1
 clear hr1_1 hc1_1
 have HB := zA (Below.refl w.heap.size w)
 have H : (if (l0_0.length : Int) = (l1_0.length : Int) then (quarryref00_SameLevels.j0 k ((l0_1.length : Int) != (l1_1.length : Int)) l0_0 l0_1 l1_0 l1_1) else (quarryref00_SameLevels.j0 k true l0_0 l0_1 l1_0 l1_1)) = some r := h
 clear h
 have HC3 := zA H
 clear H
 go_enter Tryd.func31, Tryd.ntmps31
 go_upto_region 1 with (first|((with_reducible refine gate_dst (N := 2) rfl ?_);(try (refine gate_guard (by rfl) ?_;dsimp only));refine box_event ?hg (N := 2) ?hd (cs := #[.slice A0_0 l0_0.length c0_0, .slice A0_1 l0_1.length c0_1]) (t := 48) ?hr ?_;(case hd => rfl);(case hg => rfl);(case hr => first|(go_simp;done)|(go_simp;rfl));intro gb303 hg w4 hbox hb;have n0_ := zA (zN (by repeat (first|(with_reducible first|exact HB.out|apply zG|apply zF|apply zH)|exact HB.out)) hb);have n1_ := zA (hbox);have n2_ := zA ((by rw [hg];exact (zO (by repeat (first|(with_reducible first|exact HB.out|apply zG|apply zF|apply zH)|exact HB.out))) : w.heap.size ≤ gb303));have n3_ := zA ((by rw [hg];exact (zO (by repeat (first|(with_reducible first|exact HB.out|apply zG|apply zF|apply zH)|exact HB.out))) : w.heap.size ≤ gb303));clear HB;have HB := n0_;have BK303 := n1_;have GW303 := n2_;have GE303 := n3_;clear n0_ n1_ n2_ n3_;clear hb hbox hg)|((with_reducible refine gate_dst (N := 3) rfl ?_);(try (refine gate_guard (by rfl) ?_;dsimp only));refine box_event ?hg (N := 3) ?hd (cs := #[.slice A1_0 l1_0.length c1_0, .slice A1_1 l1_1.length c1_1]) (t := 48) ?hr ?_;(case hd => rfl);(case hg => rfl);(case hr => first|(go_simp;done)|(go_simp;rfl));intro gb304 hg w5 hbox hb;have n0_ := zA (zQ (g := gb303) (o := .cells #[.slice A0_0 l0_0.length c0_0, .slice A0_1 l0_1.length c0_1] 48 (0, 0)) (by (with_reducible repeat (first|refine zJ ?_ _|refine zK ?_|refine zL ?_ _));exact BK303.out) hb);have n1_ := zA (zN (by repeat (first|(with_reducible first|exact HB.out|apply zG|apply zF|apply zH|refine zI ?_ GE303.out)|exact HB.out)) hb);have n2_ := zA (hbox);have n3_ := zA ((by rw [hg];exact (zO (by repeat (first|(with_reducible first|exact HB.out|apply zG|apply zF|apply zH|refine zI ?_ GE303.out)|exact HB.out))) : w.heap.size ≤ gb304));have n4_ := zA ((by rw [hg];exact (zO (by repeat (first|(with_reducible first|exact HB.out|apply zG|apply zF|apply zH|refine zI ?_ GE303.out)|exact HB.out))) : w.heap.size ≤ gb304));have n5_ := zA ((by rw [hg];exact Nat.ne_of_lt (blk_lt (g := gb303) (o := .cells #[.slice A0_0 l0_0.length c0_0, .slice A0_1 l0_1.length c0_1] 48 (0, 0)) (by (with_reducible repeat (first|refine zJ ?_ _|refine zK ?_|refine zL ?_ _));exact BK303.out)) : gb303 ≠ gb304));have n6_ := zA ((by rw [hg];exact Nat.ne_of_gt (blk_lt (g := gb303) (o := .cells #[.slice A0_0 l0_0.length c0_0, .slice A0_1 l0_1.length c0_1] 48 (0, 0)) (by (with_reducible repeat (first|refine zJ ?_ _|refine zK ?_|refine zL ?_ _));exact BK303.out)) : gb304 ≠ gb303));clear BK303;clear HB;have BK303 := n0_;have HB := n1_;have BK304 := n2_;have GW304 := n3_;have GE304 := n4_;have NB303_304 := n5_;have NB304_303 := n6_;clear n0_ n1_ n2_ n3_ n4_ n5_ n6_;clear hb hbox hg))
 (try simp only [Act.put, zB, zC, zD])
 go_cut [22] (fun v22 wc => ∃ (kq : Nat) (x22_2 : Bool), v22 = .bool x22_2 ∧ Aside0 (quarryref00_SameLevels.j0 kq x22_2 l0_0 l0_1 l1_0 l1_1 = some r) ∧ Aside0 (kq ≤ k) ∧ Aside0 (wc.heap[gb303]? = some (.cells #[(.slice A0_0 l0_0.length c0_0), (.slice A0_1 l0_1.length c0_1)] 48 (0, 0))) ∧ Aside0 (wc.heap[gb304]? = some (.cells #[(.slice A1_0 l1_0.length c1_0), (.slice A1_1 l1_1.length c1_1)] 48 (0, 0))) ∧ Aside0 (Below w.heap.size w wc))
 case first =>
  have H := HC3.out
  clear HC3
  by_cases c6 : (l0_0.length : Int) = (l1_0.length : Int)
  ·rw [if_pos c6] at H
   have c6b0 : ((l0_0.length : Int) == (l1_0.length : Int)) = true := beq_iff_eq.mpr c6
   have c6b1 : ((l0_0.length : Int) != (l1_0.length : Int)) = false := bne_eq_false_iff_eq.mpr c6
   have c6b2 : (l0_0.length == l1_0.length) = true := by first|simpa using c6|(simp at c6 ⊢;omega)
   clear c6
   (first|rw [c6b0]|(simp only [i64_w, i32_w];rw [c6b0])|skip)
   have H' := zA H
   clear H
   have hnb7 := NB303_304.out
   have hnc7 := NB304_303.out
   have hcz8_0 : w5.cell? ⟨gb303, 0, none⟩ = some (.slice A0_0 l0_0.length c0_0) := (zP BK303.out 0).trans rfl
   have hcz8_1 : w5.cell? ⟨gb303, 1, none⟩ = some (.slice A0_1 l0_1.length c0_1) := (zP BK303.out 1).trans rfl
   have hfz8_0 := zR BK303.out 0
   have hfz8_1 := zR BK303.out 1
   have hcz9_0 : w5.cell? ⟨gb304, 0, none⟩ = some (.slice A1_0 l1_0.length c1_0) := (zP BK304.out 0).trans rfl
   have hcz9_1 : w5.cell? ⟨gb304, 1, none⟩ = some (.slice A1_1 l1_1.length c1_1) := (zP BK304.out 1).trans rfl
   have hfz9_0 := zR BK304.out 0
   have hfz9_1 := zR BK304.out 1
   go_wp2
   go_meet
   case rel => exact ⟨_, (((l0_1.length : Int) != (l1_1.length : Int))), (by first|rfl|(simp;done)|(simp [*];done)), H', ⟨by first|omega|exact Nat.le_refl _⟩, ⟨by (with_reducible repeat (first|refine zJ ?_ _|refine zK ?_|refine zL ?_ _));exact BK303.out⟩, ⟨by (with_reducible repeat (first|refine zJ ?_ _|refine zK ?_|refine zL ?_ _));exact BK304.out⟩, ⟨by repeat (first|(with_reducible first|exact HB.out|apply zG|apply zF|apply zH|refine zI ?_ GE303.out|refine zI ?_ GE304.out)|exact HB.out)⟩⟩
  ·rw [if_neg c6] at H
   have c6b0 : ((l0_0.length : Int) == (l1_0.length : Int)) = false := beq_eq_false_iff_ne.mpr c6
   have c6b1 : ((l0_0.length : Int) != (l1_0.length : Int)) = true := bne_iff_ne.mpr c6
   have c6b2 : (l0_0.length == l1_0.length) = false := by first|simpa using c6|(simp at c6 ⊢;omega)
   (first|rw [c6b0]|(simp only [i64_w, i32_w];rw [c6b0])|skip)
   have H' := zA H
   clear H
   have hnb10 := NB303_304.out
   have hnc10 := NB304_303.out
   have hcz11_0 : w5.cell? ⟨gb303, 0, none⟩ = some (.slice A0_0 l0_0.length c0_0) := (zP BK303.out 0).trans rfl
   have hcz11_1 : w5.cell? ⟨gb303, 1, none⟩ = some (.slice A0_1 l0_1.length c0_1) := (zP BK303.out 1).trans rfl
   have hfz11_0 := zR BK303.out 0
   have hfz11_1 := zR BK303.out 1
   have hcz12_0 : w5.cell? ⟨gb304, 0, none⟩ = some (.slice A1_0 l1_0.length c1_0) := (zP BK304.out 0).trans rfl
   have hcz12_1 : w5.cell? ⟨gb304, 1, none⟩ = some (.slice A1_1 l1_1.length c1_1) := (zP BK304.out 1).trans rfl
   have hfz12_0 := zR BK304.out 0
   have hfz12_1 := zR BK304.out 1
   go_wp2
   go_meet
   case rel => exact ⟨_, (true), (by first|rfl|(simp;done)|(simp [*];done)), H', ⟨by first|omega|exact Nat.le_refl _⟩, ⟨by (with_reducible repeat (first|refine zJ ?_ _|refine zK ?_|refine zL ?_ _));exact BK303.out⟩, ⟨by (with_reducible repeat (first|refine zJ ?_ _|refine zK ?_|refine zL ?_ _));exact BK304.out⟩, ⟨by repeat (first|(with_reducible first|exact HB.out|apply zG|apply zF|apply zH|refine zI ?_ GE303.out|refine zI ?_ GE304.out)|exact HB.out)⟩⟩
 case rest =>
  clear HC3
  try clear c1
  try clear p2
  try clear c3
  try clear c6
  try clear c6b0
  try clear c6b1
  try clear c6b2
  try clear c7
  try clear c10
  try clear hcz11_0
  try clear hcz11_1
  try clear hcz12_0
  try clear hcz12_1
  try clear hcz8_0
  try clear hcz8_1
  try clear hcz9_0
  try clear hcz9_1
  try clear hfz11_0
  try clear hfz11_1
  try clear hfz12_0
  try clear hfz12_1
  try clear hfz8_0
  try clear hfz8_1
  try clear hfz9_0
  try clear hfz9_1
  obtain ⟨kq, x22_2, rfl, HA, HJ2, BK303, BK304, HB⟩ := hcut
  cases kq with
  | zero => exact absurd HA.out (by simp [quarryref00_SameLevels.j0])
  | succ kj2 =>
   have H := HA.out
   clear HA
   simp only [quarryref00_SameLevels.j0] at H
   by_cases c13 : x22_2 = true
   ·subst c13
    have H1 : (some false) = some r := by rw [if_pos rfl] at H;exact H
    clear H
    have H := H1
    clear H1
    obtain rfl := Option.some.inj H
    go_wp2
    go_ret
    exact ⟨by first|rfl|(simp [errW_none, errW_some] <;> rfl)|(simp [*, errW_none, errW_some] <;> rfl), by repeat (first|(with_reducible first|exact HB.out|apply zG|apply zF|apply zH|refine zI ?_ GE303.out|refine zI ?_ GE304.out)|exact HB.out)⟩
   ·replace c13 := Bool.eq_false_iff.mpr c13
    subst c13
    have H1 : (quarryref00_SameLevels.l0 kj2 0 l0_0 l0_1 l1_0 l1_1) = some r := by rw [if_neg (show ¬ (false = true) by decide)] at H;exact H
    clear H
    have H := H1
    clear H1
    have H' := zA H
    clear H
    go_wp2
    go_loopg [5] kj2 (fun kq v5 w' => ∃ (x5_2 : Int), v5 = .int .i64 x5_2 ∧ Aside0 (quarryref00_SameLevels.l0 kq x5_2 l0_0 l0_1 l1_0 l1_1 = some r) ∧ Aside0 (kq ≤ kj2) ∧ Aside0 (w'.heap[gb303]? = some (.cells #[(.slice A0_0 l0_0.length c0_0), (.slice A0_1 l0_1.length c0_1)] 48 (0, 0))) ∧ Aside0 (w'.heap[gb304]? = some (.cells #[(.slice A1_0 l1_0.length c1_0), (.slice A1_1 l1_1.length c1_1)] 48 (0, 0))) ∧ Aside0 (Below w.heap.size w w'))
    case atStart => exact ⟨(0), (by first|rfl|(simp;done)|(simp [*];done)), H', ⟨Nat.le_refl _⟩, ⟨by (with_reducible repeat (first|refine zJ ?_ _|refine zK ?_|refine zL ?_ _));exact BK303.out⟩, ⟨by (with_reducible repeat (first|refine zJ ?_ _|refine zK ?_|refine zL ?_ _));exact BK304.out⟩, ⟨by repeat (first|(with_reducible first|exact HB.out|apply zG|apply zF|apply zH|refine zI ?_ GE303.out|refine zI ?_ GE304.out)|exact HB.out)⟩⟩
    case round =>
     clear H'
     try clear c1
     try clear p2
     try clear c3
     try clear c6
     try clear c6b0
     try clear c6b1
     try clear c6b2
     try clear c7
     try clear c10
     try clear c13
     try clear hcz11_0
     try clear hcz11_1
     try clear hcz12_0
     try clear hcz12_1
     try clear hcz8_0
     try clear hcz8_1
     try clear hcz9_0
     try clear hcz9_1
     try clear hfz11_0
     try clear hfz11_1
     try clear hfz12_0
     try clear hfz12_1
     try clear hfz8_0
     try clear hfz8_1
     try clear hfz9_0
     try clear hfz9_1
     try clear p2
     obtain ⟨x5_2, rfl, HA, HK2, BK303, BK304, HB⟩ := hrel
     cases gk with
     | zero => exact absurd HA.out (by simp [quarryref00_SameLevels.l0])
     | succ k2 =>
      have H := HA.out
      clear HA
      simp only [quarryref00_SameLevels.l0] at H
      by_cases c14 : x5_2 < (l0_0.length : Int)
      ·rw [if_pos c14] at H
       have c14b0 : decide (x5_2 < (l0_0.length : Int)) = true := zz1 c14
       clear c14
       by_cases c15 : 0 ≤ x5_2
       ·rw [if_pos c15] at H
        have c15b0 : decide (0 ≤ x5_2) = true := zz1 c15
        clear c15
        by_cases c16 : x5_2 < (l1_0.length : Int)
        ·rw [if_pos c16] at H
         have c16b0 : decide (x5_2 < (l1_0.length : Int)) = true := zz1 c16
         clear c16
         replace H := Option.bind_eq_some_iff.mp H
         obtain ⟨t307, A170, H⟩ := H
         replace H : (if t307 = true then (quarryref00_SameLevels.l0 k2 (wrap64 (x5_2 + 1)) l0_0 l0_1 l1_0 l1_1) else (some false)) = some r := H
         have A17 := zA A170
         clear A170
         by_cases c18 : t307 = true
         ·subst c18
          have H1 : (quarryref00_SameLevels.l0 k2 (wrap64 (x5_2 + 1)) l0_0 l0_1 l1_0 l1_1) = some r := by rw [if_pos rfl] at H;exact H
          clear H
          have H := H1
          clear H1
          have H' := zA H
          clear H
          have hnb19 := NB303_304.out
          have hnc19 := NB304_303.out
          have hcz20_0 : wr.cell? ⟨gb303, 0, none⟩ = some (.slice A0_0 l0_0.length c0_0) := (zP BK303.out 0).trans rfl
          have hcz20_1 : wr.cell? ⟨gb303, 1, none⟩ = some (.slice A0_1 l0_1.length c0_1) := (zP BK303.out 1).trans rfl
          have hfz20_0 := zR BK303.out 0
          have hfz20_1 := zR BK303.out 1
          try go_wp2
          have n0_ := zA (zK BK303.out)
          have n1_ := zA (zK BK304.out)
          have n2_ := zA (zH HB.out)
          clear BK303
          clear BK304
          clear HB
          have BK303 := n0_
          have BK304 := n1_
          have HB := n2_
          clear n0_ n1_ n2_
          have p305 : 0 ≤ (x5_2 : Int) := zE (by first|(with_reducible assumption)|assumption)
          have q305 : x5_2 < (l0_0.length : Int) := zE (by first|(with_reducible assumption)|assumption)
          obtain ⟨ad305, A305_1, c305_1, e305, hx305_0, hx305_1, hl305_1, hi305_1⟩ := at_T34 HR0_0.out x5_2 p305 q305
          have hw305_1 := hx305_1
          have hw305_0 := hx305_0
          cases e305
          replace hx305_0 := (HB.out.cell (zz4 w _ hx305_0)).trans hx305_0
          replace hx305_1 := (HB.out.cell (zz4 w _ hx305_1)).trans hx305_1
          have HR305_1 := zA hi305_1
          have HC305_1 := zA hl305_1
          clear hi305_1 hl305_1
          replace p305 := eq_true p305
          replace q305 := eq_true q305
          have p306 : 0 ≤ (x5_2 : Int) := zE (by first|(with_reducible assumption)|assumption)
          have q306 : x5_2 < (l1_0.length : Int) := zE (by first|(with_reducible assumption)|assumption)
          obtain ⟨ad306, A306_1, c306_1, e306, hx306_0, hx306_1, hl306_1, hi306_1⟩ := at_T34 HR1_0.out x5_2 p306 q306
          have hw306_1 := hx306_1
          have hw306_0 := hx306_0
          cases e306
          replace hx306_0 := (HB.out.cell (zz4 w _ hx306_0)).trans hx306_0
          replace hx306_1 := (HB.out.cell (zz4 w _ hx306_1)).trans hx306_1
          have HR306_1 := zA hi306_1
          have HC306_1 := zA hl306_1
          clear hi306_1 hl306_1
          replace p306 := eq_true p306
          replace q306 := eq_true q306
          refine start_ (n := 12) (S := fun w' => w'.cell? ⟨gb303, 0, none⟩ = some (.slice (some ad305) l0_0.length c0_0) ∧ w'.cell? ⟨gb303, 1, none⟩ = some (.slice A0_1 l0_1.length c0_1) ∧ w'.cell? ⟨gb304, 0, none⟩ = some (.slice (some ad306) l1_0.length c1_0) ∧ w'.cell? ⟨gb304, 1, none⟩ = some (.slice A1_1 l1_1.length c1_1) ∧ w'.cell? (ad305.add ((x5_2).toNat * 2)) = some (.int .i64 ((rd_T34 l0_0 x5_2).f0)) ∧ w'.cell? ⟨(ad305.add ((x5_2).toNat * 2)).block, (ad305.add ((x5_2).toNat * 2)).off + 1, none⟩ = some (.slice A305_1 ((rd_T34 l0_0 x5_2).f1).length c305_1) ∧ w'.cell? (ad306.add ((x5_2).toNat * 2)) = some (.int .i64 ((rd_T34 l1_0 x5_2).f0)) ∧ w'.cell? ⟨(ad306.add ((x5_2).toNat * 2)).block, (ad306.add ((x5_2).toNat * 2)).off + 1, none⟩ = some (.slice A306_1 ((rd_T34 l1_0 x5_2).f1).length c306_1)) (ds := []) #[false, false, false, false, false, false, false, false, false, false, false, false] (by kernel_rfl) rfl rfl ⟨(zP BK303.out 0).trans rfl, (zP BK303.out 1).trans rfl, (zP BK304.out 0).trans rfl, (zP BK304.out 1).trans rfl, ((HB.out.cell (zz4 w _ hw305_0)).trans hw305_0), ((HB.out.cell (zz4 w _ hw305_1)).trans hw305_1), ((HB.out.cell (zz4 w _ hw306_0)).trans hw306_0), ((HB.out.cell (zz4 w _ hw306_1)).trans hw306_1)⟩ (fun hHeld => ?_);refine with_tabW quarryref00_SameLevels.tab6 quarryref00_SameLevels.bits6 (fun HT_ HW_ => ?_)
          generalize wr.drew = w21 at BK303 BK304 HB HR305_1 HR306_1 hx305_0 hx305_1 hx306_0 hx306_1 hHeld ⊢
          refine pure_ (i := 0) (N := some 30) (v := ?_) (a' := ?_) #[true, false, false, false, false, false, false, false, false, false, false, false] rfl rfl (any_of HT_.out (by kernel_rfl)) (fun _ _ _ h => h) (Or.inl ⟨by rfl, ?_⟩) ?_ ?_
          rotate_left
          ·intro w'
           go_simp
           with_reducible rfl
          rotate_left
          ·simp only [Act.put, zB, zC, zD, i64_w, i32_w]
           rfl
          refine pure_ (i := 2) (N := some 32) (v := ?_) (a' := ?_) #[true, false, true, false, false, false, false, false, false, false, false, false] rfl rfl (any_of HT_.out (by kernel_rfl)) (fun _ _ _ h => h) (Or.inl ⟨by rfl, ?_⟩) ?_ ?_
          rotate_left
          ·intro w'
           go_simp
           with_reducible rfl
          rotate_left
          ·simp only [Act.put, zB, zC, zD, i64_w, i32_w]
           rfl
          refine pure_ (i := 5) (N := some 35) (v := ?_) (a' := ?_) #[true, false, true, false, false, true, false, false, false, false, false, false] rfl rfl (any_of HT_.out (by kernel_rfl)) (fun _ _ _ h => h) (Or.inl ⟨by rfl, ?_⟩) ?_ ?_
          rotate_left
          ·intro w'
           go_simp
           with_reducible rfl
          rotate_left
          ·simp only [Act.put, zB, zC, zD, i64_w, i32_w]
           rfl
          refine pure_ (i := 7) (N := some 37) (v := ?_) (a' := ?_) #[true, false, true, false, false, true, false, true, false, false, false, false] rfl rfl (any_of HT_.out (by kernel_rfl)) (fun _ _ _ h => h) (Or.inl ⟨by rfl, ?_⟩) ?_ ?_
          rotate_left
          ·intro w'
           go_simp
           with_reducible rfl
          rotate_left
          ·simp only [Act.put, zB, zC, zD, i64_w, i32_w]
           rfl
          refine take_ (i := 1) (N := some 31) (v := ?_) (a' := ?_) #[true, true, true, false, false, true, false, true, false, false, false, false] rfl rfl (take_ofW HT_.out HW_.out (by kernel_rfl)) (fun _ _ _ h => h) (Or.inl ⟨by rfl, ?_⟩) hHeld ?_ ?_
          rotate_left
          ·rintro w' ⟨s0, s1, s2, s3, s4, s5, s6, s7⟩
           go_simp
           with_reducible rfl
          rotate_left
          ·simp only [Act.put, zB, zC, zD, i64_w, i32_w]
           rfl
          refine pure_ (i := 3) (N := some 33) (v := ?_) (a' := ?_) #[true, true, true, true, false, true, false, true, false, false, false, false] rfl rfl (any_of HT_.out (by kernel_rfl)) (fun _ _ _ h => h) (Or.inl ⟨by rfl, ?_⟩) ?_ ?_
          rotate_left
          ·intro w'
           go_simp
           with_reducible rfl
          rotate_left
          ·simp only [Act.put, zB, zC, zD, i64_w, i32_w]
           rfl
          refine take_ (i := 4) (N := some 34) (v := ?_) (a' := ?_) #[true, true, true, true, true, true, false, true, false, false, false, false] rfl rfl (take_ofW HT_.out HW_.out (by kernel_rfl)) (fun _ _ _ h => h) (Or.inl ⟨by rfl, ?_⟩) hHeld ?_ ?_
          rotate_left
          ·rintro w' ⟨s0, s1, s2, s3, s4, s5, s6, s7⟩
           go_simp
           with_reducible rfl
          rotate_left
          ·simp only [Act.put, zB, zC, zD, i64_w, i32_w]
           rfl
          refine take_ (i := 6) (N := some 36) (v := ?_) (a' := ?_) #[true, true, true, true, true, true, true, true, false, false, false, false] rfl rfl (take_ofW HT_.out HW_.out (by kernel_rfl)) (fun _ _ _ h => h) (Or.inl ⟨by rfl, ?_⟩) hHeld ?_ ?_
          rotate_left
          ·rintro w' ⟨s0, s1, s2, s3, s4, s5, s6, s7⟩
           go_simp
           with_reducible rfl
          rotate_left
          ·simp only [Act.put, zB, zC, zD, i64_w, i32_w]
           rfl
          refine pure_ (i := 8) (N := some 38) (v := ?_) (a' := ?_) #[true, true, true, true, true, true, true, true, true, false, false, false] rfl rfl (any_of HT_.out (by kernel_rfl)) (fun _ _ _ h => h) (Or.inl ⟨by rfl, ?_⟩) ?_ ?_
          rotate_left
          ·intro w'
           go_simp
           with_reducible rfl
          rotate_left
          ·simp only [Act.put, zB, zC, zD, i64_w, i32_w]
           rfl
          refine take_ (i := 9) (N := some 39) (v := ?_) (a' := ?_) #[true, true, true, true, true, true, true, true, true, true, false, false] rfl rfl (take_ofW HT_.out HW_.out (by kernel_rfl)) (fun _ _ _ h => h) (Or.inl ⟨by rfl, ?_⟩) hHeld ?_ ?_
          rotate_left
          ·rintro w' ⟨s0, s1, s2, s3, s4, s5, s6, s7⟩
           go_simp
           with_reducible rfl
          rotate_left
          ·simp only [Act.put, zB, zC, zD, i64_w, i32_w]
           rfl
          refine one_ (i := 10) (N := some 40) #[true, true, true, true, true, true, true, true, true, true, true, false] rfl rfl (one_of HT_.out (by kernel_rfl)) (by decide) (fun K hK => ?_)
          refine goes_ Tryd.func69 (by kernel_rfl) rfl #[.agg #[.int .i64 ((rd_T34 l0_0 x5_2).f0), .slice A305_1 ((rd_T34 l0_0 x5_2).f1).length c305_1], .agg #[.int .i64 ((rd_T34 l1_0 x5_2).f0), .slice A306_1 ((rd_T34 l1_0 x5_2).f1).length c306_1]] (by rfl) rfl rfl (by (try simp only [List.map_toArray, List.map_cons, List.map_nil]);first|done|rfl|(simp only [List.length_drop, List.length_take];rfl)) ?_
          with_reducible refine (quarryref00_SameBits.calls k2 ((rd_T34 l0_0 x5_2).f0) _ _ ((rd_T34 l0_0 x5_2).f1) ((rd_T34 l1_0 x5_2).f0) _ _ ((rd_T34 l1_0 x5_2).f1) true _ ?side1 ?side2 ?side3 ?side4 A17.out).mono ?_
          (case side1 => repeat (first|exact (Kd.C_below HR305_1.out HB.out)|(with_reducible refine Kd.C_alloc ?_ _)|(with_reducible refine Kd.C_drewN ?_ _)|(with_reducible refine Kd.C_drew ?_)))
          (case side2 => exact HC305_1.out)
          (case side3 => repeat (first|exact (Kd.C_below HR306_1.out HB.out)|(with_reducible refine Kd.C_alloc ?_ _)|(with_reducible refine Kd.C_drewN ?_ _)|(with_reducible refine Kd.C_drew ?_)))
          (case side4 => exact HC306_1.out)
          rintro e w22 ⟨rfl, hb⟩
          refine ⟨_, rfl, ?_⟩
          have n0_ := zA (zQ (g := gb303) (o := .cells #[.slice (some ad305) l0_0.length c0_0, .slice A0_1 l0_1.length c0_1] 48 (0, 0)) (by (with_reducible repeat (first|refine zJ ?_ _|refine zK ?_|refine zL ?_ _));exact BK303.out) hb)
          have n1_ := zA (zQ (g := gb304) (o := .cells #[.slice (some ad306) l1_0.length c1_0, .slice A1_1 l1_1.length c1_1] 48 (0, 0)) (by (with_reducible repeat (first|refine zJ ?_ _|refine zK ?_|refine zL ?_ _));exact BK304.out) hb)
          have n2_ := zA (zN (by repeat (first|(with_reducible first|exact HB.out|apply zG|apply zF|apply zH|refine zI ?_ GE303.out|refine zI ?_ GE304.out)|exact HB.out)) hb)
          clear BK303
          clear BK304
          clear HB
          have BK303 := n0_
          have BK304 := n1_
          have HB := n2_
          clear n0_ n1_ n2_
          (try clear hb)
          (try clear hb2)
          (try clear hk)
          (try clear hi)
          refine hK.out _ _ ⟨(zP BK303.out 0).trans rfl, (zP BK303.out 1).trans rfl, (zP BK304.out 0).trans rfl, (zP BK304.out 1).trans rfl, ((HB.out.cell (zz4 w _ hw305_0)).trans hw305_0), ((HB.out.cell (zz4 w _ hw305_1)).trans hw305_1), ((HB.out.cell (zz4 w _ hw306_0)).trans hw306_0), ((HB.out.cell (zz4 w _ hw306_1)).trans hw306_1)⟩ (fun hHeld => ?_)
          clear hK K
          refine norm_ (a' := ?_) ?_ ?_
          rotate_left
          ·show Act.put _ (some 40) _ = _
           simp only [Act.put, zB, zC, zD, i64_w, i32_w]
           rfl
          refine pure_ (i := 11) (N := some 41) (v := ?_) (a' := ?_) #[true, true, true, true, true, true, true, true, true, true, true, true] rfl rfl (any_of HT_.out (by kernel_rfl)) (fun _ _ _ h => h) (Or.inl ⟨by rfl, ?_⟩) ?_ ?_
          rotate_left
          ·intro w'
           go_simp
           with_reducible rfl
          rotate_left
          ·simp only [Act.put, zB, zC, zD, i64_w, i32_w]
           rfl
          refine done_ (done_of HT_.out (by kernel_rfl)) ?_
          try go_wp2
          go_roundg k2
          case measure => have := HJ2.out;have := HK2.out;omega
          case rel => exact ⟨(wrap64 (x5_2 + 1)), (by first|rfl|(simp;done)|(simp [*];done)), H', ⟨by have := HJ2.out;have := HK2.out;omega⟩, ⟨by (with_reducible repeat (first|refine zJ ?_ _|refine zK ?_|refine zL ?_ _));exact BK303.out⟩, ⟨by (with_reducible repeat (first|refine zJ ?_ _|refine zK ?_|refine zL ?_ _));exact BK304.out⟩, ⟨by repeat (first|(with_reducible first|exact HB.out|apply zG|apply zF|apply zH|refine zI ?_ GE303.out|refine zI ?_ GE304.out)|exact HB.out)⟩⟩
         ·replace c18 := Bool.eq_false_iff.mpr c18
          subst c18
          have H1 : (some false) = some r := by rw [if_neg (show ¬ (false = true) by decide)] at H;exact H
          clear H
          have H := H1
          clear H1
          obtain rfl := Option.some.inj H
          have hnb23 := NB303_304.out
          have hnc23 := NB304_303.out
          have hcz24_0 : wr.cell? ⟨gb303, 0, none⟩ = some (.slice A0_0 l0_0.length c0_0) := (zP BK303.out 0).trans rfl
          have hcz24_1 : wr.cell? ⟨gb303, 1, none⟩ = some (.slice A0_1 l0_1.length c0_1) := (zP BK303.out 1).trans rfl
          have hfz24_0 := zR BK303.out 0
          have hfz24_1 := zR BK303.out 1
          try go_wp2
          have n0_ := zA (zK BK303.out)
          have n1_ := zA (zK BK304.out)
          have n2_ := zA (zH HB.out)
          clear BK303
          clear BK304
          clear HB
          have BK303 := n0_
          have BK304 := n1_
          have HB := n2_
          clear n0_ n1_ n2_
          have p305 : 0 ≤ (x5_2 : Int) := zE (by first|(with_reducible assumption)|assumption)
          have q305 : x5_2 < (l0_0.length : Int) := zE (by first|(with_reducible assumption)|assumption)
          obtain ⟨ad305, A305_1, c305_1, e305, hx305_0, hx305_1, hl305_1, hi305_1⟩ := at_T34 HR0_0.out x5_2 p305 q305
          have hw305_1 := hx305_1
          have hw305_0 := hx305_0
          cases e305
          replace hx305_0 := (HB.out.cell (zz4 w _ hx305_0)).trans hx305_0
          replace hx305_1 := (HB.out.cell (zz4 w _ hx305_1)).trans hx305_1
          have HR305_1 := zA hi305_1
          have HC305_1 := zA hl305_1
          clear hi305_1 hl305_1
          replace p305 := eq_true p305
          replace q305 := eq_true q305
          have p306 : 0 ≤ (x5_2 : Int) := zE (by first|(with_reducible assumption)|assumption)
          have q306 : x5_2 < (l1_0.length : Int) := zE (by first|(with_reducible assumption)|assumption)
          obtain ⟨ad306, A306_1, c306_1, e306, hx306_0, hx306_1, hl306_1, hi306_1⟩ := at_T34 HR1_0.out x5_2 p306 q306
          have hw306_1 := hx306_1
          have hw306_0 := hx306_0
          cases e306
          replace hx306_0 := (HB.out.cell (zz4 w _ hx306_0)).trans hx306_0
          replace hx306_1 := (HB.out.cell (zz4 w _ hx306_1)).trans hx306_1
          have HR306_1 := zA hi306_1
          have HC306_1 := zA hl306_1
          clear hi306_1 hl306_1
          replace p306 := eq_true p306
          replace q306 := eq_true q306
          refine start_ (n := 12) (S := fun w' => w'.cell? ⟨gb303, 0, none⟩ = some (.slice (some ad305) l0_0.length c0_0) ∧ w'.cell? ⟨gb303, 1, none⟩ = some (.slice A0_1 l0_1.length c0_1) ∧ w'.cell? ⟨gb304, 0, none⟩ = some (.slice (some ad306) l1_0.length c1_0) ∧ w'.cell? ⟨gb304, 1, none⟩ = some (.slice A1_1 l1_1.length c1_1) ∧ w'.cell? (ad305.add ((x5_2).toNat * 2)) = some (.int .i64 ((rd_T34 l0_0 x5_2).f0)) ∧ w'.cell? ⟨(ad305.add ((x5_2).toNat * 2)).block, (ad305.add ((x5_2).toNat * 2)).off + 1, none⟩ = some (.slice A305_1 ((rd_T34 l0_0 x5_2).f1).length c305_1) ∧ w'.cell? (ad306.add ((x5_2).toNat * 2)) = some (.int .i64 ((rd_T34 l1_0 x5_2).f0)) ∧ w'.cell? ⟨(ad306.add ((x5_2).toNat * 2)).block, (ad306.add ((x5_2).toNat * 2)).off + 1, none⟩ = some (.slice A306_1 ((rd_T34 l1_0 x5_2).f1).length c306_1)) (ds := []) #[false, false, false, false, false, false, false, false, false, false, false, false] (by kernel_rfl) rfl rfl ⟨(zP BK303.out 0).trans rfl, (zP BK303.out 1).trans rfl, (zP BK304.out 0).trans rfl, (zP BK304.out 1).trans rfl, ((HB.out.cell (zz4 w _ hw305_0)).trans hw305_0), ((HB.out.cell (zz4 w _ hw305_1)).trans hw305_1), ((HB.out.cell (zz4 w _ hw306_0)).trans hw306_0), ((HB.out.cell (zz4 w _ hw306_1)).trans hw306_1)⟩ (fun hHeld => ?_);refine with_tabW quarryref00_SameLevels.tab6 quarryref00_SameLevels.bits6 (fun HT_ HW_ => ?_)
          generalize wr.drew = w25 at BK303 BK304 HB HR305_1 HR306_1 hx305_0 hx305_1 hx306_0 hx306_1 hHeld ⊢
          refine pure_ (i := 0) (N := some 30) (v := ?_) (a' := ?_) #[true, false, false, false, false, false, false, false, false, false, false, false] rfl rfl (any_of HT_.out (by kernel_rfl)) (fun _ _ _ h => h) (Or.inl ⟨by rfl, ?_⟩) ?_ ?_
          rotate_left
          ·intro w'
           go_simp
           with_reducible rfl
          rotate_left
          ·simp only [Act.put, zB, zC, zD, i64_w, i32_w]
           rfl
          refine pure_ (i := 2) (N := some 32) (v := ?_) (a' := ?_) #[true, false, true, false, false, false, false, false, false, false, false, false] rfl rfl (any_of HT_.out (by kernel_rfl)) (fun _ _ _ h => h) (Or.inl ⟨by rfl, ?_⟩) ?_ ?_
          rotate_left
          ·intro w'
           go_simp
           with_reducible rfl
          rotate_left
          ·simp only [Act.put, zB, zC, zD, i64_w, i32_w]
           rfl
          refine pure_ (i := 5) (N := some 35) (v := ?_) (a' := ?_) #[true, false, true, false, false, true, false, false, false, false, false, false] rfl rfl (any_of HT_.out (by kernel_rfl)) (fun _ _ _ h => h) (Or.inl ⟨by rfl, ?_⟩) ?_ ?_
          rotate_left
          ·intro w'
           go_simp
           with_reducible rfl
          rotate_left
          ·simp only [Act.put, zB, zC, zD, i64_w, i32_w]
           rfl
          refine pure_ (i := 7) (N := some 37) (v := ?_) (a' := ?_) #[true, false, true, false, false, true, false, true, false, false, false, false] rfl rfl (any_of HT_.out (by kernel_rfl)) (fun _ _ _ h => h) (Or.inl ⟨by rfl, ?_⟩) ?_ ?_
          rotate_left
          ·intro w'
           go_simp
           with_reducible rfl
          rotate_left
          ·simp only [Act.put, zB, zC, zD, i64_w, i32_w]
           rfl
          refine take_ (i := 1) (N := some 31) (v := ?_) (a' := ?_) #[true, true, true, false, false, true, false, true, false, false, false, false] rfl rfl (take_ofW HT_.out HW_.out (by kernel_rfl)) (fun _ _ _ h => h) (Or.inl ⟨by rfl, ?_⟩) hHeld ?_ ?_
          rotate_left
          ·rintro w' ⟨s0, s1, s2, s3, s4, s5, s6, s7⟩
           go_simp
           with_reducible rfl
          rotate_left
          ·simp only [Act.put, zB, zC, zD, i64_w, i32_w]
           rfl
          refine pure_ (i := 3) (N := some 33) (v := ?_) (a' := ?_) #[true, true, true, true, false, true, false, true, false, false, false, false] rfl rfl (any_of HT_.out (by kernel_rfl)) (fun _ _ _ h => h) (Or.inl ⟨by rfl, ?_⟩) ?_ ?_
          rotate_left
          ·intro w'
           go_simp
           with_reducible rfl
          rotate_left
          ·simp only [Act.put, zB, zC, zD, i64_w, i32_w]
           rfl
          refine take_ (i := 4) (N := some 34) (v := ?_) (a' := ?_) #[true, true, true, true, true, true, false, true, false, false, false, false] rfl rfl (take_ofW HT_.out HW_.out (by kernel_rfl)) (fun _ _ _ h => h) (Or.inl ⟨by rfl, ?_⟩) hHeld ?_ ?_
          rotate_left
          ·rintro w' ⟨s0, s1, s2, s3, s4, s5, s6, s7⟩
           go_simp
           with_reducible rfl
          rotate_left
          ·simp only [Act.put, zB, zC, zD, i64_w, i32_w]
           rfl
          refine take_ (i := 6) (N := some 36) (v := ?_) (a' := ?_) #[true, true, true, true, true, true, true, true, false, false, false, false] rfl rfl (take_ofW HT_.out HW_.out (by kernel_rfl)) (fun _ _ _ h => h) (Or.inl ⟨by rfl, ?_⟩) hHeld ?_ ?_
          rotate_left
          ·rintro w' ⟨s0, s1, s2, s3, s4, s5, s6, s7⟩
           go_simp
           with_reducible rfl
          rotate_left
          ·simp only [Act.put, zB, zC, zD, i64_w, i32_w]
           rfl
          refine pure_ (i := 8) (N := some 38) (v := ?_) (a' := ?_) #[true, true, true, true, true, true, true, true, true, false, false, false] rfl rfl (any_of HT_.out (by kernel_rfl)) (fun _ _ _ h => h) (Or.inl ⟨by rfl, ?_⟩) ?_ ?_
          rotate_left
          ·intro w'
           go_simp
           with_reducible rfl
          rotate_left
          ·simp only [Act.put, zB, zC, zD, i64_w, i32_w]
           rfl
          refine take_ (i := 9) (N := some 39) (v := ?_) (a' := ?_) #[true, true, true, true, true, true, true, true, true, true, false, false] rfl rfl (take_ofW HT_.out HW_.out (by kernel_rfl)) (fun _ _ _ h => h) (Or.inl ⟨by rfl, ?_⟩) hHeld ?_ ?_
          rotate_left
          ·rintro w' ⟨s0, s1, s2, s3, s4, s5, s6, s7⟩
           go_simp
           with_reducible rfl
          rotate_left
          ·simp only [Act.put, zB, zC, zD, i64_w, i32_w]
           rfl
          refine one_ (i := 10) (N := some 40) #[true, true, true, true, true, true, true, true, true, true, true, false] rfl rfl (one_of HT_.out (by kernel_rfl)) (by decide) (fun K hK => ?_)
          refine goes_ Tryd.func69 (by kernel_rfl) rfl #[.agg #[.int .i64 ((rd_T34 l0_0 x5_2).f0), .slice A305_1 ((rd_T34 l0_0 x5_2).f1).length c305_1], .agg #[.int .i64 ((rd_T34 l1_0 x5_2).f0), .slice A306_1 ((rd_T34 l1_0 x5_2).f1).length c306_1]] (by rfl) rfl rfl (by (try simp only [List.map_toArray, List.map_cons, List.map_nil]);first|done|rfl|(simp only [List.length_drop, List.length_take];rfl)) ?_
          with_reducible refine (quarryref00_SameBits.calls k2 ((rd_T34 l0_0 x5_2).f0) _ _ ((rd_T34 l0_0 x5_2).f1) ((rd_T34 l1_0 x5_2).f0) _ _ ((rd_T34 l1_0 x5_2).f1) false _ ?side1 ?side2 ?side3 ?side4 A17.out).mono ?_
          (case side1 => repeat (first|exact (Kd.C_below HR305_1.out HB.out)|(with_reducible refine Kd.C_alloc ?_ _)|(with_reducible refine Kd.C_drewN ?_ _)|(with_reducible refine Kd.C_drew ?_)))
          (case side2 => exact HC305_1.out)
          (case side3 => repeat (first|exact (Kd.C_below HR306_1.out HB.out)|(with_reducible refine Kd.C_alloc ?_ _)|(with_reducible refine Kd.C_drewN ?_ _)|(with_reducible refine Kd.C_drew ?_)))
          (case side4 => exact HC306_1.out)
          rintro e w26 ⟨rfl, hb⟩
          refine ⟨_, rfl, ?_⟩
          have n0_ := zA (zQ (g := gb303) (o := .cells #[.slice (some ad305) l0_0.length c0_0, .slice A0_1 l0_1.length c0_1] 48 (0, 0)) (by (with_reducible repeat (first|refine zJ ?_ _|refine zK ?_|refine zL ?_ _));exact BK303.out) hb)
          have n1_ := zA (zQ (g := gb304) (o := .cells #[.slice (some ad306) l1_0.length c1_0, .slice A1_1 l1_1.length c1_1] 48 (0, 0)) (by (with_reducible repeat (first|refine zJ ?_ _|refine zK ?_|refine zL ?_ _));exact BK304.out) hb)
          have n2_ := zA (zN (by repeat (first|(with_reducible first|exact HB.out|apply zG|apply zF|apply zH|refine zI ?_ GE303.out|refine zI ?_ GE304.out)|exact HB.out)) hb)
          clear BK303
          clear BK304
          clear HB
          have BK303 := n0_
          have BK304 := n1_
          have HB := n2_
          clear n0_ n1_ n2_
          (try clear hb)
          (try clear hb2)
          (try clear hk)
          (try clear hi)
          refine hK.out _ _ ⟨(zP BK303.out 0).trans rfl, (zP BK303.out 1).trans rfl, (zP BK304.out 0).trans rfl, (zP BK304.out 1).trans rfl, ((HB.out.cell (zz4 w _ hw305_0)).trans hw305_0), ((HB.out.cell (zz4 w _ hw305_1)).trans hw305_1), ((HB.out.cell (zz4 w _ hw306_0)).trans hw306_0), ((HB.out.cell (zz4 w _ hw306_1)).trans hw306_1)⟩ (fun hHeld => ?_)
          clear hK K
          refine norm_ (a' := ?_) ?_ ?_
          rotate_left
          ·show Act.put _ (some 40) _ = _
           simp only [Act.put, zB, zC, zD, i64_w, i32_w]
           rfl
          refine pure_ (i := 11) (N := some 41) (v := ?_) (a' := ?_) #[true, true, true, true, true, true, true, true, true, true, true, true] rfl rfl (any_of HT_.out (by kernel_rfl)) (fun _ _ _ h => h) (Or.inl ⟨by rfl, ?_⟩) ?_ ?_
          rotate_left
          ·intro w'
           go_simp
           with_reducible rfl
          rotate_left
          ·simp only [Act.put, zB, zC, zD, i64_w, i32_w]
           rfl
          refine done_ (done_of HT_.out (by kernel_rfl)) ?_
          try go_wp2
          go_ret
          exact ⟨by first|rfl|(simp [errW_none, errW_some] <;> rfl)|(simp [*, errW_none, errW_some] <;> rfl), by repeat (first|(with_reducible first|exact HB.out|apply zG|apply zF|apply zH|refine zI ?_ GE303.out|refine zI ?_ GE304.out)|exact HB.out)⟩
        ·rw [if_neg c16] at H
         exact absurd H (by simp)
       ·rw [if_neg c15] at H
        exact absurd H (by simp)
      ·rw [if_neg c14] at H
       have c14b0 : decide (x5_2 < (l0_0.length : Int)) = false := decide_eq_false c14
       clear c14
       have H' := zA H
       clear H
       have hnb27 := NB303_304.out
       have hnc27 := NB304_303.out
       have hcz28_0 : wr.cell? ⟨gb303, 0, none⟩ = some (.slice A0_0 l0_0.length c0_0) := (zP BK303.out 0).trans rfl
       have hcz28_1 : wr.cell? ⟨gb303, 1, none⟩ = some (.slice A0_1 l0_1.length c0_1) := (zP BK303.out 1).trans rfl
       have hfz28_0 := zR BK303.out 0
       have hfz28_1 := zR BK303.out 1
       go_wp2
       go_loopg [6] k2 (fun kq v6 w' => ∃ (x6_3 : Int), v6 = .int .i64 x6_3 ∧ Aside0 (quarryref00_SameLevels.l1 kq x6_3 l0_0 l0_1 l1_0 l1_1 = some r) ∧ Aside0 (kq ≤ k2) ∧ Aside0 (w'.heap[gb303]? = some (.cells #[(.slice A0_0 l0_0.length c0_0), (.slice A0_1 l0_1.length c0_1)] 48 (0, 0))) ∧ Aside0 (w'.heap[gb304]? = some (.cells #[(.slice A1_0 l1_0.length c1_0), (.slice A1_1 l1_1.length c1_1)] 48 (0, 0))) ∧ Aside0 (Below w.heap.size w w'))
       case atStart => exact ⟨(0), (by first|rfl|(simp;done)|(simp [*];done)), H', ⟨Nat.le_refl _⟩, ⟨by (with_reducible repeat (first|refine zJ ?_ _|refine zK ?_|refine zL ?_ _));exact BK303.out⟩, ⟨by (with_reducible repeat (first|refine zJ ?_ _|refine zK ?_|refine zL ?_ _));exact BK304.out⟩, ⟨by repeat (first|(with_reducible first|exact HB.out|apply zG|apply zF|apply zH|refine zI ?_ GE303.out|refine zI ?_ GE304.out)|exact HB.out)⟩⟩
       case round =>
        clear H'
        try clear c1
        try clear c2
        try clear p2
        try clear c3
        try clear p3
        try clear q3
        try clear hx3
        try clear c6
        try clear c6b0
        try clear c6b1
        try clear c6b2
        try clear p6
        try clear c7
        try clear c10
        try clear c13
        try clear c14
        try clear c14b0
        try clear c15
        try clear c15b0
        try clear c16
        try clear c16b0
        try clear c18
        try clear c19
        try clear c23
        try clear c27
        try clear hcz11_0
        try clear hcz11_1
        try clear hcz12_0
        try clear hcz12_1
        try clear hcz20_0
        try clear hcz20_1
        try clear hcz24_0
        try clear hcz24_1
        try clear hcz28_0
        try clear hcz28_1
        try clear hcz8_0
        try clear hcz8_1
        try clear hcz9_0
        try clear hcz9_1
        try clear hfz11_0
        try clear hfz11_1
        try clear hfz12_0
        try clear hfz12_1
        try clear hfz20_0
        try clear hfz20_1
        try clear hfz24_0
        try clear hfz24_1
        try clear hfz28_0
        try clear hfz28_1
        try clear hfz8_0
        try clear hfz8_1
        try clear hfz9_0
        try clear hfz9_1
        try clear hx305_0
        try clear hx305_1
        try clear hx306_0
        try clear hx306_1
        try clear p2
        try clear p305
        try clear p306
        try clear q305
        try clear q306
        obtain ⟨x6_3, rfl, HA, HK3, BK303, BK304, HB⟩ := hrel
        cases gk with
        | zero => exact absurd HA.out (by simp [quarryref00_SameLevels.l1])
        | succ k3 =>
         have H := HA.out
         clear HA
         simp only [quarryref00_SameLevels.l1] at H
         by_cases c29 : x6_3 < (l0_1.length : Int)
         ·rw [if_pos c29] at H
          have c29b0 : decide (x6_3 < (l0_1.length : Int)) = true := zz1 c29
          clear c29
          by_cases c30 : 0 ≤ x6_3
          ·rw [if_pos c30] at H
           have c30b0 : decide (0 ≤ x6_3) = true := zz1 c30
           clear c30
           by_cases c31 : x6_3 < (l1_1.length : Int)
           ·rw [if_pos c31] at H
            have c31b0 : decide (x6_3 < (l1_1.length : Int)) = true := zz1 c31
            clear c31
            replace H := Option.bind_eq_some_iff.mp H
            obtain ⟨t310, A320, H⟩ := H
            replace H : (if t310 = true then (quarryref00_SameLevels.l1 k3 (wrap64 (x6_3 + 1)) l0_0 l0_1 l1_0 l1_1) else (some false)) = some r := H
            have A32 := zA A320
            clear A320
            by_cases c33 : t310 = true
            ·subst c33
             have H1 : (quarryref00_SameLevels.l1 k3 (wrap64 (x6_3 + 1)) l0_0 l0_1 l1_0 l1_1) = some r := by rw [if_pos rfl] at H;exact H
             clear H
             have H := H1
             clear H1
             have H' := zA H
             clear H
             have hnb34 := NB303_304.out
             have hnc34 := NB304_303.out
             have hcz35_0 : wr.cell? ⟨gb303, 0, none⟩ = some (.slice A0_0 l0_0.length c0_0) := (zP BK303.out 0).trans rfl
             have hcz35_1 : wr.cell? ⟨gb303, 1, none⟩ = some (.slice A0_1 l0_1.length c0_1) := (zP BK303.out 1).trans rfl
             have hfz35_0 := zR BK303.out 0
             have hfz35_1 := zR BK303.out 1
             try go_wp2
             have n0_ := zA (zK BK303.out)
             have n1_ := zA (zK BK304.out)
             have n2_ := zA (zH HB.out)
             clear BK303
             clear BK304
             clear HB
             have BK303 := n0_
             have BK304 := n1_
             have HB := n2_
             clear n0_ n1_ n2_
             have p308 : 0 ≤ (x6_3 : Int) := zE (by first|(with_reducible assumption)|assumption)
             have q308 : x6_3 < (l0_1.length : Int) := zE (by first|(with_reducible assumption)|assumption)
             obtain ⟨ad308, A308_1, c308_1, e308, hx308_0, hx308_1, hl308_1, hi308_1⟩ := at_T34 HR0_1.out x6_3 p308 q308
             have hw308_1 := hx308_1
             have hw308_0 := hx308_0
             cases e308
             replace hx308_0 := (HB.out.cell (zz4 w _ hx308_0)).trans hx308_0
             replace hx308_1 := (HB.out.cell (zz4 w _ hx308_1)).trans hx308_1
             have HR308_1 := zA hi308_1
             have HC308_1 := zA hl308_1
             clear hi308_1 hl308_1
             replace p308 := eq_true p308
             replace q308 := eq_true q308
             have p309 : 0 ≤ (x6_3 : Int) := zE (by first|(with_reducible assumption)|assumption)
             have q309 : x6_3 < (l1_1.length : Int) := zE (by first|(with_reducible assumption)|assumption)
             obtain ⟨ad309, A309_1, c309_1, e309, hx309_0, hx309_1, hl309_1, hi309_1⟩ := at_T34 HR1_1.out x6_3 p309 q309
             have hw309_1 := hx309_1
             have hw309_0 := hx309_0
             cases e309
             replace hx309_0 := (HB.out.cell (zz4 w _ hx309_0)).trans hx309_0
             replace hx309_1 := (HB.out.cell (zz4 w _ hx309_1)).trans hx309_1
             have HR309_1 := zA hi309_1
             have HC309_1 := zA hl309_1
             clear hi309_1 hl309_1
             replace p309 := eq_true p309
             replace q309 := eq_true q309
             refine start_ (n := 12) (S := fun w' => w'.cell? ⟨gb303, 0, none⟩ = some (.slice A0_0 l0_0.length c0_0) ∧ w'.cell? ⟨gb303, 1, none⟩ = some (.slice (some ad308) l0_1.length c0_1) ∧ w'.cell? ⟨gb304, 0, none⟩ = some (.slice A1_0 l1_0.length c1_0) ∧ w'.cell? ⟨gb304, 1, none⟩ = some (.slice (some ad309) l1_1.length c1_1) ∧ w'.cell? (ad308.add ((x6_3).toNat * 2)) = some (.int .i64 ((rd_T34 l0_1 x6_3).f0)) ∧ w'.cell? ⟨(ad308.add ((x6_3).toNat * 2)).block, (ad308.add ((x6_3).toNat * 2)).off + 1, none⟩ = some (.slice A308_1 ((rd_T34 l0_1 x6_3).f1).length c308_1) ∧ w'.cell? (ad309.add ((x6_3).toNat * 2)) = some (.int .i64 ((rd_T34 l1_1 x6_3).f0)) ∧ w'.cell? ⟨(ad309.add ((x6_3).toNat * 2)).block, (ad309.add ((x6_3).toNat * 2)).off + 1, none⟩ = some (.slice A309_1 ((rd_T34 l1_1 x6_3).f1).length c309_1)) (ds := []) #[false, false, false, false, false, false, false, false, false, false, false, false] (by kernel_rfl) rfl rfl ⟨(zP BK303.out 0).trans rfl, (zP BK303.out 1).trans rfl, (zP BK304.out 0).trans rfl, (zP BK304.out 1).trans rfl, ((HB.out.cell (zz4 w _ hw308_0)).trans hw308_0), ((HB.out.cell (zz4 w _ hw308_1)).trans hw308_1), ((HB.out.cell (zz4 w _ hw309_0)).trans hw309_0), ((HB.out.cell (zz4 w _ hw309_1)).trans hw309_1)⟩ (fun hHeld => ?_);refine with_tabW quarryref00_SameLevels.tab11 quarryref00_SameLevels.bits11 (fun HT_ HW_ => ?_)
             generalize wr.drew = w36 at BK303 BK304 HB HR308_1 HR309_1 hx308_0 hx308_1 hx309_0 hx309_1 hHeld ⊢
             refine pure_ (i := 0) (N := some 49) (v := ?_) (a' := ?_) #[true, false, false, false, false, false, false, false, false, false, false, false] rfl rfl (any_of HT_.out (by kernel_rfl)) (fun _ _ _ h => h) (Or.inl ⟨by rfl, ?_⟩) ?_ ?_
             rotate_left
             ·intro w'
              go_simp
              with_reducible rfl
             rotate_left
             ·simp only [Act.put, zB, zC, zD, i64_w, i32_w]
              rfl
             refine pure_ (i := 2) (N := some 51) (v := ?_) (a' := ?_) #[true, false, true, false, false, false, false, false, false, false, false, false] rfl rfl (any_of HT_.out (by kernel_rfl)) (fun _ _ _ h => h) (Or.inl ⟨by rfl, ?_⟩) ?_ ?_
             rotate_left
             ·intro w'
              go_simp
              with_reducible rfl
             rotate_left
             ·simp only [Act.put, zB, zC, zD, i64_w, i32_w]
              rfl
             refine pure_ (i := 5) (N := some 54) (v := ?_) (a' := ?_) #[true, false, true, false, false, true, false, false, false, false, false, false] rfl rfl (any_of HT_.out (by kernel_rfl)) (fun _ _ _ h => h) (Or.inl ⟨by rfl, ?_⟩) ?_ ?_
             rotate_left
             ·intro w'
              go_simp
              with_reducible rfl
             rotate_left
             ·simp only [Act.put, zB, zC, zD, i64_w, i32_w]
              rfl
             refine pure_ (i := 7) (N := some 56) (v := ?_) (a' := ?_) #[true, false, true, false, false, true, false, true, false, false, false, false] rfl rfl (any_of HT_.out (by kernel_rfl)) (fun _ _ _ h => h) (Or.inl ⟨by rfl, ?_⟩) ?_ ?_
             rotate_left
             ·intro w'
              go_simp
              with_reducible rfl
             rotate_left
             ·simp only [Act.put, zB, zC, zD, i64_w, i32_w]
              rfl
             refine take_ (i := 1) (N := some 50) (v := ?_) (a' := ?_) #[true, true, true, false, false, true, false, true, false, false, false, false] rfl rfl (take_ofW HT_.out HW_.out (by kernel_rfl)) (fun _ _ _ h => h) (Or.inl ⟨by rfl, ?_⟩) hHeld ?_ ?_
             rotate_left
             ·rintro w' ⟨s0, s1, s2, s3, s4, s5, s6, s7⟩
              go_simp
              with_reducible rfl
             rotate_left
             ·simp only [Act.put, zB, zC, zD, i64_w, i32_w]
              rfl
             refine pure_ (i := 3) (N := some 52) (v := ?_) (a' := ?_) #[true, true, true, true, false, true, false, true, false, false, false, false] rfl rfl (any_of HT_.out (by kernel_rfl)) (fun _ _ _ h => h) (Or.inl ⟨by rfl, ?_⟩) ?_ ?_
             rotate_left
             ·intro w'
              go_simp
              with_reducible rfl
             rotate_left
             ·simp only [Act.put, zB, zC, zD, i64_w, i32_w]
              rfl
             refine take_ (i := 4) (N := some 53) (v := ?_) (a' := ?_) #[true, true, true, true, true, true, false, true, false, false, false, false] rfl rfl (take_ofW HT_.out HW_.out (by kernel_rfl)) (fun _ _ _ h => h) (Or.inl ⟨by rfl, ?_⟩) hHeld ?_ ?_
             rotate_left
             ·rintro w' ⟨s0, s1, s2, s3, s4, s5, s6, s7⟩
              go_simp
              with_reducible rfl
             rotate_left
             ·simp only [Act.put, zB, zC, zD, i64_w, i32_w]
              rfl
             refine take_ (i := 6) (N := some 55) (v := ?_) (a' := ?_) #[true, true, true, true, true, true, true, true, false, false, false, false] rfl rfl (take_ofW HT_.out HW_.out (by kernel_rfl)) (fun _ _ _ h => h) (Or.inl ⟨by rfl, ?_⟩) hHeld ?_ ?_
             rotate_left
             ·rintro w' ⟨s0, s1, s2, s3, s4, s5, s6, s7⟩
              go_simp
              with_reducible rfl
             rotate_left
             ·simp only [Act.put, zB, zC, zD, i64_w, i32_w]
              rfl
             refine pure_ (i := 8) (N := some 57) (v := ?_) (a' := ?_) #[true, true, true, true, true, true, true, true, true, false, false, false] rfl rfl (any_of HT_.out (by kernel_rfl)) (fun _ _ _ h => h) (Or.inl ⟨by rfl, ?_⟩) ?_ ?_
             rotate_left
             ·intro w'
              go_simp
              with_reducible rfl
             rotate_left
             ·simp only [Act.put, zB, zC, zD, i64_w, i32_w]
              rfl
             refine take_ (i := 9) (N := some 58) (v := ?_) (a' := ?_) #[true, true, true, true, true, true, true, true, true, true, false, false] rfl rfl (take_ofW HT_.out HW_.out (by kernel_rfl)) (fun _ _ _ h => h) (Or.inl ⟨by rfl, ?_⟩) hHeld ?_ ?_
             rotate_left
             ·rintro w' ⟨s0, s1, s2, s3, s4, s5, s6, s7⟩
              go_simp
              with_reducible rfl
             rotate_left
             ·simp only [Act.put, zB, zC, zD, i64_w, i32_w]
              rfl
             refine one_ (i := 10) (N := some 59) #[true, true, true, true, true, true, true, true, true, true, true, false] rfl rfl (one_of HT_.out (by kernel_rfl)) (by decide) (fun K hK => ?_)
             refine goes_ Tryd.func69 (by kernel_rfl) rfl #[.agg #[.int .i64 ((rd_T34 l0_1 x6_3).f0), .slice A308_1 ((rd_T34 l0_1 x6_3).f1).length c308_1], .agg #[.int .i64 ((rd_T34 l1_1 x6_3).f0), .slice A309_1 ((rd_T34 l1_1 x6_3).f1).length c309_1]] (by rfl) rfl rfl (by (try simp only [List.map_toArray, List.map_cons, List.map_nil]);first|done|rfl|(simp only [List.length_drop, List.length_take];rfl)) ?_
             with_reducible refine (quarryref00_SameBits.calls k3 ((rd_T34 l0_1 x6_3).f0) _ _ ((rd_T34 l0_1 x6_3).f1) ((rd_T34 l1_1 x6_3).f0) _ _ ((rd_T34 l1_1 x6_3).f1) true _ ?side1 ?side2 ?side3 ?side4 A32.out).mono ?_
             (case side1 => repeat (first|exact (Kd.C_below HR308_1.out HB.out)|(with_reducible refine Kd.C_alloc ?_ _)|(with_reducible refine Kd.C_drewN ?_ _)|(with_reducible refine Kd.C_drew ?_)))
             (case side2 => exact HC308_1.out)
             (case side3 => repeat (first|exact (Kd.C_below HR309_1.out HB.out)|(with_reducible refine Kd.C_alloc ?_ _)|(with_reducible refine Kd.C_drewN ?_ _)|(with_reducible refine Kd.C_drew ?_)))
             (case side4 => exact HC309_1.out)
             rintro e w37 ⟨rfl, hb⟩
             refine ⟨_, rfl, ?_⟩
             have n0_ := zA (zQ (g := gb303) (o := .cells #[.slice A0_0 l0_0.length c0_0, .slice (some ad308) l0_1.length c0_1] 48 (0, 0)) (by (with_reducible repeat (first|refine zJ ?_ _|refine zK ?_|refine zL ?_ _));exact BK303.out) hb)
             have n1_ := zA (zQ (g := gb304) (o := .cells #[.slice A1_0 l1_0.length c1_0, .slice (some ad309) l1_1.length c1_1] 48 (0, 0)) (by (with_reducible repeat (first|refine zJ ?_ _|refine zK ?_|refine zL ?_ _));exact BK304.out) hb)
             have n2_ := zA (zN (by repeat (first|(with_reducible first|exact HB.out|apply zG|apply zF|apply zH|refine zI ?_ GE303.out|refine zI ?_ GE304.out)|exact HB.out)) hb)
             clear BK303
             clear BK304
             clear HB
             have BK303 := n0_
             have BK304 := n1_
             have HB := n2_
             clear n0_ n1_ n2_
             (try clear hb)
             (try clear hb2)
             (try clear hk)
             (try clear hi)
             refine hK.out _ _ ⟨(zP BK303.out 0).trans rfl, (zP BK303.out 1).trans rfl, (zP BK304.out 0).trans rfl, (zP BK304.out 1).trans rfl, ((HB.out.cell (zz4 w _ hw308_0)).trans hw308_0), ((HB.out.cell (zz4 w _ hw308_1)).trans hw308_1), ((HB.out.cell (zz4 w _ hw309_0)).trans hw309_0), ((HB.out.cell (zz4 w _ hw309_1)).trans hw309_1)⟩ (fun hHeld => ?_)
             clear hK K
             refine norm_ (a' := ?_) ?_ ?_
             rotate_left
             ·show Act.put _ (some 59) _ = _
              simp only [Act.put, zB, zC, zD, i64_w, i32_w]
              rfl
             refine pure_ (i := 11) (N := some 60) (v := ?_) (a' := ?_) #[true, true, true, true, true, true, true, true, true, true, true, true] rfl rfl (any_of HT_.out (by kernel_rfl)) (fun _ _ _ h => h) (Or.inl ⟨by rfl, ?_⟩) ?_ ?_
             rotate_left
             ·intro w'
              go_simp
              with_reducible rfl
             rotate_left
             ·simp only [Act.put, zB, zC, zD, i64_w, i32_w]
              rfl
             refine done_ (done_of HT_.out (by kernel_rfl)) ?_
             try go_wp2
             go_roundg k3
             case measure => have := HJ2.out;have := HK2.out;have := HK3.out;omega
             case rel => exact ⟨(wrap64 (x6_3 + 1)), (by first|rfl|(simp;done)|(simp [*];done)), H', ⟨by have := HJ2.out;have := HK2.out;have := HK3.out;omega⟩, ⟨by (with_reducible repeat (first|refine zJ ?_ _|refine zK ?_|refine zL ?_ _));exact BK303.out⟩, ⟨by (with_reducible repeat (first|refine zJ ?_ _|refine zK ?_|refine zL ?_ _));exact BK304.out⟩, ⟨by repeat (first|(with_reducible first|exact HB.out|apply zG|apply zF|apply zH|refine zI ?_ GE303.out|refine zI ?_ GE304.out)|exact HB.out)⟩⟩
            ·replace c33 := Bool.eq_false_iff.mpr c33
             subst c33
             have H1 : (some false) = some r := by rw [if_neg (show ¬ (false = true) by decide)] at H;exact H
             clear H
             have H := H1
             clear H1
             obtain rfl := Option.some.inj H
             have hnb38 := NB303_304.out
             have hnc38 := NB304_303.out
             have hcz39_0 : wr.cell? ⟨gb303, 0, none⟩ = some (.slice A0_0 l0_0.length c0_0) := (zP BK303.out 0).trans rfl
             have hcz39_1 : wr.cell? ⟨gb303, 1, none⟩ = some (.slice A0_1 l0_1.length c0_1) := (zP BK303.out 1).trans rfl
             have hfz39_0 := zR BK303.out 0
             have hfz39_1 := zR BK303.out 1
             try go_wp2
             have n0_ := zA (zK BK303.out)
             have n1_ := zA (zK BK304.out)
             have n2_ := zA (zH HB.out)
             clear BK303
             clear BK304
             clear HB
             have BK303 := n0_
             have BK304 := n1_
             have HB := n2_
             clear n0_ n1_ n2_
             have p308 : 0 ≤ (x6_3 : Int) := zE (by first|(with_reducible assumption)|assumption)
             have q308 : x6_3 < (l0_1.length : Int) := zE (by first|(with_reducible assumption)|assumption)
             obtain ⟨ad308, A308_1, c308_1, e308, hx308_0, hx308_1, hl308_1, hi308_1⟩ := at_T34 HR0_1.out x6_3 p308 q308
             have hw308_1 := hx308_1
             have hw308_0 := hx308_0
             cases e308
             replace hx308_0 := (HB.out.cell (zz4 w _ hx308_0)).trans hx308_0
             replace hx308_1 := (HB.out.cell (zz4 w _ hx308_1)).trans hx308_1
             have HR308_1 := zA hi308_1
             have HC308_1 := zA hl308_1
             clear hi308_1 hl308_1
             replace p308 := eq_true p308
             replace q308 := eq_true q308
             have p309 : 0 ≤ (x6_3 : Int) := zE (by first|(with_reducible assumption)|assumption)
             have q309 : x6_3 < (l1_1.length : Int) := zE (by first|(with_reducible assumption)|assumption)
             obtain ⟨ad309, A309_1, c309_1, e309, hx309_0, hx309_1, hl309_1, hi309_1⟩ := at_T34 HR1_1.out x6_3 p309 q309
             have hw309_1 := hx309_1
             have hw309_0 := hx309_0
             cases e309
             replace hx309_0 := (HB.out.cell (zz4 w _ hx309_0)).trans hx309_0
             replace hx309_1 := (HB.out.cell (zz4 w _ hx309_1)).trans hx309_1
             have HR309_1 := zA hi309_1
             have HC309_1 := zA hl309_1
             clear hi309_1 hl309_1
             replace p309 := eq_true p309
             replace q309 := eq_true q309
             refine start_ (n := 12) (S := fun w' => w'.cell? ⟨gb303, 0, none⟩ = some (.slice A0_0 l0_0.length c0_0) ∧ w'.cell? ⟨gb303, 1, none⟩ = some (.slice (some ad308) l0_1.length c0_1) ∧ w'.cell? ⟨gb304, 0, none⟩ = some (.slice A1_0 l1_0.length c1_0) ∧ w'.cell? ⟨gb304, 1, none⟩ = some (.slice (some ad309) l1_1.length c1_1) ∧ w'.cell? (ad308.add ((x6_3).toNat * 2)) = some (.int .i64 ((rd_T34 l0_1 x6_3).f0)) ∧ w'.cell? ⟨(ad308.add ((x6_3).toNat * 2)).block, (ad308.add ((x6_3).toNat * 2)).off + 1, none⟩ = some (.slice A308_1 ((rd_T34 l0_1 x6_3).f1).length c308_1) ∧ w'.cell? (ad309.add ((x6_3).toNat * 2)) = some (.int .i64 ((rd_T34 l1_1 x6_3).f0)) ∧ w'.cell? ⟨(ad309.add ((x6_3).toNat * 2)).block, (ad309.add ((x6_3).toNat * 2)).off + 1, none⟩ = some (.slice A309_1 ((rd_T34 l1_1 x6_3).f1).length c309_1)) (ds := []) #[false, false, false, false, false, false, false, false, false, false, false, false] (by kernel_rfl) rfl rfl ⟨(zP BK303.out 0).trans rfl, (zP BK303.out 1).trans rfl, (zP BK304.out 0).trans rfl, (zP BK304.out 1).trans rfl, ((HB.out.cell (zz4 w _ hw308_0)).trans hw308_0), ((HB.out.cell (zz4 w _ hw308_1)).trans hw308_1), ((HB.out.cell (zz4 w _ hw309_0)).trans hw309_0), ((HB.out.cell (zz4 w _ hw309_1)).trans hw309_1)⟩ (fun hHeld => ?_);refine with_tabW quarryref00_SameLevels.tab11 quarryref00_SameLevels.bits11 (fun HT_ HW_ => ?_)
             generalize wr.drew = w40 at BK303 BK304 HB HR308_1 HR309_1 hx308_0 hx308_1 hx309_0 hx309_1 hHeld ⊢
             refine pure_ (i := 0) (N := some 49) (v := ?_) (a' := ?_) #[true, false, false, false, false, false, false, false, false, false, false, false] rfl rfl (any_of HT_.out (by kernel_rfl)) (fun _ _ _ h => h) (Or.inl ⟨by rfl, ?_⟩) ?_ ?_
             rotate_left
             ·intro w'
              go_simp
              with_reducible rfl
             rotate_left
             ·simp only [Act.put, zB, zC, zD, i64_w, i32_w]
              rfl
             refine pure_ (i := 2) (N := some 51) (v := ?_) (a' := ?_) #[true, false, true, false, false, false, false, false, false, false, false, false] rfl rfl (any_of HT_.out (by kernel_rfl)) (fun _ _ _ h => h) (Or.inl ⟨by rfl, ?_⟩) ?_ ?_
             rotate_left
             ·intro w'
              go_simp
              with_reducible rfl
             rotate_left
             ·simp only [Act.put, zB, zC, zD, i64_w, i32_w]
              rfl
             refine pure_ (i := 5) (N := some 54) (v := ?_) (a' := ?_) #[true, false, true, false, false, true, false, false, false, false, false, false] rfl rfl (any_of HT_.out (by kernel_rfl)) (fun _ _ _ h => h) (Or.inl ⟨by rfl, ?_⟩) ?_ ?_
             rotate_left
             ·intro w'
              go_simp
              with_reducible rfl
             rotate_left
             ·simp only [Act.put, zB, zC, zD, i64_w, i32_w]
              rfl
             refine pure_ (i := 7) (N := some 56) (v := ?_) (a' := ?_) #[true, false, true, false, false, true, false, true, false, false, false, false] rfl rfl (any_of HT_.out (by kernel_rfl)) (fun _ _ _ h => h) (Or.inl ⟨by rfl, ?_⟩) ?_ ?_
             rotate_left
             ·intro w'
              go_simp
              with_reducible rfl
             rotate_left
             ·simp only [Act.put, zB, zC, zD, i64_w, i32_w]
              rfl
             refine take_ (i := 1) (N := some 50) (v := ?_) (a' := ?_) #[true, true, true, false, false, true, false, true, false, false, false, false] rfl rfl (take_ofW HT_.out HW_.out (by kernel_rfl)) (fun _ _ _ h => h) (Or.inl ⟨by rfl, ?_⟩) hHeld ?_ ?_
             rotate_left
             ·rintro w' ⟨s0, s1, s2, s3, s4, s5, s6, s7⟩
              go_simp
              with_reducible rfl
             rotate_left
             ·simp only [Act.put, zB, zC, zD, i64_w, i32_w]
              rfl
             refine pure_ (i := 3) (N := some 52) (v := ?_) (a' := ?_) #[true, true, true, true, false, true, false, true, false, false, false, false] rfl rfl (any_of HT_.out (by kernel_rfl)) (fun _ _ _ h => h) (Or.inl ⟨by rfl, ?_⟩) ?_ ?_
             rotate_left
             ·intro w'
              go_simp
              with_reducible rfl
             rotate_left
             ·simp only [Act.put, zB, zC, zD, i64_w, i32_w]
              rfl
             refine take_ (i := 4) (N := some 53) (v := ?_) (a' := ?_) #[true, true, true, true, true, true, false, true, false, false, false, false] rfl rfl (take_ofW HT_.out HW_.out (by kernel_rfl)) (fun _ _ _ h => h) (Or.inl ⟨by rfl, ?_⟩) hHeld ?_ ?_
             rotate_left
             ·rintro w' ⟨s0, s1, s2, s3, s4, s5, s6, s7⟩
              go_simp
              with_reducible rfl
             rotate_left
             ·simp only [Act.put, zB, zC, zD, i64_w, i32_w]
              rfl
             refine take_ (i := 6) (N := some 55) (v := ?_) (a' := ?_) #[true, true, true, true, true, true, true, true, false, false, false, false] rfl rfl (take_ofW HT_.out HW_.out (by kernel_rfl)) (fun _ _ _ h => h) (Or.inl ⟨by rfl, ?_⟩) hHeld ?_ ?_
             rotate_left
             ·rintro w' ⟨s0, s1, s2, s3, s4, s5, s6, s7⟩
              go_simp
              with_reducible rfl
             rotate_left
             ·simp only [Act.put, zB, zC, zD, i64_w, i32_w]
              rfl
             refine pure_ (i := 8) (N := some 57) (v := ?_) (a' := ?_) #[true, true, true, true, true, true, true, true, true, false, false, false] rfl rfl (any_of HT_.out (by kernel_rfl)) (fun _ _ _ h => h) (Or.inl ⟨by rfl, ?_⟩) ?_ ?_
             rotate_left
             ·intro w'
              go_simp
              with_reducible rfl
             rotate_left
             ·simp only [Act.put, zB, zC, zD, i64_w, i32_w]
              rfl
             refine take_ (i := 9) (N := some 58) (v := ?_) (a' := ?_) #[true, true, true, true, true, true, true, true, true, true, false, false] rfl rfl (take_ofW HT_.out HW_.out (by kernel_rfl)) (fun _ _ _ h => h) (Or.inl ⟨by rfl, ?_⟩) hHeld ?_ ?_
             rotate_left
             ·rintro w' ⟨s0, s1, s2, s3, s4, s5, s6, s7⟩
              go_simp
              with_reducible rfl
             rotate_left
             ·simp only [Act.put, zB, zC, zD, i64_w, i32_w]
              rfl
             refine one_ (i := 10) (N := some 59) #[true, true, true, true, true, true, true, true, true, true, true, false] rfl rfl (one_of HT_.out (by kernel_rfl)) (by decide) (fun K hK => ?_)
             refine goes_ Tryd.func69 (by kernel_rfl) rfl #[.agg #[.int .i64 ((rd_T34 l0_1 x6_3).f0), .slice A308_1 ((rd_T34 l0_1 x6_3).f1).length c308_1], .agg #[.int .i64 ((rd_T34 l1_1 x6_3).f0), .slice A309_1 ((rd_T34 l1_1 x6_3).f1).length c309_1]] (by rfl) rfl rfl (by (try simp only [List.map_toArray, List.map_cons, List.map_nil]);first|done|rfl|(simp only [List.length_drop, List.length_take];rfl)) ?_
             with_reducible refine (quarryref00_SameBits.calls k3 ((rd_T34 l0_1 x6_3).f0) _ _ ((rd_T34 l0_1 x6_3).f1) ((rd_T34 l1_1 x6_3).f0) _ _ ((rd_T34 l1_1 x6_3).f1) false _ ?side1 ?side2 ?side3 ?side4 A32.out).mono ?_
             (case side1 => repeat (first|exact (Kd.C_below HR308_1.out HB.out)|(with_reducible refine Kd.C_alloc ?_ _)|(with_reducible refine Kd.C_drewN ?_ _)|(with_reducible refine Kd.C_drew ?_)))
             (case side2 => exact HC308_1.out)
             (case side3 => repeat (first|exact (Kd.C_below HR309_1.out HB.out)|(with_reducible refine Kd.C_alloc ?_ _)|(with_reducible refine Kd.C_drewN ?_ _)|(with_reducible refine Kd.C_drew ?_)))
             (case side4 => exact HC309_1.out)
             rintro e w41 ⟨rfl, hb⟩
             refine ⟨_, rfl, ?_⟩
             have n0_ := zA (zQ (g := gb303) (o := .cells #[.slice A0_0 l0_0.length c0_0, .slice (some ad308) l0_1.length c0_1] 48 (0, 0)) (by (with_reducible repeat (first|refine zJ ?_ _|refine zK ?_|refine zL ?_ _));exact BK303.out) hb)
             have n1_ := zA (zQ (g := gb304) (o := .cells #[.slice A1_0 l1_0.length c1_0, .slice (some ad309) l1_1.length c1_1] 48 (0, 0)) (by (with_reducible repeat (first|refine zJ ?_ _|refine zK ?_|refine zL ?_ _));exact BK304.out) hb)
             have n2_ := zA (zN (by repeat (first|(with_reducible first|exact HB.out|apply zG|apply zF|apply zH|refine zI ?_ GE303.out|refine zI ?_ GE304.out)|exact HB.out)) hb)
             clear BK303
             clear BK304
             clear HB
             have BK303 := n0_
             have BK304 := n1_
             have HB := n2_
             clear n0_ n1_ n2_
             (try clear hb)
             (try clear hb2)
             (try clear hk)
             (try clear hi)
             refine hK.out _ _ ⟨(zP BK303.out 0).trans rfl, (zP BK303.out 1).trans rfl, (zP BK304.out 0).trans rfl, (zP BK304.out 1).trans rfl, ((HB.out.cell (zz4 w _ hw308_0)).trans hw308_0), ((HB.out.cell (zz4 w _ hw308_1)).trans hw308_1), ((HB.out.cell (zz4 w _ hw309_0)).trans hw309_0), ((HB.out.cell (zz4 w _ hw309_1)).trans hw309_1)⟩ (fun hHeld => ?_)
             clear hK K
             refine norm_ (a' := ?_) ?_ ?_
             rotate_left
             ·show Act.put _ (some 59) _ = _
              simp only [Act.put, zB, zC, zD, i64_w, i32_w]
              rfl
             refine pure_ (i := 11) (N := some 60) (v := ?_) (a' := ?_) #[true, true, true, true, true, true, true, true, true, true, true, true] rfl rfl (any_of HT_.out (by kernel_rfl)) (fun _ _ _ h => h) (Or.inl ⟨by rfl, ?_⟩) ?_ ?_
             rotate_left
             ·intro w'
              go_simp
              with_reducible rfl
             rotate_left
             ·simp only [Act.put, zB, zC, zD, i64_w, i32_w]
              rfl
             refine done_ (done_of HT_.out (by kernel_rfl)) ?_
             try go_wp2
             go_ret
             exact ⟨by first|rfl|(simp [errW_none, errW_some] <;> rfl)|(simp [*, errW_none, errW_some] <;> rfl), by repeat (first|(with_reducible first|exact HB.out|apply zG|apply zF|apply zH|refine zI ?_ GE303.out|refine zI ?_ GE304.out)|exact HB.out)⟩
           ·rw [if_neg c31] at H
            exact absurd H (by simp)
          ·rw [if_neg c30] at H
           exact absurd H (by simp)
         ·rw [if_neg c29] at H
          have c29b0 : decide (x6_3 < (l0_1.length : Int)) = false := decide_eq_false c29
          clear c29
          obtain rfl := Option.some.inj H
          have hnb42 := NB303_304.out
          have hnc42 := NB304_303.out
          have hcz43_0 : wr.cell? ⟨gb303, 0, none⟩ = some (.slice A0_0 l0_0.length c0_0) := (zP BK303.out 0).trans rfl
          have hcz43_1 : wr.cell? ⟨gb303, 1, none⟩ = some (.slice A0_1 l0_1.length c0_1) := (zP BK303.out 1).trans rfl
          have hfz43_0 := zR BK303.out 0
          have hfz43_1 := zR BK303.out 1
          go_wp2
          go_ret
          exact ⟨by first|rfl|(simp [errW_none, errW_some] <;> rfl)|(simp [*, errW_none, errW_some] <;> rfl), by repeat (first|(with_reducible first|exact HB.out|apply zG|apply zF|apply zH|refine zI ?_ GE303.out|refine zI ?_ GE304.out)|exact HB.out)⟩

end Go.Proofs.YtgddljealeklkaaDoor.PL
end
