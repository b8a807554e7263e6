-- Written by a program (myprint.py, over the kit's print) for this claim. Not trusted: Lean checks it.
import Derived.Test.YtadcgjmhhodnoaaDoorPBx4a
import Derived.Test.YtadcgjmhhodnoaaDoorMh
import Derived.Test.YtadcgjmhhodnoaaDoorPBx0
import Derived.Test.YtadcgjmhhodnoaaDoorPBx1
import Derived.Test.YtadcgjmhhodnoaaDoorPBx2
import Derived.Test.YtadcgjmhhodnoaaDoorPBx3
namespace Go.Proofs.YtadcgjmhhodnoaaDoor.PB
attribute [local go_sem] Go.Proofs.YtadcgjmhhodnoaaDoorM.fieldBits0 Go.Proofs.YtadcgjmhhodnoaaDoorM.fieldBits1
open Go.Proofs.YtadcgjmhhodnoaaDoorM (TabOk)
open Go.RowKit Go.Proofs.YtadcgjmhhodnoaaDoorW.PrintWords Go.Proofs.YtadcgjmhhodnoaaDoorW.PrintLast Go.Proofs.YtadcgjmhhodnoaaDoorW.PrintMore
attribute [local go_sem] max2_int min2_int max_two min_two max_three min_three max_four min_four   -- for this text's walks alone
set_option linter.unusedVariables false
set_option linter.unusedSimpArgs false

set_option maxHeartbeats 8000000 in
set_option maxRecDepth 100000 in
theorem quarrylaw07_QuotesBehind.calls (k : Nat) (a0 : ByteArray) (a1 : ByteArray) (r : Bool) (w : World) (hT : TabOk w) (h : quarrylaw07_QuotesBehind.f k a0 a1 = some r) :
  Calls Tryd.prog 10 #[.string a0, .string a1] w fun e w' => e = .returned (.bool r) ∧ Below w.heap.size w w' := by
 have TK_ := zS hT
 clear hT
 have hu38 := Tryd.underlying38
 have HB := zS (Below.refl w.heap.size w)
 have H : ((quarrylaw07_awake.f).bind fun t127 => (if t127 = true then ((quotes_Marks.f a0).bind fun bt128 => ((quotes_Marks.f a1).bind fun bt132 => (if a0.size + a1.size ≤ 9223372036854775807 then ((quotes_Marks.f (a0 ++ a1)).bind fun bt136 => ((quotes_Inside.f a0).bind fun bt143 => ((quotes_Inside.f a1).bind fun bt147 => ((quotes_Inside.f (a0 ++ a1)).bind fun bt151 => (if bt136.1 = (wrap64 ((a0.size : Int) + (a1.size : Int))) then (quarrylaw07_QuotesBehind.j0 k a0 a1 (bt151.1 != bt136.1) bt128.1 bt128.2 bt132.1 bt132.2 bt136.1 bt136.2 bt143.1 bt143.2 bt147.1 bt147.2 bt151.1 bt151.2) else (quarrylaw07_QuotesBehind.j0 k a0 a1 true bt128.1 bt128.2 bt132.1 bt132.2 bt136.1 bt136.2 bt143.1 bt143.2 bt147.1 bt147.2 bt151.1 bt151.2)))))) else (none)))) else (some false))) = some r := h
 clear h
 replace H := Option.bind_eq_some_iff.mp H
 obtain ⟨t127, A30, H⟩ := H
 replace H : (if t127 = true then ((quotes_Marks.f a0).bind fun bt128 => ((quotes_Marks.f a1).bind fun bt132 => (if a0.size + a1.size ≤ 9223372036854775807 then ((quotes_Marks.f (a0 ++ a1)).bind fun bt136 => ((quotes_Inside.f a0).bind fun bt143 => ((quotes_Inside.f a1).bind fun bt147 => ((quotes_Inside.f (a0 ++ a1)).bind fun bt151 => (if bt136.1 = (wrap64 ((a0.size : Int) + (a1.size : Int))) then (quarrylaw07_QuotesBehind.j0 k a0 a1 (bt151.1 != bt136.1) bt128.1 bt128.2 bt132.1 bt132.2 bt136.1 bt136.2 bt143.1 bt143.2 bt147.1 bt147.2 bt151.1 bt151.2) else (quarrylaw07_QuotesBehind.j0 k a0 a1 true bt128.1 bt128.2 bt132.1 bt132.2 bt136.1 bt136.2 bt143.1 bt143.2 bt147.1 bt147.2 bt151.1 bt151.2)))))) else (none)))) else (some false)) = some r := H
 have A3 := zS A30
 clear A30
 by_cases c4 : t127 = true
 ·subst c4
  have H1 : ((quotes_Marks.f a0).bind fun bt128 => ((quotes_Marks.f a1).bind fun bt132 => (if a0.size + a1.size ≤ 9223372036854775807 then ((quotes_Marks.f (a0 ++ a1)).bind fun bt136 => ((quotes_Inside.f a0).bind fun bt143 => ((quotes_Inside.f a1).bind fun bt147 => ((quotes_Inside.f (a0 ++ a1)).bind fun bt151 => (if bt136.1 = (wrap64 ((a0.size : Int) + (a1.size : Int))) then (quarrylaw07_QuotesBehind.j0 k a0 a1 (bt151.1 != bt136.1) bt128.1 bt128.2 bt132.1 bt132.2 bt136.1 bt136.2 bt143.1 bt143.2 bt147.1 bt147.2 bt151.1 bt151.2) else (quarrylaw07_QuotesBehind.j0 k a0 a1 true bt128.1 bt128.2 bt132.1 bt132.2 bt136.1 bt136.2 bt143.1 bt143.2 bt147.1 bt147.2 bt151.1 bt151.2)))))) else (none)))) = some r := by rw [if_pos rfl] at H; exact H
  clear H
  have H := H1
  clear H1
  replace H := Option.bind_eq_some_iff.mp H
  obtain ⟨⟨t128, t129⟩, A50, H⟩ := H
  replace H : ((quotes_Marks.f a1).bind fun bt132 => (if a0.size + a1.size ≤ 9223372036854775807 then ((quotes_Marks.f (a0 ++ a1)).bind fun bt136 => ((quotes_Inside.f a0).bind fun bt143 => ((quotes_Inside.f a1).bind fun bt147 => ((quotes_Inside.f (a0 ++ a1)).bind fun bt151 => (if bt136.1 = (wrap64 ((a0.size : Int) + (a1.size : Int))) then (quarrylaw07_QuotesBehind.j0 k a0 a1 (bt151.1 != bt136.1) t128 t129 bt132.1 bt132.2 bt136.1 bt136.2 bt143.1 bt143.2 bt147.1 bt147.2 bt151.1 bt151.2) else (quarrylaw07_QuotesBehind.j0 k a0 a1 true t128 t129 bt132.1 bt132.2 bt136.1 bt136.2 bt143.1 bt143.2 bt147.1 bt147.2 bt151.1 bt151.2)))))) else (none))) = some r := H
  have A5 := zS A50
  clear A50
  replace H := Option.bind_eq_some_iff.mp H
  obtain ⟨⟨t132, t133⟩, A60, H⟩ := H
  replace H : (if a0.size + a1.size ≤ 9223372036854775807 then ((quotes_Marks.f (a0 ++ a1)).bind fun bt136 => ((quotes_Inside.f a0).bind fun bt143 => ((quotes_Inside.f a1).bind fun bt147 => ((quotes_Inside.f (a0 ++ a1)).bind fun bt151 => (if bt136.1 = (wrap64 ((a0.size : Int) + (a1.size : Int))) then (quarrylaw07_QuotesBehind.j0 k a0 a1 (bt151.1 != bt136.1) t128 t129 t132 t133 bt136.1 bt136.2 bt143.1 bt143.2 bt147.1 bt147.2 bt151.1 bt151.2) else (quarrylaw07_QuotesBehind.j0 k a0 a1 true t128 t129 t132 t133 bt136.1 bt136.2 bt143.1 bt143.2 bt147.1 bt147.2 bt151.1 bt151.2)))))) else (none)) = some r := H
  have A6 := zS A60
  clear A60
  by_cases c7 : a0.size + a1.size ≤ 9223372036854775807
  ·rw [if_pos c7] at H
   have c7b0 := eq_true c7
   have c7b1 : decide (a0.size + a1.size ≤ 9223372036854775807) = true := decide_eq_true c7
   try have c7b2 : (9223372036854775807 < a0.size + a1.size) = False := eq_false (Nat.not_lt.2 c7)
   replace H := Option.bind_eq_some_iff.mp H
   obtain ⟨⟨t136, t137⟩, A80, H⟩ := H
   replace H : ((quotes_Inside.f a0).bind fun bt143 => ((quotes_Inside.f a1).bind fun bt147 => ((quotes_Inside.f (a0 ++ a1)).bind fun bt151 => (if t136 = (wrap64 ((a0.size : Int) + (a1.size : Int))) then (quarrylaw07_QuotesBehind.j0 k a0 a1 (bt151.1 != t136) t128 t129 t132 t133 t136 t137 bt143.1 bt143.2 bt147.1 bt147.2 bt151.1 bt151.2) else (quarrylaw07_QuotesBehind.j0 k a0 a1 true t128 t129 t132 t133 t136 t137 bt143.1 bt143.2 bt147.1 bt147.2 bt151.1 bt151.2))))) = some r := H
   have A8 := zS A80
   clear A80
   replace H := Option.bind_eq_some_iff.mp H
   obtain ⟨⟨t143, t144⟩, A90, H⟩ := H
   replace H : ((quotes_Inside.f a1).bind fun bt147 => ((quotes_Inside.f (a0 ++ a1)).bind fun bt151 => (if t136 = (wrap64 ((a0.size : Int) + (a1.size : Int))) then (quarrylaw07_QuotesBehind.j0 k a0 a1 (bt151.1 != t136) t128 t129 t132 t133 t136 t137 t143 t144 bt147.1 bt147.2 bt151.1 bt151.2) else (quarrylaw07_QuotesBehind.j0 k a0 a1 true t128 t129 t132 t133 t136 t137 t143 t144 bt147.1 bt147.2 bt151.1 bt151.2)))) = some r := H
   have A9 := zS A90
   clear A90
   replace H := Option.bind_eq_some_iff.mp H
   obtain ⟨⟨t147, t148⟩, A100, H⟩ := H
   replace H : ((quotes_Inside.f (a0 ++ a1)).bind fun bt151 => (if t136 = (wrap64 ((a0.size : Int) + (a1.size : Int))) then (quarrylaw07_QuotesBehind.j0 k a0 a1 (bt151.1 != t136) t128 t129 t132 t133 t136 t137 t143 t144 t147 t148 bt151.1 bt151.2) else (quarrylaw07_QuotesBehind.j0 k a0 a1 true t128 t129 t132 t133 t136 t137 t143 t144 t147 t148 bt151.1 bt151.2))) = some r := H
   have A10 := zS A100
   clear A100
   replace H := Option.bind_eq_some_iff.mp H
   obtain ⟨⟨t151, t152⟩, A110, H⟩ := H
   replace H : (if t136 = (wrap64 ((a0.size : Int) + (a1.size : Int))) then (quarrylaw07_QuotesBehind.j0 k a0 a1 (t151 != t136) t128 t129 t132 t133 t136 t137 t143 t144 t147 t148 t151 t152) else (quarrylaw07_QuotesBehind.j0 k a0 a1 true t128 t129 t132 t133 t136 t137 t143 t144 t147 t148 t151 t152)) = some r := H
   have A11 := zS A110
   clear A110
   have HC12 := zS H
   clear H
   go_enter Tryd.func10, Tryd.ntmps10
   go_upto_region 5 with (first | ((with_reducible refine gate_callee (f := 28) rfl ?_); refine goesL_ (some 14) rfl rfl Tryd.func28 (by kernel_rfl) rfl #[] rfl (by (try simp only [List.map_toArray, List.map_cons, List.map_nil]); first | done | rfl | (simp only [List.length_drop, List.length_take]; rfl)) ?_; (with_reducible refine (quarrylaw07_awake.calls  true _ ?tabk A3.out).mono ?_); (case tabk => exact TK_.out.step (by repeat (first | (with_reducible first | exact HB.out | apply zQ | apply zN | apply zO) | exact HB.out))); rintro e w13 ⟨rfl, hb⟩; refine ⟨_, rfl, ?_⟩; have n0_ := zS (below_step (by repeat (first | (with_reducible first | exact HB.out | apply zQ | apply zN | apply zO) | exact HB.out)) hb); clear HB; have HB := n0_; clear n0_; (try clear hb); (try clear hb2); (try clear hk); (try clear hi)) | ((with_reducible refine gate_callee (f := 22) rfl ?_); refine goesL_ (some 17) rfl rfl Tryd.func22 (by kernel_rfl) rfl #[.string a0] rfl (by (try simp only [List.map_toArray, List.map_cons, List.map_nil]); first | done | rfl | (simp only [List.length_drop, List.length_take]; rfl)) ?_; (with_reducible refine (quotes_Marks.calls a0 t128 t129 _ A5.out).mono ?_); rintro e w14 ⟨v130, rfl, ho0, hb⟩; refine ⟨_, rfl, ?_⟩; have n0_ := zS (Kd.R_lower ho0 (below_size (by repeat (first | (with_reducible first | exact HB.out | apply zQ | apply zN | apply zO) | exact HB.out)))); have n1_ := zS (below_step (by repeat (first | (with_reducible first | exact HB.out | apply zQ | apply zN | apply zO) | exact HB.out)) hb); clear HB; have HO131 := n0_; have HB := n1_; clear n0_ n1_; (try clear hb); (try clear hb2); (try clear hk); (try clear hi); (try clear ho0)) | ((with_reducible refine gate_callee (f := 22) rfl ?_); refine goesL_ (some 19) rfl rfl Tryd.func22 (by kernel_rfl) rfl #[.string a1] rfl (by (try simp only [List.map_toArray, List.map_cons, List.map_nil]); first | done | rfl | (simp only [List.length_drop, List.length_take]; rfl)) ?_; (with_reducible refine (quotes_Marks.calls a1 t132 t133 _ A6.out).mono ?_); rintro e w15 ⟨v134, rfl, ho0, hb⟩; refine ⟨_, rfl, ?_⟩; have n0_ := zS (Kd.R_elder' (by (with_reducible repeat (first | apply zG | apply zH | apply zI)); exact HO131.out) (Kd.R_base ho0) hb); have n1_ := zS (Kd.R_lower (Kd.R_new' ho0 (Kd.R_lt (by (with_reducible repeat (first | apply zG | apply zH | apply zI)); exact HO131.out))) (below_size (by repeat (first | (with_reducible first | exact HB.out | apply zQ | apply zN | apply zO) | exact HB.out)))); have n2_ := zS (below_step (by repeat (first | (with_reducible first | exact HB.out | apply zQ | apply zN | apply zO) | exact HB.out)) hb); clear HO131; clear HB; have HO131 := n0_; have HO135 := n1_; have HB := n2_; clear n0_ n1_ n2_; (try clear hb); (try clear hb2); (try clear hk); (try clear hi); (try clear ho0)) | ((with_reducible refine gate_callee (f := 22) rfl ?_); refine goesL_ (some 23) rfl rfl Tryd.func22 (by kernel_rfl) rfl #[.string (a0 ++ a1)] rfl (by (try simp only [List.map_toArray, List.map_cons, List.map_nil]); first | done | rfl | (simp only [List.length_drop, List.length_take]; rfl)) ?_; (with_reducible refine (quotes_Marks.calls (a0 ++ a1) t136 t137 _ A8.out).mono ?_); rintro e w16 ⟨v138, rfl, ho0, hb⟩; refine ⟨_, rfl, ?_⟩; have n0_ := zS (Kd.R_elder' (by (with_reducible repeat (first | apply zG | apply zH | apply zI)); exact HO131.out) (Kd.R_base ho0) hb); have n1_ := zS (Kd.R_elder' (by (with_reducible repeat (first | apply zG | apply zH | apply zI)); exact HO135.out) (Kd.R_base ho0) hb); have n2_ := zS (Kd.R_lower (Kd.R_new' (Kd.R_new' ho0 (Kd.R_lt (by (with_reducible repeat (first | apply zG | apply zH | apply zI)); exact HO131.out))) (Kd.R_lt (by (with_reducible repeat (first | apply zG | apply zH | apply zI)); exact HO135.out))) (below_size (by repeat (first | (with_reducible first | exact HB.out | apply zQ | apply zN | apply zO) | exact HB.out)))); have n3_ := zS (below_step (by repeat (first | (with_reducible first | exact HB.out | apply zQ | apply zN | apply zO) | exact HB.out)) hb); clear HO131; clear HO135; clear HB; have HO131 := n0_; have HO135 := n1_; have HO139 := n2_; have HB := n3_; clear n0_ n1_ n2_ n3_; (try clear hb); (try clear hb2); (try clear hk); (try clear hi); (try clear ho0)) | ((with_reducible refine gate_dst (N := 5) rfl ?_); (try (refine gate_guard (by rfl) ?_; dsimp only)); refine box_event ?hg (N := 5) ?hd (cs := #[.int .i64 0, .slice none 0 0]) (t := 38) ?hr ?_; (case hd => rfl); (case hg => rfl); (case hr => first | (go_simp; done) | (go_simp; rfl)); intro gb140 hg w17 hbox hb; have n0_ := zS (zK (by (with_reducible repeat (first | apply zG | apply zH | apply zI)); exact HO131.out) hb); have n1_ := zS (zK (by (with_reducible repeat (first | apply zG | apply zH | apply zI)); exact HO135.out) hb); have n2_ := zS (zK (by (with_reducible repeat (first | apply zG | apply zH | apply zI)); exact HO139.out) hb); have n3_ := zS (below_step (by repeat (first | (with_reducible first | exact HB.out | apply zQ | apply zN | apply zO) | exact HB.out)) hb); have n4_ := zS (hbox); have n5_ := zS ((by rw [hg]; exact (below_size (by repeat (first | (with_reducible first | exact HB.out | apply zQ | apply zN | apply zO) | exact HB.out))) : w.heap.size ≤ gb140)); have n6_ := zS ((by rw [hg]; exact (below_size (by repeat (first | (with_reducible first | exact HB.out | apply zQ | apply zN | apply zO) | exact HB.out))) : w.heap.size ≤ gb140)); clear HO131; clear HO135; clear HO139; clear HB; have HO131 := n0_; have HO135 := n1_; have HO139 := n2_; have HB := n3_; have BK140 := n4_; have GW140 := n5_; have GE140 := n6_; clear n0_ n1_ n2_ n3_ n4_ n5_ n6_; clear hb hbox hg) | ((with_reducible refine gate_dst (N := 6) rfl ?_); (try (refine gate_guard (by rfl) ?_; dsimp only)); refine box_event ?hg (N := 6) ?hd (cs := #[.int .i64 0, .slice none 0 0]) (t := 38) ?hr ?_; (case hd => rfl); (case hg => rfl); (case hr => first | (go_simp; done) | (go_simp; rfl)); intro gb141 hg w18 hbox hb; have n0_ := zS (zK (by (with_reducible repeat (first | apply zG | apply zH | apply zI)); exact HO131.out) hb); have n1_ := zS (zK (by (with_reducible repeat (first | apply zG | apply zH | apply zI)); exact HO135.out) hb); have n2_ := zS (zK (by (with_reducible repeat (first | apply zG | apply zH | apply zI)); exact HO139.out) hb); have n3_ := zS (zM (g := gb140) (o := .cells #[.int .i64 0, .slice none 0 0] 38 (0, 0)) (by (with_reducible repeat (first | refine zD ?_ _ | refine zE ?_ | refine zF ?_ _)); exact BK140.out) hb); have n4_ := zS (below_step (by repeat (first | (with_reducible first | exact HB.out | apply zQ | apply zN | apply zO | refine zJ ?_ GE140.out) | exact HB.out)) hb); have n5_ := zS (hbox); have n6_ := zS ((by rw [hg]; exact (below_size (by repeat (first | (with_reducible first | exact HB.out | apply zQ | apply zN | apply zO | refine zJ ?_ GE140.out) | exact HB.out))) : w.heap.size ≤ gb141)); have n7_ := zS ((by rw [hg]; exact (below_size (by repeat (first | (with_reducible first | exact HB.out | apply zQ | apply zN | apply zO | refine zJ ?_ GE140.out) | exact HB.out))) : w.heap.size ≤ gb141)); have n8_ := zS ((by rw [hg]; exact Nat.ne_of_lt (blk_lt (g := gb140) (o := .cells #[.int .i64 0, .slice none 0 0] 38 (0, 0)) (by (with_reducible repeat (first | refine zD ?_ _ | refine zE ?_ | refine zF ?_ _)); exact BK140.out)) : gb140 ≠ gb141)); have n9_ := zS ((by rw [hg]; exact Nat.ne_of_gt (blk_lt (g := gb140) (o := .cells #[.int .i64 0, .slice none 0 0] 38 (0, 0)) (by (with_reducible repeat (first | refine zD ?_ _ | refine zE ?_ | refine zF ?_ _)); exact BK140.out)) : gb141 ≠ gb140)); clear HO131; clear HO135; clear HO139; clear BK140; clear HB; have HO131 := n0_; have HO135 := n1_; have HO139 := n2_; have BK140 := n3_; have HB := n4_; have BK141 := n5_; have GW141 := n6_; have GE141 := n7_; have NB140_141 := n8_; have NB141_140 := n9_; clear n0_ n1_ n2_ n3_ n4_ n5_ n6_ n7_ n8_ n9_; clear hb hbox hg) | ((with_reducible refine gate_dst (N := 7) rfl ?_); (try (refine gate_guard (by rfl) ?_; dsimp only)); refine box_event ?hg (N := 7) ?hd (cs := #[.int .i64 0, .slice none 0 0]) (t := 38) ?hr ?_; (case hd => rfl); (case hg => rfl); (case hr => first | (go_simp; done) | (go_simp; rfl)); intro gb142 hg w19 hbox hb; have n0_ := zS (zK (by (with_reducible repeat (first | apply zG | apply zH | apply zI)); exact HO131.out) hb); have n1_ := zS (zK (by (with_reducible repeat (first | apply zG | apply zH | apply zI)); exact HO135.out) hb); have n2_ := zS (zK (by (with_reducible repeat (first | apply zG | apply zH | apply zI)); exact HO139.out) hb); have n3_ := zS (zM (g := gb140) (o := .cells #[.int .i64 0, .slice none 0 0] 38 (0, 0)) (by (with_reducible repeat (first | refine zD ?_ _ | refine zE ?_ | refine zF ?_ _)); exact BK140.out) hb); have n4_ := zS (zM (g := gb141) (o := .cells #[.int .i64 0, .slice none 0 0] 38 (0, 0)) (by (with_reducible repeat (first | refine zD ?_ _ | refine zE ?_ | refine zF ?_ _)); exact BK141.out) hb); have n5_ := zS (below_step (by repeat (first | (with_reducible first | exact HB.out | apply zQ | apply zN | apply zO | refine zJ ?_ GE140.out | refine zJ ?_ GE141.out) | exact HB.out)) hb); have n6_ := zS (hbox); have n7_ := zS ((by rw [hg]; exact (below_size (by repeat (first | (with_reducible first | exact HB.out | apply zQ | apply zN | apply zO | refine zJ ?_ GE140.out | refine zJ ?_ GE141.out) | exact HB.out))) : w.heap.size ≤ gb142)); have n8_ := zS ((by rw [hg]; exact (below_size (by repeat (first | (with_reducible first | exact HB.out | apply zQ | apply zN | apply zO | refine zJ ?_ GE140.out | refine zJ ?_ GE141.out) | exact HB.out))) : w.heap.size ≤ gb142)); have n9_ := zS ((by rw [hg]; exact Nat.ne_of_lt (blk_lt (g := gb140) (o := .cells #[.int .i64 0, .slice none 0 0] 38 (0, 0)) (by (with_reducible repeat (first | refine zD ?_ _ | refine zE ?_ | refine zF ?_ _)); exact BK140.out)) : gb140 ≠ gb142)); have n10_ := zS ((by rw [hg]; exact Nat.ne_of_gt (blk_lt (g := gb140) (o := .cells #[.int .i64 0, .slice none 0 0] 38 (0, 0)) (by (with_reducible repeat (first | refine zD ?_ _ | refine zE ?_ | refine zF ?_ _)); exact BK140.out)) : gb142 ≠ gb140)); have n11_ := zS ((by rw [hg]; exact Nat.ne_of_lt (blk_lt (g := gb141) (o := .cells #[.int .i64 0, .slice none 0 0] 38 (0, 0)) (by (with_reducible repeat (first | refine zD ?_ _ | refine zE ?_ | refine zF ?_ _)); exact BK141.out)) : gb141 ≠ gb142)); have n12_ := zS ((by rw [hg]; exact Nat.ne_of_gt (blk_lt (g := gb141) (o := .cells #[.int .i64 0, .slice none 0 0] 38 (0, 0)) (by (with_reducible repeat (first | refine zD ?_ _ | refine zE ?_ | refine zF ?_ _)); exact BK141.out)) : gb142 ≠ gb141)); clear HO131; clear HO135; clear HO139; clear BK140; clear BK141; clear HB; have HO131 := n0_; have HO135 := n1_; have HO139 := n2_; have BK140 := n3_; have BK141 := n4_; have HB := n5_; have BK142 := n6_; have GW142 := n7_; have GE142 := n8_; have NB140_142 := n9_; have NB142_140 := n10_; have NB141_142 := n11_; have NB142_141 := n12_; clear n0_ n1_ n2_ n3_ n4_ n5_ n6_ n7_ n8_ n9_ n10_ n11_ n12_; clear hb hbox hg; have hnb20 := NB140_141.out; have hnc20 := NB141_140.out; have hnb21 := NB140_142.out; have hnc21 := NB142_140.out; have hcz22_0 : w19.cell? ⟨gb140, 0, none⟩ = some (.int .i64 0) := (zL BK140.out 0).trans rfl; have hcz22_1 : w19.cell? ⟨gb140, 1, none⟩ = some (.slice none 0 0) := (zL BK140.out 1).trans rfl; have hfz22_0 := blk_frozen BK140.out 0; have hfz22_1 := blk_frozen BK140.out 1; obtain ⟨Ao23, co23, eo23⟩ := Kd.R_slice HO131.out; subst eo23; have hnb24 := NB141_142.out; have hnc24 := NB142_141.out; have hcz25_0 : w19.cell? ⟨gb141, 0, none⟩ = some (.int .i64 0) := (zL BK141.out 0).trans rfl; have hcz25_1 : w19.cell? ⟨gb141, 1, none⟩ = some (.slice none 0 0) := (zL BK141.out 1).trans rfl; have hfz25_0 := blk_frozen BK141.out 0; have hfz25_1 := blk_frozen BK141.out 1; obtain ⟨Ao26, co26, eo26⟩ := Kd.R_slice HO135.out; subst eo26; have hcz27_0 : w19.cell? ⟨gb142, 0, none⟩ = some (.int .i64 0) := (zL BK142.out 0).trans rfl; have hcz27_1 : w19.cell? ⟨gb142, 1, none⟩ = some (.slice none 0 0) := (zL BK142.out 1).trans rfl; have hfz27_0 := blk_frozen BK142.out 0; have hfz27_1 := blk_frozen BK142.out 1; obtain ⟨Ao28, co28, eo28⟩ := Kd.R_slice HO139.out; subst eo28) | ((with_reducible refine gate_callee (f := 24) rfl ?_); refine goesL_ (some 25) rfl rfl Tryd.func24 (by kernel_rfl) rfl #[.string a0] rfl (by (try simp only [List.map_toArray, List.map_cons, List.map_nil]); first | done | rfl | (simp only [List.length_drop, List.length_take]; rfl)) ?_; (with_reducible refine (quotes_Inside.calls a0 t143 t144 _ A9.out).mono ?_); rintro e w29 ⟨v145, rfl, ho0, hb⟩; refine ⟨_, rfl, ?_⟩; have n0_ := zS (Kd.R_elder' (by (with_reducible repeat (first | apply zG | apply zH | apply zI)); exact (Kd.R_mono (Kd.R_mono (Kd.R_mono (zP (p := ⟨gb142, 1, none⟩) (zP (p := ⟨gb142, 0, none⟩) (zP (p := ⟨gb141, 1, none⟩) (zP (p := ⟨gb141, 0, none⟩) (zP (p := ⟨gb140, 1, none⟩) (zP (p := ⟨gb140, 0, none⟩) (Kd.R_types (Kd.R_types (Kd.R_types HO131.out BK140.out (by decide)) BK141.out (by decide)) BK142.out (by decide)) (fun _ hk => hk.1.1.2) (.int .i64 t128)) (fun _ hk => hk.1.1.2) (.slice Ao23 t129.length co23)) (fun _ hk => hk.1.2) (.int .i64 t132)) (fun _ hk => hk.1.2) (.slice Ao26 t133.length co26)) (fun _ hk => hk.2) (.int .i64 t136)) (fun _ hk => hk.2) (.slice Ao28 t137.length co28)) (fun _ h_ => h_.1)) (fun _ h_ => h_.1)) (fun _ h_ => h_.1))) (Kd.R_base ho0) hb); have n1_ := zS (Kd.R_elder' (by (with_reducible repeat (first | apply zG | apply zH | apply zI)); exact (Kd.R_mono (Kd.R_mono (Kd.R_mono (zP (p := ⟨gb142, 1, none⟩) (zP (p := ⟨gb142, 0, none⟩) (zP (p := ⟨gb141, 1, none⟩) (zP (p := ⟨gb141, 0, none⟩) (zP (p := ⟨gb140, 1, none⟩) (zP (p := ⟨gb140, 0, none⟩) (Kd.R_types (Kd.R_types (Kd.R_types HO135.out BK140.out (by decide)) BK141.out (by decide)) BK142.out (by decide)) (fun _ hk => hk.1.1.2) (.int .i64 t128)) (fun _ hk => hk.1.1.2) (.slice Ao23 t129.length co23)) (fun _ hk => hk.1.2) (.int .i64 t132)) (fun _ hk => hk.1.2) (.slice Ao26 t133.length co26)) (fun _ hk => hk.2) (.int .i64 t136)) (fun _ hk => hk.2) (.slice Ao28 t137.length co28)) (fun _ h_ => h_.1)) (fun _ h_ => h_.1)) (fun _ h_ => h_.1))) (Kd.R_base ho0) hb); have n2_ := zS (Kd.R_elder' (by (with_reducible repeat (first | apply zG | apply zH | apply zI)); exact (Kd.R_mono (Kd.R_mono (Kd.R_mono (zP (p := ⟨gb142, 1, none⟩) (zP (p := ⟨gb142, 0, none⟩) (zP (p := ⟨gb141, 1, none⟩) (zP (p := ⟨gb141, 0, none⟩) (zP (p := ⟨gb140, 1, none⟩) (zP (p := ⟨gb140, 0, none⟩) (Kd.R_types (Kd.R_types (Kd.R_types HO139.out BK140.out (by decide)) BK141.out (by decide)) BK142.out (by decide)) (fun _ hk => hk.1.1.2) (.int .i64 t128)) (fun _ hk => hk.1.1.2) (.slice Ao23 t129.length co23)) (fun _ hk => hk.1.2) (.int .i64 t132)) (fun _ hk => hk.1.2) (.slice Ao26 t133.length co26)) (fun _ hk => hk.2) (.int .i64 t136)) (fun _ hk => hk.2) (.slice Ao28 t137.length co28)) (fun _ h_ => h_.1)) (fun _ h_ => h_.1)) (fun _ h_ => h_.1))) (Kd.R_base ho0) hb); have n3_ := zS (Kd.R_lower (Kd.R_new' (Kd.R_new' (Kd.R_new' ho0 (Kd.R_lt (by (with_reducible repeat (first | apply zG | apply zH | apply zI)); exact (Kd.R_mono (Kd.R_mono (Kd.R_mono (zP (p := ⟨gb142, 1, none⟩) (zP (p := ⟨gb142, 0, none⟩) (zP (p := ⟨gb141, 1, none⟩) (zP (p := ⟨gb141, 0, none⟩) (zP (p := ⟨gb140, 1, none⟩) (zP (p := ⟨gb140, 0, none⟩) (Kd.R_types (Kd.R_types (Kd.R_types HO131.out BK140.out (by decide)) BK141.out (by decide)) BK142.out (by decide)) (fun _ hk => hk.1.1.2) (.int .i64 t128)) (fun _ hk => hk.1.1.2) (.slice Ao23 t129.length co23)) (fun _ hk => hk.1.2) (.int .i64 t132)) (fun _ hk => hk.1.2) (.slice Ao26 t133.length co26)) (fun _ hk => hk.2) (.int .i64 t136)) (fun _ hk => hk.2) (.slice Ao28 t137.length co28)) (fun _ h_ => h_.1)) (fun _ h_ => h_.1)) (fun _ h_ => h_.1))))) (Kd.R_lt (by (with_reducible repeat (first | apply zG | apply zH | apply zI)); exact (Kd.R_mono (Kd.R_mono (Kd.R_mono (zP (p := ⟨gb142, 1, none⟩) (zP (p := ⟨gb142, 0, none⟩) (zP (p := ⟨gb141, 1, none⟩) (zP (p := ⟨gb141, 0, none⟩) (zP (p := ⟨gb140, 1, none⟩) (zP (p := ⟨gb140, 0, none⟩) (Kd.R_types (Kd.R_types (Kd.R_types HO135.out BK140.out (by decide)) BK141.out (by decide)) BK142.out (by decide)) (fun _ hk => hk.1.1.2) (.int .i64 t128)) (fun _ hk => hk.1.1.2) (.slice Ao23 t129.length co23)) (fun _ hk => hk.1.2) (.int .i64 t132)) (fun _ hk => hk.1.2) (.slice Ao26 t133.length co26)) (fun _ hk => hk.2) (.int .i64 t136)) (fun _ hk => hk.2) (.slice Ao28 t137.length co28)) (fun _ h_ => h_.1)) (fun _ h_ => h_.1)) (fun _ h_ => h_.1))))) (Kd.R_lt (by (with_reducible repeat (first | apply zG | apply zH | apply zI)); exact (Kd.R_mono (Kd.R_mono (Kd.R_mono (zP (p := ⟨gb142, 1, none⟩) (zP (p := ⟨gb142, 0, none⟩) (zP (p := ⟨gb141, 1, none⟩) (zP (p := ⟨gb141, 0, none⟩) (zP (p := ⟨gb140, 1, none⟩) (zP (p := ⟨gb140, 0, none⟩) (Kd.R_types (Kd.R_types (Kd.R_types HO139.out BK140.out (by decide)) BK141.out (by decide)) BK142.out (by decide)) (fun _ hk => hk.1.1.2) (.int .i64 t128)) (fun _ hk => hk.1.1.2) (.slice Ao23 t129.length co23)) (fun _ hk => hk.1.2) (.int .i64 t132)) (fun _ hk => hk.1.2) (.slice Ao26 t133.length co26)) (fun _ hk => hk.2) (.int .i64 t136)) (fun _ hk => hk.2) (.slice Ao28 t137.length co28)) (fun _ h_ => h_.1)) (fun _ h_ => h_.1)) (fun _ h_ => h_.1))))) (below_size (by repeat (first | (with_reducible first | exact HB.out | apply zQ | apply zN | apply zO | refine zJ ?_ GE140.out | refine zJ ?_ GE141.out | refine zJ ?_ GE142.out) | exact HB.out)))); have n4_ := zS (zM (g := gb140) (o := .cells #[.int .i64 t128, .slice Ao23 t129.length co23] 38 (0, 0)) (by (with_reducible repeat (first | refine zD ?_ _ | refine zE ?_ | refine zF ?_ _)); refine blk_far ?_ NB140_142.out _; (with_reducible repeat (first | refine zD ?_ _ | refine zE ?_ | refine zF ?_ _)); refine blk_far ?_ NB140_142.out _; (with_reducible repeat (first | refine zD ?_ _ | refine zE ?_ | refine zF ?_ _)); refine blk_far ?_ NB140_141.out _; (with_reducible repeat (first | refine zD ?_ _ | refine zE ?_ | refine zF ?_ _)); refine blk_far ?_ NB140_141.out _; (with_reducible repeat (first | refine zD ?_ _ | refine zE ?_ | refine zF ?_ _)); refine blk_put (cs := #[.int .i64 t128, .slice none 0 0]) ?_ 1 _ rfl; (with_reducible repeat (first | refine zD ?_ _ | refine zE ?_ | refine zF ?_ _)); refine blk_put (cs := #[.int .i64 0, .slice none 0 0]) ?_ 0 _ rfl; (with_reducible repeat (first | refine zD ?_ _ | refine zE ?_ | refine zF ?_ _)); exact BK140.out) hb); have n5_ := zS (zM (g := gb141) (o := .cells #[.int .i64 t132, .slice Ao26 t133.length co26] 38 (0, 0)) (by (with_reducible repeat (first | refine zD ?_ _ | refine zE ?_ | refine zF ?_ _)); refine blk_far ?_ NB141_142.out _; (with_reducible repeat (first | refine zD ?_ _ | refine zE ?_ | refine zF ?_ _)); refine blk_far ?_ NB141_142.out _; (with_reducible repeat (first | refine zD ?_ _ | refine zE ?_ | refine zF ?_ _)); refine blk_put (cs := #[.int .i64 t132, .slice none 0 0]) ?_ 1 _ rfl; (with_reducible repeat (first | refine zD ?_ _ | refine zE ?_ | refine zF ?_ _)); refine blk_put (cs := #[.int .i64 0, .slice none 0 0]) ?_ 0 _ rfl; (with_reducible repeat (first | refine zD ?_ _ | refine zE ?_ | refine zF ?_ _)); refine blk_far ?_ NB141_140.out _; (with_reducible repeat (first | refine zD ?_ _ | refine zE ?_ | refine zF ?_ _)); refine blk_far ?_ NB141_140.out _; (with_reducible repeat (first | refine zD ?_ _ | refine zE ?_ | refine zF ?_ _)); exact BK141.out) hb); have n6_ := zS (zM (g := gb142) (o := .cells #[.int .i64 t136, .slice Ao28 t137.length co28] 38 (0, 0)) (by (with_reducible repeat (first | refine zD ?_ _ | refine zE ?_ | refine zF ?_ _)); refine blk_put (cs := #[.int .i64 t136, .slice none 0 0]) ?_ 1 _ rfl; (with_reducible repeat (first | refine zD ?_ _ | refine zE ?_ | refine zF ?_ _)); refine blk_put (cs := #[.int .i64 0, .slice none 0 0]) ?_ 0 _ rfl; (with_reducible repeat (first | refine zD ?_ _ | refine zE ?_ | refine zF ?_ _)); refine blk_far ?_ NB142_141.out _; (with_reducible repeat (first | refine zD ?_ _ | refine zE ?_ | refine zF ?_ _)); refine blk_far ?_ NB142_141.out _; (with_reducible repeat (first | refine zD ?_ _ | refine zE ?_ | refine zF ?_ _)); refine blk_far ?_ NB142_140.out _; (with_reducible repeat (first | refine zD ?_ _ | refine zE ?_ | refine zF ?_ _)); refine blk_far ?_ NB142_140.out _; (with_reducible repeat (first | refine zD ?_ _ | refine zE ?_ | refine zF ?_ _)); exact BK142.out) hb); have n7_ := zS (below_step (by repeat (first | (with_reducible first | exact HB.out | apply zQ | apply zN | apply zO | refine zJ ?_ GE140.out | refine zJ ?_ GE141.out | refine zJ ?_ GE142.out) | exact HB.out)) hb); clear HO131; clear HO135; clear HO139; clear BK140; clear BK141; clear BK142; clear HB; have HO131 := n0_; have HO135 := n1_; have HO139 := n2_; have HO146 := n3_; have BK140 := n4_; have BK141 := n5_; have BK142 := n6_; have HB := n7_; clear n0_ n1_ n2_ n3_ n4_ n5_ n6_ n7_; (try clear hb); (try clear hb2); (try clear hk); (try clear hi); (try clear ho0)) | ((with_reducible refine gate_callee (f := 24) rfl ?_); refine goesL_ (some 27) rfl rfl Tryd.func24 (by kernel_rfl) rfl #[.string a1] rfl (by (try simp only [List.map_toArray, List.map_cons, List.map_nil]); first | done | rfl | (simp only [List.length_drop, List.length_take]; rfl)) ?_; (with_reducible refine (quotes_Inside.calls a1 t147 t148 _ A10.out).mono ?_); rintro e w30 ⟨v149, rfl, ho0, hb⟩; refine ⟨_, rfl, ?_⟩; have n0_ := zS (Kd.R_elder' (by (with_reducible repeat (first | apply zG | apply zH | apply zI)); exact HO131.out) (Kd.R_base ho0) hb); have n1_ := zS (Kd.R_elder' (by (with_reducible repeat (first | apply zG | apply zH | apply zI)); exact HO135.out) (Kd.R_base ho0) hb); have n2_ := zS (Kd.R_elder' (by (with_reducible repeat (first | apply zG | apply zH | apply zI)); exact HO139.out) (Kd.R_base ho0) hb); have n3_ := zS (Kd.R_elder' (by (with_reducible repeat (first | apply zG | apply zH | apply zI)); exact HO146.out) (Kd.R_base ho0) hb); have n4_ := zS (Kd.R_lower (Kd.R_new' (Kd.R_new' (Kd.R_new' (Kd.R_new' ho0 (Kd.R_lt (by (with_reducible repeat (first | apply zG | apply zH | apply zI)); exact HO131.out))) (Kd.R_lt (by (with_reducible repeat (first | apply zG | apply zH | apply zI)); exact HO135.out))) (Kd.R_lt (by (with_reducible repeat (first | apply zG | apply zH | apply zI)); exact HO139.out))) (Kd.R_lt (by (with_reducible repeat (first | apply zG | apply zH | apply zI)); exact HO146.out))) (below_size (by repeat (first | (with_reducible first | exact HB.out | apply zQ | apply zN | apply zO | refine zJ ?_ GE140.out | refine zJ ?_ GE141.out | refine zJ ?_ GE142.out) | exact HB.out)))); have n5_ := zS (zM (g := gb140) (o := .cells #[.int .i64 t128, .slice Ao23 t129.length co23] 38 (0, 0)) (by (with_reducible repeat (first | refine zD ?_ _ | refine zE ?_ | refine zF ?_ _)); exact BK140.out) hb); have n6_ := zS (zM (g := gb141) (o := .cells #[.int .i64 t132, .slice Ao26 t133.length co26] 38 (0, 0)) (by (with_reducible repeat (first | refine zD ?_ _ | refine zE ?_ | refine zF ?_ _)); exact BK141.out) hb); have n7_ := zS (zM (g := gb142) (o := .cells #[.int .i64 t136, .slice Ao28 t137.length co28] 38 (0, 0)) (by (with_reducible repeat (first | refine zD ?_ _ | refine zE ?_ | refine zF ?_ _)); exact BK142.out) hb); have n8_ := zS (below_step (by repeat (first | (with_reducible first | exact HB.out | apply zQ | apply zN | apply zO | refine zJ ?_ GE140.out | refine zJ ?_ GE141.out | refine zJ ?_ GE142.out) | exact HB.out)) hb); clear HO131; clear HO135; clear HO139; clear HO146; clear BK140; clear BK141; clear BK142; clear HB; have HO131 := n0_; have HO135 := n1_; have HO139 := n2_; have HO146 := n3_; have HO150 := n4_; have BK140 := n5_; have BK141 := n6_; have BK142 := n7_; have HB := n8_; clear n0_ n1_ n2_ n3_ n4_ n5_ n6_ n7_ n8_; (try clear hb); (try clear hb2); (try clear hk); (try clear hi); (try clear ho0)) | ((with_reducible refine gate_callee (f := 24) rfl ?_); refine goesL_ (some 31) rfl rfl Tryd.func24 (by kernel_rfl) rfl #[.string (a0 ++ a1)] rfl (by (try simp only [List.map_toArray, List.map_cons, List.map_nil]); first | done | rfl | (simp only [List.length_drop, List.length_take]; rfl)) ?_; (with_reducible refine (quotes_Inside.calls (a0 ++ a1) t151 t152 _ A11.out).mono ?_); rintro e w31 ⟨v153, rfl, ho0, hb⟩; refine ⟨_, rfl, ?_⟩; have n0_ := zS (Kd.R_elder' (by (with_reducible repeat (first | apply zG | apply zH | apply zI)); exact HO131.out) (Kd.R_base ho0) hb); have n1_ := zS (Kd.R_elder' (by (with_reducible repeat (first | apply zG | apply zH | apply zI)); exact HO135.out) (Kd.R_base ho0) hb); have n2_ := zS (Kd.R_elder' (by (with_reducible repeat (first | apply zG | apply zH | apply zI)); exact HO139.out) (Kd.R_base ho0) hb); have n3_ := zS (Kd.R_elder' (by (with_reducible repeat (first | apply zG | apply zH | apply zI)); exact HO146.out) (Kd.R_base ho0) hb); have n4_ := zS (Kd.R_elder' (by (with_reducible repeat (first | apply zG | apply zH | apply zI)); exact HO150.out) (Kd.R_base ho0) hb); have n5_ := zS (Kd.R_lower (Kd.R_new' (Kd.R_new' (Kd.R_new' (Kd.R_new' (Kd.R_new' ho0 (Kd.R_lt (by (with_reducible repeat (first | apply zG | apply zH | apply zI)); exact HO131.out))) (Kd.R_lt (by (with_reducible repeat (first | apply zG | apply zH | apply zI)); exact HO135.out))) (Kd.R_lt (by (with_reducible repeat (first | apply zG | apply zH | apply zI)); exact HO139.out))) (Kd.R_lt (by (with_reducible repeat (first | apply zG | apply zH | apply zI)); exact HO146.out))) (Kd.R_lt (by (with_reducible repeat (first | apply zG | apply zH | apply zI)); exact HO150.out))) (below_size (by repeat (first | (with_reducible first | exact HB.out | apply zQ | apply zN | apply zO | refine zJ ?_ GE140.out | refine zJ ?_ GE141.out | refine zJ ?_ GE142.out) | exact HB.out)))); have n6_ := zS (zM (g := gb140) (o := .cells #[.int .i64 t128, .slice Ao23 t129.length co23] 38 (0, 0)) (by (with_reducible repeat (first | refine zD ?_ _ | refine zE ?_ | refine zF ?_ _)); exact BK140.out) hb); have n7_ := zS (zM (g := gb141) (o := .cells #[.int .i64 t132, .slice Ao26 t133.length co26] 38 (0, 0)) (by (with_reducible repeat (first | refine zD ?_ _ | refine zE ?_ | refine zF ?_ _)); exact BK141.out) hb); have n8_ := zS (zM (g := gb142) (o := .cells #[.int .i64 t136, .slice Ao28 t137.length co28] 38 (0, 0)) (by (with_reducible repeat (first | refine zD ?_ _ | refine zE ?_ | refine zF ?_ _)); exact BK142.out) hb); have n9_ := zS (below_step (by repeat (first | (with_reducible first | exact HB.out | apply zQ | apply zN | apply zO | refine zJ ?_ GE140.out | refine zJ ?_ GE141.out | refine zJ ?_ GE142.out) | exact HB.out)) hb); clear HO131; clear HO135; clear HO139; clear HO146; clear HO150; clear BK140; clear BK141; clear BK142; clear HB; have HO131 := n0_; have HO135 := n1_; have HO139 := n2_; have HO146 := n3_; have HO150 := n4_; have HO154 := n5_; have BK140 := n6_; have BK141 := n7_; have BK142 := n8_; have HB := n9_; clear n0_ n1_ n2_ n3_ n4_ n5_ n6_ n7_ n8_ n9_; (try clear hb); (try clear hb2); (try clear hk); (try clear hi); (try clear ho0)) | ((with_reducible refine gate_dst (N := 8) rfl ?_); (try (refine gate_guard (by rfl) ?_; dsimp only)); refine box_event ?hg (N := 8) ?hd (cs := #[.int .i64 0, .slice none 0 0]) (t := 38) ?hr ?_; (case hd => rfl); (case hg => rfl); (case hr => first | (go_simp; done) | (go_simp; rfl)); intro gb155 hg w32 hbox hb; have n0_ := zS (zK (by (with_reducible repeat (first | apply zG | apply zH | apply zI)); exact HO131.out) hb); have n1_ := zS (zK (by (with_reducible repeat (first | apply zG | apply zH | apply zI)); exact HO135.out) hb); have n2_ := zS (zK (by (with_reducible repeat (first | apply zG | apply zH | apply zI)); exact HO139.out) hb); have n3_ := zS (zK (by (with_reducible repeat (first | apply zG | apply zH | apply zI)); exact HO146.out) hb); have n4_ := zS (zK (by (with_reducible repeat (first | apply zG | apply zH | apply zI)); exact HO150.out) hb); have n5_ := zS (zK (by (with_reducible repeat (first | apply zG | apply zH | apply zI)); exact HO154.out) hb); have n6_ := zS (zM (g := gb140) (o := .cells #[.int .i64 t128, .slice Ao23 t129.length co23] 38 (0, 0)) (by (with_reducible repeat (first | refine zD ?_ _ | refine zE ?_ | refine zF ?_ _)); exact BK140.out) hb); have n7_ := zS (zM (g := gb141) (o := .cells #[.int .i64 t132, .slice Ao26 t133.length co26] 38 (0, 0)) (by (with_reducible repeat (first | refine zD ?_ _ | refine zE ?_ | refine zF ?_ _)); exact BK141.out) hb); have n8_ := zS (zM (g := gb142) (o := .cells #[.int .i64 t136, .slice Ao28 t137.length co28] 38 (0, 0)) (by (with_reducible repeat (first | refine zD ?_ _ | refine zE ?_ | refine zF ?_ _)); exact BK142.out) hb); have n9_ := zS (below_step (by repeat (first | (with_reducible first | exact HB.out | apply zQ | apply zN | apply zO | refine zJ ?_ GE140.out | refine zJ ?_ GE141.out | refine zJ ?_ GE142.out) | exact HB.out)) hb); have n10_ := zS (hbox); have n11_ := zS ((by rw [hg]; exact (below_size (by repeat (first | (with_reducible first | exact HB.out | apply zQ | apply zN | apply zO | refine zJ ?_ GE140.out | refine zJ ?_ GE141.out | refine zJ ?_ GE142.out) | exact HB.out))) : w.heap.size ≤ gb155)); have n12_ := zS ((by rw [hg]; exact (below_size (by repeat (first | (with_reducible first | exact HB.out | apply zQ | apply zN | apply zO | refine zJ ?_ GE140.out | refine zJ ?_ GE141.out | refine zJ ?_ GE142.out) | exact HB.out))) : w.heap.size ≤ gb155)); have n13_ := zS ((by rw [hg]; exact Nat.ne_of_lt (blk_lt (g := gb140) (o := .cells #[.int .i64 t128, .slice Ao23 t129.length co23] 38 (0, 0)) (by (with_reducible repeat (first | refine zD ?_ _ | refine zE ?_ | refine zF ?_ _)); exact BK140.out)) : gb140 ≠ gb155)); have n14_ := zS ((by rw [hg]; exact Nat.ne_of_gt (blk_lt (g := gb140) (o := .cells #[.int .i64 t128, .slice Ao23 t129.length co23] 38 (0, 0)) (by (with_reducible repeat (first | refine zD ?_ _ | refine zE ?_ | refine zF ?_ _)); exact BK140.out)) : gb155 ≠ gb140)); have n15_ := zS ((by rw [hg]; exact Nat.ne_of_lt (blk_lt (g := gb141) (o := .cells #[.int .i64 t132, .slice Ao26 t133.length co26] 38 (0, 0)) (by (with_reducible repeat (first | refine zD ?_ _ | refine zE ?_ | refine zF ?_ _)); exact BK141.out)) : gb141 ≠ gb155)); have n16_ := zS ((by rw [hg]; exact Nat.ne_of_gt (blk_lt (g := gb141) (o := .cells #[.int .i64 t132, .slice Ao26 t133.length co26] 38 (0, 0)) (by (with_reducible repeat (first | refine zD ?_ _ | refine zE ?_ | refine zF ?_ _)); exact BK141.out)) : gb155 ≠ gb141)); have n17_ := zS ((by rw [hg]; exact Nat.ne_of_lt (blk_lt (g := gb142) (o := .cells #[.int .i64 t136, .slice Ao28 t137.length co28] 38 (0, 0)) (by (with_reducible repeat (first | refine zD ?_ _ | refine zE ?_ | refine zF ?_ _)); exact BK142.out)) : gb142 ≠ gb155)); have n18_ := zS ((by rw [hg]; exact Nat.ne_of_gt (blk_lt (g := gb142) (o := .cells #[.int .i64 t136, .slice Ao28 t137.length co28] 38 (0, 0)) (by (with_reducible repeat (first | refine zD ?_ _ | refine zE ?_ | refine zF ?_ _)); exact BK142.out)) : gb155 ≠ gb142)); clear HO131; clear HO135; clear HO139; clear HO146; clear HO150; clear HO154; clear BK140; clear BK141; clear BK142; clear HB; have HO131 := n0_; have HO135 := n1_; have HO139 := n2_; have HO146 := n3_; have HO150 := n4_; have HO154 := n5_; have BK140 := n6_; have BK141 := n7_; have BK142 := n8_; have HB := n9_; have BK155 := n10_; have GW155 := n11_; have GE155 := n12_; have NB140_155 := n13_; have NB155_140 := n14_; have NB141_155 := n15_; have NB155_141 := n16_; have NB142_155 := n17_; have NB155_142 := n18_; clear n0_ n1_ n2_ n3_ n4_ n5_ n6_ n7_ n8_ n9_ n10_ n11_ n12_ n13_ n14_ n15_ n16_ n17_ n18_; clear hb hbox hg) | ((with_reducible refine gate_dst (N := 9) rfl ?_); (try (refine gate_guard (by rfl) ?_; dsimp only)); refine box_event ?hg (N := 9) ?hd (cs := #[.int .i64 0, .slice none 0 0]) (t := 38) ?hr ?_; (case hd => rfl); (case hg => rfl); (case hr => first | (go_simp; done) | (go_simp; rfl)); intro gb156 hg w33 hbox hb; have n0_ := zS (zK (by (with_reducible repeat (first | apply zG | apply zH | apply zI)); exact HO131.out) hb); have n1_ := zS (zK (by (with_reducible repeat (first | apply zG | apply zH | apply zI)); exact HO135.out) hb); have n2_ := zS (zK (by (with_reducible repeat (first | apply zG | apply zH | apply zI)); exact HO139.out) hb); have n3_ := zS (zK (by (with_reducible repeat (first | apply zG | apply zH | apply zI)); exact HO146.out) hb); have n4_ := zS (zK (by (with_reducible repeat (first | apply zG | apply zH | apply zI)); exact HO150.out) hb); have n5_ := zS (zK (by (with_reducible repeat (first | apply zG | apply zH | apply zI)); exact HO154.out) hb); have n6_ := zS (zM (g := gb140) (o := .cells #[.int .i64 t128, .slice Ao23 t129.length co23] 38 (0, 0)) (by (with_reducible repeat (first | refine zD ?_ _ | refine zE ?_ | refine zF ?_ _)); exact BK140.out) hb); have n7_ := zS (zM (g := gb141) (o := .cells #[.int .i64 t132, .slice Ao26 t133.length co26] 38 (0, 0)) (by (with_reducible repeat (first | refine zD ?_ _ | refine zE ?_ | refine zF ?_ _)); exact BK141.out) hb); have n8_ := zS (zM (g := gb142) (o := .cells #[.int .i64 t136, .slice Ao28 t137.length co28] 38 (0, 0)) (by (with_reducible repeat (first | refine zD ?_ _ | refine zE ?_ | refine zF ?_ _)); exact BK142.out) hb); have n9_ := zS (zM (g := gb155) (o := .cells #[.int .i64 0, .slice none 0 0] 38 (0, 0)) (by (with_reducible repeat (first | refine zD ?_ _ | refine zE ?_ | refine zF ?_ _)); exact BK155.out) hb); have n10_ := zS (below_step (by repeat (first | (with_reducible first | exact HB.out | apply zQ | apply zN | apply zO | refine zJ ?_ GE140.out | refine zJ ?_ GE141.out | refine zJ ?_ GE142.out | refine zJ ?_ GE155.out) | exact HB.out)) hb); have n11_ := zS (hbox); have n12_ := zS ((by rw [hg]; exact (below_size (by repeat (first | (with_reducible first | exact HB.out | apply zQ | apply zN | apply zO | refine zJ ?_ GE140.out | refine zJ ?_ GE141.out | refine zJ ?_ GE142.out | refine zJ ?_ GE155.out) | exact HB.out))) : w.heap.size ≤ gb156)); have n13_ := zS ((by rw [hg]; exact (below_size (by repeat (first | (with_reducible first | exact HB.out | apply zQ | apply zN | apply zO | refine zJ ?_ GE140.out | refine zJ ?_ GE141.out | refine zJ ?_ GE142.out | refine zJ ?_ GE155.out) | exact HB.out))) : w.heap.size ≤ gb156)); have n14_ := zS ((by rw [hg]; exact Nat.ne_of_lt (blk_lt (g := gb140) (o := .cells #[.int .i64 t128, .slice Ao23 t129.length co23] 38 (0, 0)) (by (with_reducible repeat (first | refine zD ?_ _ | refine zE ?_ | refine zF ?_ _)); exact BK140.out)) : gb140 ≠ gb156)); have n15_ := zS ((by rw [hg]; exact Nat.ne_of_gt (blk_lt (g := gb140) (o := .cells #[.int .i64 t128, .slice Ao23 t129.length co23] 38 (0, 0)) (by (with_reducible repeat (first | refine zD ?_ _ | refine zE ?_ | refine zF ?_ _)); exact BK140.out)) : gb156 ≠ gb140)); have n16_ := zS ((by rw [hg]; exact Nat.ne_of_lt (blk_lt (g := gb141) (o := .cells #[.int .i64 t132, .slice Ao26 t133.length co26] 38 (0, 0)) (by (with_reducible repeat (first | refine zD ?_ _ | refine zE ?_ | refine zF ?_ _)); exact BK141.out)) : gb141 ≠ gb156)); have n17_ := zS ((by rw [hg]; exact Nat.ne_of_gt (blk_lt (g := gb141) (o := .cells #[.int .i64 t132, .slice Ao26 t133.length co26] 38 (0, 0)) (by (with_reducible repeat (first | refine zD ?_ _ | refine zE ?_ | refine zF ?_ _)); exact BK141.out)) : gb156 ≠ gb141)); have n18_ := zS ((by rw [hg]; exact Nat.ne_of_lt (blk_lt (g := gb142) (o := .cells #[.int .i64 t136, .slice Ao28 t137.length co28] 38 (0, 0)) (by (with_reducible repeat (first | refine zD ?_ _ | refine zE ?_ | refine zF ?_ _)); exact BK142.out)) : gb142 ≠ gb156)); have n19_ := zS ((by rw [hg]; exact Nat.ne_of_gt (blk_lt (g := gb142) (o := .cells #[.int .i64 t136, .slice Ao28 t137.length co28] 38 (0, 0)) (by (with_reducible repeat (first | refine zD ?_ _ | refine zE ?_ | refine zF ?_ _)); exact BK142.out)) : gb156 ≠ gb142)); have n20_ := zS ((by rw [hg]; exact Nat.ne_of_lt (blk_lt (g := gb155) (o := .cells #[.int .i64 0, .slice none 0 0] 38 (0, 0)) (by (with_reducible repeat (first | refine zD ?_ _ | refine zE ?_ | refine zF ?_ _)); exact BK155.out)) : gb155 ≠ gb156)); have n21_ := zS ((by rw [hg]; exact Nat.ne_of_gt (blk_lt (g := gb155) (o := .cells #[.int .i64 0, .slice none 0 0] 38 (0, 0)) (by (with_reducible repeat (first | refine zD ?_ _ | refine zE ?_ | refine zF ?_ _)); exact BK155.out)) : gb156 ≠ gb155)); clear HO131; clear HO135; clear HO139; clear HO146; clear HO150; clear HO154; clear BK140; clear BK141; clear BK142; clear BK155; clear HB; have HO131 := n0_; have HO135 := n1_; have HO139 := n2_; have HO146 := n3_; have HO150 := n4_; have HO154 := n5_; have BK140 := n6_; have BK141 := n7_; have BK142 := n8_; have BK155 := n9_; have HB := n10_; have BK156 := n11_; have GW156 := n12_; have GE156 := n13_; have NB140_156 := n14_; have NB156_140 := n15_; have NB141_156 := n16_; have NB156_141 := n17_; have NB142_156 := n18_; have NB156_142 := n19_; have NB155_156 := n20_; have NB156_155 := n21_; clear n0_ n1_ n2_ n3_ n4_ n5_ n6_ n7_ n8_ n9_ n10_ n11_ n12_ n13_ n14_ n15_ n16_ n17_ n18_ n19_ n20_ n21_; clear hb hbox hg) | ((with_reducible refine gate_dst (N := 10) rfl ?_); (try (refine gate_guard (by rfl) ?_; dsimp only)); refine box_event ?hg (N := 10) ?hd (cs := #[.int .i64 0, .slice none 0 0]) (t := 38) ?hr ?_; (case hd => rfl); (case hg => rfl); (case hr => first | (go_simp; done) | (go_simp; rfl)); intro gb157 hg w34 hbox hb; have n0_ := zS (zK (by (with_reducible repeat (first | apply zG | apply zH | apply zI)); exact HO131.out) hb); have n1_ := zS (zK (by (with_reducible repeat (first | apply zG | apply zH | apply zI)); exact HO135.out) hb); have n2_ := zS (zK (by (with_reducible repeat (first | apply zG | apply zH | apply zI)); exact HO139.out) hb); have n3_ := zS (zK (by (with_reducible repeat (first | apply zG | apply zH | apply zI)); exact HO146.out) hb); have n4_ := zS (zK (by (with_reducible repeat (first | apply zG | apply zH | apply zI)); exact HO150.out) hb); have n5_ := zS (zK (by (with_reducible repeat (first | apply zG | apply zH | apply zI)); exact HO154.out) hb); have n6_ := zS (zM (g := gb140) (o := .cells #[.int .i64 t128, .slice Ao23 t129.length co23] 38 (0, 0)) (by (with_reducible repeat (first | refine zD ?_ _ | refine zE ?_ | refine zF ?_ _)); exact BK140.out) hb); have n7_ := zS (zM (g := gb141) (o := .cells #[.int .i64 t132, .slice Ao26 t133.length co26] 38 (0, 0)) (by (with_reducible repeat (first | refine zD ?_ _ | refine zE ?_ | refine zF ?_ _)); exact BK141.out) hb); have n8_ := zS (zM (g := gb142) (o := .cells #[.int .i64 t136, .slice Ao28 t137.length co28] 38 (0, 0)) (by (with_reducible repeat (first | refine zD ?_ _ | refine zE ?_ | refine zF ?_ _)); exact BK142.out) hb); have n9_ := zS (zM (g := gb155) (o := .cells #[.int .i64 0, .slice none 0 0] 38 (0, 0)) (by (with_reducible repeat (first | refine zD ?_ _ | refine zE ?_ | refine zF ?_ _)); exact BK155.out) hb); have n10_ := zS (zM (g := gb156) (o := .cells #[.int .i64 0, .slice none 0 0] 38 (0, 0)) (by (with_reducible repeat (first | refine zD ?_ _ | refine zE ?_ | refine zF ?_ _)); exact BK156.out) hb); have n11_ := zS (below_step (by repeat (first | (with_reducible first | exact HB.out | apply zQ | apply zN | apply zO | refine zJ ?_ GE140.out | refine zJ ?_ GE141.out | refine zJ ?_ GE142.out | refine zJ ?_ GE155.out | refine zJ ?_ GE156.out) | exact HB.out)) hb); have n12_ := zS (hbox); have n13_ := zS ((by rw [hg]; exact (below_size (by repeat (first | (with_reducible first | exact HB.out | apply zQ | apply zN | apply zO | refine zJ ?_ GE140.out | refine zJ ?_ GE141.out | refine zJ ?_ GE142.out | refine zJ ?_ GE155.out | refine zJ ?_ GE156.out) | exact HB.out))) : w.heap.size ≤ gb157)); have n14_ := zS ((by rw [hg]; exact (below_size (by repeat (first | (with_reducible first | exact HB.out | apply zQ | apply zN | apply zO | refine zJ ?_ GE140.out | refine zJ ?_ GE141.out | refine zJ ?_ GE142.out | refine zJ ?_ GE155.out | refine zJ ?_ GE156.out) | exact HB.out))) : w.heap.size ≤ gb157)); have n15_ := zS ((by rw [hg]; exact Nat.ne_of_lt (blk_lt (g := gb140) (o := .cells #[.int .i64 t128, .slice Ao23 t129.length co23] 38 (0, 0)) (by (with_reducible repeat (first | refine zD ?_ _ | refine zE ?_ | refine zF ?_ _)); exact BK140.out)) : gb140 ≠ gb157)); have n16_ := zS ((by rw [hg]; exact Nat.ne_of_gt (blk_lt (g := gb140) (o := .cells #[.int .i64 t128, .slice Ao23 t129.length co23] 38 (0, 0)) (by (with_reducible repeat (first | refine zD ?_ _ | refine zE ?_ | refine zF ?_ _)); exact BK140.out)) : gb157 ≠ gb140)); have n17_ := zS ((by rw [hg]; exact Nat.ne_of_lt (blk_lt (g := gb141) (o := .cells #[.int .i64 t132, .slice Ao26 t133.length co26] 38 (0, 0)) (by (with_reducible repeat (first | refine zD ?_ _ | refine zE ?_ | refine zF ?_ _)); exact BK141.out)) : gb141 ≠ gb157)); have n18_ := zS ((by rw [hg]; exact Nat.ne_of_gt (blk_lt (g := gb141) (o := .cells #[.int .i64 t132, .slice Ao26 t133.length co26] 38 (0, 0)) (by (with_reducible repeat (first | refine zD ?_ _ | refine zE ?_ | refine zF ?_ _)); exact BK141.out)) : gb157 ≠ gb141)); have n19_ := zS ((by rw [hg]; exact Nat.ne_of_lt (blk_lt (g := gb142) (o := .cells #[.int .i64 t136, .slice Ao28 t137.length co28] 38 (0, 0)) (by (with_reducible repeat (first | refine zD ?_ _ | refine zE ?_ | refine zF ?_ _)); exact BK142.out)) : gb142 ≠ gb157)); have n20_ := zS ((by rw [hg]; exact Nat.ne_of_gt (blk_lt (g := gb142) (o := .cells #[.int .i64 t136, .slice Ao28 t137.length co28] 38 (0, 0)) (by (with_reducible repeat (first | refine zD ?_ _ | refine zE ?_ | refine zF ?_ _)); exact BK142.out)) : gb157 ≠ gb142)); have n21_ := zS ((by rw [hg]; exact Nat.ne_of_lt (blk_lt (g := gb155) (o := .cells #[.int .i64 0, .slice none 0 0] 38 (0, 0)) (by (with_reducible repeat (first | refine zD ?_ _ | refine zE ?_ | refine zF ?_ _)); exact BK155.out)) : gb155 ≠ gb157)); have n22_ := zS ((by rw [hg]; exact Nat.ne_of_gt (blk_lt (g := gb155) (o := .cells #[.int .i64 0, .slice none 0 0] 38 (0, 0)) (by (with_reducible repeat (first | refine zD ?_ _ | refine zE ?_ | refine zF ?_ _)); exact BK155.out)) : gb157 ≠ gb155)); have n23_ := zS ((by rw [hg]; exact Nat.ne_of_lt (blk_lt (g := gb156) (o := .cells #[.int .i64 0, .slice none 0 0] 38 (0, 0)) (by (with_reducible repeat (first | refine zD ?_ _ | refine zE ?_ | refine zF ?_ _)); exact BK156.out)) : gb156 ≠ gb157)); have n24_ := zS ((by rw [hg]; exact Nat.ne_of_gt (blk_lt (g := gb156) (o := .cells #[.int .i64 0, .slice none 0 0] 38 (0, 0)) (by (with_reducible repeat (first | refine zD ?_ _ | refine zE ?_ | refine zF ?_ _)); exact BK156.out)) : gb157 ≠ gb156)); clear HO131; clear HO135; clear HO139; clear HO146; clear HO150; clear HO154; clear BK140; clear BK141; clear BK142; clear BK155; clear BK156; clear HB; have HO131 := n0_; have HO135 := n1_; have HO139 := n2_; have HO146 := n3_; have HO150 := n4_; have HO154 := n5_; have BK140 := n6_; have BK141 := n7_; have BK142 := n8_; have BK155 := n9_; have BK156 := n10_; have HB := n11_; have BK157 := n12_; have GW157 := n13_; have GE157 := n14_; have NB140_157 := n15_; have NB157_140 := n16_; have NB141_157 := n17_; have NB157_141 := n18_; have NB142_157 := n19_; have NB157_142 := n20_; have NB155_157 := n21_; have NB157_155 := n22_; have NB156_157 := n23_; have NB157_156 := n24_; clear n0_ n1_ n2_ n3_ n4_ n5_ n6_ n7_ n8_ n9_ n10_ n11_ n12_ n13_ n14_ n15_ n16_ n17_ n18_ n19_ n20_ n21_ n22_ n23_ n24_; clear hb hbox hg; have hnb35 := NB155_140.out; have hnc35 := NB140_155.out; have hnb36 := NB155_141.out; have hnc36 := NB141_155.out; have hnb37 := NB155_142.out; have hnc37 := NB142_155.out; have hnb38 := NB155_156.out; have hnc38 := NB156_155.out; have hnb39 := NB155_157.out; have hnc39 := NB157_155.out; have hcz40_0 : w34.cell? ⟨gb155, 0, none⟩ = some (.int .i64 0) := (zL BK155.out 0).trans rfl; have hcz40_1 : w34.cell? ⟨gb155, 1, none⟩ = some (.slice none 0 0) := (zL BK155.out 1).trans rfl; have hfz40_0 := blk_frozen BK155.out 0; have hfz40_1 := blk_frozen BK155.out 1; obtain ⟨Ao41, co41, eo41⟩ := Kd.R_slice HO146.out; subst eo41; have hnb42 := NB156_140.out; have hnc42 := NB140_156.out; have hnb43 := NB156_141.out; have hnc43 := NB141_156.out; have hnb44 := NB156_142.out; have hnc44 := NB142_156.out; have hnb45 := NB156_157.out; have hnc45 := NB157_156.out; have hcz46_0 : w34.cell? ⟨gb156, 0, none⟩ = some (.int .i64 0) := (zL BK156.out 0).trans rfl; have hcz46_1 : w34.cell? ⟨gb156, 1, none⟩ = some (.slice none 0 0) := (zL BK156.out 1).trans rfl; have hfz46_0 := blk_frozen BK156.out 0; have hfz46_1 := blk_frozen BK156.out 1; obtain ⟨Ao47, co47, eo47⟩ := Kd.R_slice HO150.out; subst eo47; have hnb48 := NB157_140.out; have hnc48 := NB140_157.out; have hnb49 := NB157_141.out; have hnc49 := NB141_157.out; have hnb50 := NB157_142.out; have hnc50 := NB142_157.out; have hcz51_0 : w34.cell? ⟨gb157, 0, none⟩ = some (.int .i64 0) := (zL BK157.out 0).trans rfl; have hcz51_1 : w34.cell? ⟨gb157, 1, none⟩ = some (.slice none 0 0) := (zL BK157.out 1).trans rfl; have hfz51_0 := blk_frozen BK157.out 0; have hfz51_1 := blk_frozen BK157.out 1; obtain ⟨Ao52, co52, eo52⟩ := Kd.R_slice HO154.out; subst eo52))
   (try simp only [Act.put, zA, zB, zC])
   go_cut [46] (fun v46 wc => ∃ (kq : Nat) (x46_11 : Bool), v46 = .bool x46_11 ∧ Aside0 (quarrylaw07_QuotesBehind.j0 kq a0 a1 x46_11 t128 t129 t132 t133 t136 t137 t143 t144 t147 t148 t151 t152 = some r) ∧ Aside0 (kq ≤ k) ∧ Aside0 (Kd.R (Kd.int .u64) 64 wc w.heap.size (fun k_ => some k_ ≠ ((.slice Ao26 t133.length co26) : Value).ownBlock ∧ some k_ ≠ ((.slice Ao28 t137.length co28) : Value).ownBlock ∧ some k_ ≠ ((.slice Ao41 t144.length co41) : Value).ownBlock ∧ some k_ ≠ ((.slice Ao47 t148.length co47) : Value).ownBlock ∧ some k_ ≠ ((.slice Ao52 t152.length co52) : Value).ownBlock) (.slice Ao23 t129.length co23) t129) ∧ Aside0 (Kd.R (Kd.int .u64) 64 wc w.heap.size (fun k_ => some k_ ≠ ((.slice Ao23 t129.length co23) : Value).ownBlock ∧ some k_ ≠ ((.slice Ao28 t137.length co28) : Value).ownBlock ∧ some k_ ≠ ((.slice Ao41 t144.length co41) : Value).ownBlock ∧ some k_ ≠ ((.slice Ao47 t148.length co47) : Value).ownBlock ∧ some k_ ≠ ((.slice Ao52 t152.length co52) : Value).ownBlock) (.slice Ao26 t133.length co26) t133) ∧ Aside0 (Kd.R (Kd.int .u64) 64 wc w.heap.size (fun k_ => some k_ ≠ ((.slice Ao23 t129.length co23) : Value).ownBlock ∧ some k_ ≠ ((.slice Ao26 t133.length co26) : Value).ownBlock ∧ some k_ ≠ ((.slice Ao41 t144.length co41) : Value).ownBlock ∧ some k_ ≠ ((.slice Ao47 t148.length co47) : Value).ownBlock ∧ some k_ ≠ ((.slice Ao52 t152.length co52) : Value).ownBlock) (.slice Ao28 t137.length co28) t137) ∧ Aside0 (Kd.R (Kd.int .u64) 64 wc w.heap.size (fun k_ => some k_ ≠ ((.slice Ao23 t129.length co23) : Value).ownBlock ∧ some k_ ≠ ((.slice Ao26 t133.length co26) : Value).ownBlock ∧ some k_ ≠ ((.slice Ao28 t137.length co28) : Value).ownBlock ∧ some k_ ≠ ((.slice Ao47 t148.length co47) : Value).ownBlock ∧ some k_ ≠ ((.slice Ao52 t152.length co52) : Value).ownBlock) (.slice Ao41 t144.length co41) t144) ∧ Aside0 (Kd.R (Kd.int .u64) 64 wc w.heap.size (fun k_ => some k_ ≠ ((.slice Ao23 t129.length co23) : Value).ownBlock ∧ some k_ ≠ ((.slice Ao26 t133.length co26) : Value).ownBlock ∧ some k_ ≠ ((.slice Ao28 t137.length co28) : Value).ownBlock ∧ some k_ ≠ ((.slice Ao41 t144.length co41) : Value).ownBlock ∧ some k_ ≠ ((.slice Ao52 t152.length co52) : Value).ownBlock) (.slice Ao47 t148.length co47) t148) ∧ Aside0 (Kd.R (Kd.int .u64) 64 wc w.heap.size (fun k_ => some k_ ≠ ((.slice Ao23 t129.length co23) : Value).ownBlock ∧ some k_ ≠ ((.slice Ao26 t133.length co26) : Value).ownBlock ∧ some k_ ≠ ((.slice Ao28 t137.length co28) : Value).ownBlock ∧ some k_ ≠ ((.slice Ao41 t144.length co41) : Value).ownBlock ∧ some k_ ≠ ((.slice Ao47 t148.length co47) : Value).ownBlock) (.slice Ao52 t152.length co52) t152) ∧ Aside0 (wc.heap[gb140]? = some (.cells #[.int .i64 t128, (.slice Ao23 t129.length co23)] 38 (0, 0))) ∧ Aside0 (wc.heap[gb141]? = some (.cells #[.int .i64 t132, (.slice Ao26 t133.length co26)] 38 (0, 0))) ∧ Aside0 (wc.heap[gb142]? = some (.cells #[.int .i64 t136, (.slice Ao28 t137.length co28)] 38 (0, 0))) ∧ Aside0 (wc.heap[gb155]? = some (.cells #[.int .i64 t143, (.slice Ao41 t144.length co41)] 38 (0, 0))) ∧ Aside0 (wc.heap[gb156]? = some (.cells #[.int .i64 t147, (.slice Ao47 t148.length co47)] 38 (0, 0))) ∧ Aside0 (wc.heap[gb157]? = some (.cells #[.int .i64 t151, (.slice Ao52 t152.length co52)] 38 (0, 0))) ∧ Aside0 (Below w.heap.size w wc))
   case first =>
    have H := HC12.out
    clear HC12
    by_cases c53 : t136 = (wrap64 ((a0.size : Int) + (a1.size : Int)))
    ·rw [if_pos c53] at H
     have c53b0 : (t136 == (wrap64 ((a0.size : Int) + (a1.size : Int)))) = true := beq_iff_eq.mpr c53
     have c53x : t136 = ((a0.size : Int) + (a1.size : Int)) := by rw [c53]; unfold wrap64; omega
     have c53y : (t136 == ((a0.size : Int) + (a1.size : Int))) = true := beq_iff_eq.mpr c53x
     have c53z : (t136 != ((a0.size : Int) + (a1.size : Int))) = false := bne_eq_false_iff_eq.mpr c53x
     clear c53x
     have c53b1 : (t136 != (wrap64 ((a0.size : Int) + (a1.size : Int)))) = false := bne_eq_false_iff_eq.mpr c53
     clear c53
     (first | rw [c53b0] | (simp only [i64_w, i32_w]; rw [c53b0]) | skip)
     have H' := zS H
     clear H
     have hnb54 := NB142_140.out
     have hnc54 := NB140_142.out
     have hnb55 := NB142_141.out
     have hnc55 := NB141_142.out
     have hnb56 := NB142_155.out
     have hnc56 := NB155_142.out
     have hnb57 := NB142_156.out
     have hnc57 := NB156_142.out
     have hnb58 := NB142_157.out
     have hnc58 := NB157_142.out
     have hcz59_0 : w34.cell? ⟨gb142, 0, none⟩ = some (.int .i64 t136) := (zL BK142.out 0).trans rfl
     have hcz59_1 : w34.cell? ⟨gb142, 1, none⟩ = some (.slice Ao28 t137.length co28) := (zL BK142.out 1).trans rfl
     have hfz59_0 := blk_frozen BK142.out 0
     have hfz59_1 := blk_frozen BK142.out 1
     have hnb60 := NB157_140.out
     have hnc60 := NB140_157.out
     have hnb61 := NB157_141.out
     have hnc61 := NB141_157.out
     have hnb62 := NB157_155.out
     have hnc62 := NB155_157.out
     have hnb63 := NB157_156.out
     have hnc63 := NB156_157.out
     have hcz64_0 : w34.cell? ⟨gb157, 0, none⟩ = some (.int .i64 0) := (zL BK157.out 0).trans rfl
     have hcz64_1 : w34.cell? ⟨gb157, 1, none⟩ = some (.slice none 0 0) := (zL BK157.out 1).trans rfl
     have hfz64_0 := blk_frozen BK157.out 0
     have hfz64_1 := blk_frozen BK157.out 1
     go_wp2
     go_meet
     case rel => exact ⟨_, ((t151 != t136)), (by first | rfl | (simp; done) | (simp [*]; done)), H', ⟨by first | omega | exact Nat.le_refl _⟩, ⟨by (with_reducible repeat (first | apply zG | apply zH | apply zI)); exact Kd.R_mono (zP (p := ⟨gb157, 1, none⟩) (zP (p := ⟨gb157, 0, none⟩) (zP (p := ⟨gb156, 1, none⟩) (zP (p := ⟨gb156, 0, none⟩) (zP (p := ⟨gb155, 1, none⟩) (zP (p := ⟨gb155, 0, none⟩) (Kd.R_types (Kd.R_types (Kd.R_types HO131.out BK155.out (by decide)) BK156.out (by decide)) BK157.out (by decide)) (fun _ hk => hk.1.1.2) (.int .i64 t143)) (fun _ hk => hk.1.1.2) (.slice Ao41 t144.length co41)) (fun _ hk => hk.1.2) (.int .i64 t147)) (fun _ hk => hk.1.2) (.slice Ao47 t148.length co47)) (fun _ hk => hk.2) (.int .i64 t151)) (fun _ hk => hk.2) (.slice Ao52 t152.length co52)) (fun _ hk => ⟨hk.1.1.1.1.1.1.1.2, ⟨hk.1.1.1.1.1.1.2, ⟨hk.1.1.1.1.1.2, ⟨hk.1.1.1.1.2, hk.1.1.1.2⟩⟩⟩⟩)⟩, ⟨by (with_reducible repeat (first | apply zG | apply zH | apply zI)); exact Kd.R_mono (zP (p := ⟨gb157, 1, none⟩) (zP (p := ⟨gb157, 0, none⟩) (zP (p := ⟨gb156, 1, none⟩) (zP (p := ⟨gb156, 0, none⟩) (zP (p := ⟨gb155, 1, none⟩) (zP (p := ⟨gb155, 0, none⟩) (Kd.R_types (Kd.R_types (Kd.R_types HO135.out BK155.out (by decide)) BK156.out (by decide)) BK157.out (by decide)) (fun _ hk => hk.1.1.2) (.int .i64 t143)) (fun _ hk => hk.1.1.2) (.slice Ao41 t144.length co41)) (fun _ hk => hk.1.2) (.int .i64 t147)) (fun _ hk => hk.1.2) (.slice Ao47 t148.length co47)) (fun _ hk => hk.2) (.int .i64 t151)) (fun _ hk => hk.2) (.slice Ao52 t152.length co52)) (fun _ hk => ⟨hk.1.1.1.1.1.1.1.2, ⟨hk.1.1.1.1.1.1.2, ⟨hk.1.1.1.1.1.2, ⟨hk.1.1.1.1.2, hk.1.1.1.2⟩⟩⟩⟩)⟩, ⟨by (with_reducible repeat (first | apply zG | apply zH | apply zI)); exact Kd.R_mono (zP (p := ⟨gb157, 1, none⟩) (zP (p := ⟨gb157, 0, none⟩) (zP (p := ⟨gb156, 1, none⟩) (zP (p := ⟨gb156, 0, none⟩) (zP (p := ⟨gb155, 1, none⟩) (zP (p := ⟨gb155, 0, none⟩) (Kd.R_types (Kd.R_types (Kd.R_types HO139.out BK155.out (by decide)) BK156.out (by decide)) BK157.out (by decide)) (fun _ hk => hk.1.1.2) (.int .i64 t143)) (fun _ hk => hk.1.1.2) (.slice Ao41 t144.length co41)) (fun _ hk => hk.1.2) (.int .i64 t147)) (fun _ hk => hk.1.2) (.slice Ao47 t148.length co47)) (fun _ hk => hk.2) (.int .i64 t151)) (fun _ hk => hk.2) (.slice Ao52 t152.length co52)) (fun _ hk => ⟨hk.1.1.1.1.1.1.1.2, ⟨hk.1.1.1.1.1.1.2, ⟨hk.1.1.1.1.1.2, ⟨hk.1.1.1.1.2, hk.1.1.1.2⟩⟩⟩⟩)⟩, ⟨by (with_reducible repeat (first | apply zG | apply zH | apply zI)); exact Kd.R_mono (zP (p := ⟨gb157, 1, none⟩) (zP (p := ⟨gb157, 0, none⟩) (zP (p := ⟨gb156, 1, none⟩) (zP (p := ⟨gb156, 0, none⟩) (zP (p := ⟨gb155, 1, none⟩) (zP (p := ⟨gb155, 0, none⟩) (Kd.R_types (Kd.R_types (Kd.R_types HO146.out BK155.out (by decide)) BK156.out (by decide)) BK157.out (by decide)) (fun _ hk => hk.1.1.2) (.int .i64 t143)) (fun _ hk => hk.1.1.2) (.slice Ao41 t144.length co41)) (fun _ hk => hk.1.2) (.int .i64 t147)) (fun _ hk => hk.1.2) (.slice Ao47 t148.length co47)) (fun _ hk => hk.2) (.int .i64 t151)) (fun _ hk => hk.2) (.slice Ao52 t152.length co52)) (fun _ hk => ⟨hk.1.1.1.1.1.1.1.2, ⟨hk.1.1.1.1.1.1.2, ⟨hk.1.1.1.1.1.2, ⟨hk.1.1.1.1.2, hk.1.1.1.2⟩⟩⟩⟩)⟩, ⟨by (with_reducible repeat (first | apply zG | apply zH | apply zI)); exact Kd.R_mono (zP (p := ⟨gb157, 1, none⟩) (zP (p := ⟨gb157, 0, none⟩) (zP (p := ⟨gb156, 1, none⟩) (zP (p := ⟨gb156, 0, none⟩) (zP (p := ⟨gb155, 1, none⟩) (zP (p := ⟨gb155, 0, none⟩) (Kd.R_types (Kd.R_types (Kd.R_types HO150.out BK155.out (by decide)) BK156.out (by decide)) BK157.out (by decide)) (fun _ hk => hk.1.1.2) (.int .i64 t143)) (fun _ hk => hk.1.1.2) (.slice Ao41 t144.length co41)) (fun _ hk => hk.1.2) (.int .i64 t147)) (fun _ hk => hk.1.2) (.slice Ao47 t148.length co47)) (fun _ hk => hk.2) (.int .i64 t151)) (fun _ hk => hk.2) (.slice Ao52 t152.length co52)) (fun _ hk => ⟨hk.1.1.1.1.1.1.1.2, ⟨hk.1.1.1.1.1.1.2, ⟨hk.1.1.1.1.1.2, ⟨hk.1.1.1.1.2, hk.1.1.1.2⟩⟩⟩⟩)⟩, ⟨by (with_reducible repeat (first | apply zG | apply zH | apply zI)); exact Kd.R_mono (zP (p := ⟨gb157, 1, none⟩) (zP (p := ⟨gb157, 0, none⟩) (zP (p := ⟨gb156, 1, none⟩) (zP (p := ⟨gb156, 0, none⟩) (zP (p := ⟨gb155, 1, none⟩) (zP (p := ⟨gb155, 0, none⟩) (Kd.R_types (Kd.R_types (Kd.R_types HO154.out BK155.out (by decide)) BK156.out (by decide)) BK157.out (by decide)) (fun _ hk => hk.1.1.2) (.int .i64 t143)) (fun _ hk => hk.1.1.2) (.slice Ao41 t144.length co41)) (fun _ hk => hk.1.2) (.int .i64 t147)) (fun _ hk => hk.1.2) (.slice Ao47 t148.length co47)) (fun _ hk => hk.2) (.int .i64 t151)) (fun _ hk => hk.2) (.slice Ao52 t152.length co52)) (fun _ hk => ⟨hk.1.1.1.1.1.1.1.2, ⟨hk.1.1.1.1.1.1.2, ⟨hk.1.1.1.1.1.2, ⟨hk.1.1.1.1.2, hk.1.1.1.2⟩⟩⟩⟩)⟩, ⟨by (with_reducible repeat (first | refine zD ?_ _ | refine zE ?_ | refine zF ?_ _)); refine blk_far ?_ NB140_157.out _; (with_reducible repeat (first | refine zD ?_ _ | refine zE ?_ | refine zF ?_ _)); refine blk_far ?_ NB140_157.out _; (with_reducible repeat (first | refine zD ?_ _ | refine zE ?_ | refine zF ?_ _)); refine blk_far ?_ NB140_156.out _; (with_reducible repeat (first | refine zD ?_ _ | refine zE ?_ | refine zF ?_ _)); refine blk_far ?_ NB140_156.out _; (with_reducible repeat (first | refine zD ?_ _ | refine zE ?_ | refine zF ?_ _)); refine blk_far ?_ NB140_155.out _; (with_reducible repeat (first | refine zD ?_ _ | refine zE ?_ | refine zF ?_ _)); refine blk_far ?_ NB140_155.out _; (with_reducible repeat (first | refine zD ?_ _ | refine zE ?_ | refine zF ?_ _)); exact BK140.out⟩, ⟨by (with_reducible repeat (first | refine zD ?_ _ | refine zE ?_ | refine zF ?_ _)); refine blk_far ?_ NB141_157.out _; (with_reducible repeat (first | refine zD ?_ _ | refine zE ?_ | refine zF ?_ _)); refine blk_far ?_ NB141_157.out _; (with_reducible repeat (first | refine zD ?_ _ | refine zE ?_ | refine zF ?_ _)); refine blk_far ?_ NB141_156.out _; (with_reducible repeat (first | refine zD ?_ _ | refine zE ?_ | refine zF ?_ _)); refine blk_far ?_ NB141_156.out _; (with_reducible repeat (first | refine zD ?_ _ | refine zE ?_ | refine zF ?_ _)); refine blk_far ?_ NB141_155.out _; (with_reducible repeat (first | refine zD ?_ _ | refine zE ?_ | refine zF ?_ _)); refine blk_far ?_ NB141_155.out _; (with_reducible repeat (first | refine zD ?_ _ | refine zE ?_ | refine zF ?_ _)); exact BK141.out⟩, ⟨by (with_reducible repeat (first | refine zD ?_ _ | refine zE ?_ | refine zF ?_ _)); refine blk_far ?_ NB142_157.out _; (with_reducible repeat (first | refine zD ?_ _ | refine zE ?_ | refine zF ?_ _)); refine blk_far ?_ NB142_157.out _; (with_reducible repeat (first | refine zD ?_ _ | refine zE ?_ | refine zF ?_ _)); refine blk_far ?_ NB142_156.out _; (with_reducible repeat (first | refine zD ?_ _ | refine zE ?_ | refine zF ?_ _)); refine blk_far ?_ NB142_156.out _; (with_reducible repeat (first | refine zD ?_ _ | refine zE ?_ | refine zF ?_ _)); refine blk_far ?_ NB142_155.out _; (with_reducible repeat (first | refine zD ?_ _ | refine zE ?_ | refine zF ?_ _)); refine blk_far ?_ NB142_155.out _; (with_reducible repeat (first | refine zD ?_ _ | refine zE ?_ | refine zF ?_ _)); exact BK142.out⟩, ⟨by (with_reducible repeat (first | refine zD ?_ _ | refine zE ?_ | refine zF ?_ _)); refine blk_far ?_ NB155_157.out _; (with_reducible repeat (first | refine zD ?_ _ | refine zE ?_ | refine zF ?_ _)); refine blk_far ?_ NB155_157.out _; (with_reducible repeat (first | refine zD ?_ _ | refine zE ?_ | refine zF ?_ _)); refine blk_far ?_ NB155_156.out _; (with_reducible repeat (first | refine zD ?_ _ | refine zE ?_ | refine zF ?_ _)); refine blk_far ?_ NB155_156.out _; (with_reducible repeat (first | refine zD ?_ _ | refine zE ?_ | refine zF ?_ _)); refine blk_put (cs := #[.int .i64 t143, .slice none 0 0]) ?_ 1 _ rfl; (with_reducible repeat (first | refine zD ?_ _ | refine zE ?_ | refine zF ?_ _)); refine blk_put (cs := #[.int .i64 0, .slice none 0 0]) ?_ 0 _ rfl; (with_reducible repeat (first | refine zD ?_ _ | refine zE ?_ | refine zF ?_ _)); exact BK155.out⟩, ⟨by (with_reducible repeat (first | refine zD ?_ _ | refine zE ?_ | refine zF ?_ _)); refine blk_far ?_ NB156_157.out _; (with_reducible repeat (first | refine zD ?_ _ | refine zE ?_ | refine zF ?_ _)); refine blk_far ?_ NB156_157.out _; (with_reducible repeat (first | refine zD ?_ _ | refine zE ?_ | refine zF ?_ _)); refine blk_put (cs := #[.int .i64 t147, .slice none 0 0]) ?_ 1 _ rfl; (with_reducible repeat (first | refine zD ?_ _ | refine zE ?_ | refine zF ?_ _)); refine blk_put (cs := #[.int .i64 0, .slice none 0 0]) ?_ 0 _ rfl; (with_reducible repeat (first | refine zD ?_ _ | refine zE ?_ | refine zF ?_ _)); refine blk_far ?_ NB156_155.out _; (with_reducible repeat (first | refine zD ?_ _ | refine zE ?_ | refine zF ?_ _)); refine blk_far ?_ NB156_155.out _; (with_reducible repeat (first | refine zD ?_ _ | refine zE ?_ | refine zF ?_ _)); exact BK156.out⟩, ⟨by (with_reducible repeat (first | refine zD ?_ _ | refine zE ?_ | refine zF ?_ _)); refine blk_put (cs := #[.int .i64 t151, .slice none 0 0]) ?_ 1 _ rfl; (with_reducible repeat (first | refine zD ?_ _ | refine zE ?_ | refine zF ?_ _)); refine blk_put (cs := #[.int .i64 0, .slice none 0 0]) ?_ 0 _ rfl; (with_reducible repeat (first | refine zD ?_ _ | refine zE ?_ | refine zF ?_ _)); refine blk_far ?_ NB157_156.out _; (with_reducible repeat (first | refine zD ?_ _ | refine zE ?_ | refine zF ?_ _)); refine blk_far ?_ NB157_156.out _; (with_reducible repeat (first | refine zD ?_ _ | refine zE ?_ | refine zF ?_ _)); refine blk_far ?_ NB157_155.out _; (with_reducible repeat (first | refine zD ?_ _ | refine zE ?_ | refine zF ?_ _)); refine blk_far ?_ NB157_155.out _; (with_reducible repeat (first | refine zD ?_ _ | refine zE ?_ | refine zF ?_ _)); exact BK157.out⟩, ⟨by repeat (first | (with_reducible first | exact HB.out | apply zQ | apply zN | apply zO | refine zJ ?_ GE140.out | refine zJ ?_ GE141.out | refine zJ ?_ GE142.out | refine zJ ?_ GE155.out | refine zJ ?_ GE156.out | refine zJ ?_ GE157.out) | exact HB.out)⟩⟩
    ·rw [if_neg c53] at H
     have c53b0 : (t136 == (wrap64 ((a0.size : Int) + (a1.size : Int)))) = false := beq_eq_false_iff_ne.mpr c53
     have c53x : ¬ t136 = ((a0.size : Int) + (a1.size : Int)) := fun e => c53 (by rw [e]; unfold wrap64; omega)
     have c53y : (t136 == ((a0.size : Int) + (a1.size : Int))) = false := beq_eq_false_iff_ne.mpr c53x
     have c53z : (t136 != ((a0.size : Int) + (a1.size : Int))) = true := bne_iff_ne.mpr c53x
     clear c53x
     have c53b1 : (t136 != (wrap64 ((a0.size : Int) + (a1.size : Int)))) = true := bne_iff_ne.mpr c53
     (first | rw [c53b0] | (simp only [i64_w, i32_w]; rw [c53b0]) | skip)
     have H' := zS H
     clear H
     have hnb65 := NB142_140.out
     have hnc65 := NB140_142.out
     have hnb66 := NB142_141.out
     have hnc66 := NB141_142.out
     have hnb67 := NB142_155.out
     have hnc67 := NB155_142.out
     have hnb68 := NB142_156.out
     have hnc68 := NB156_142.out
     have hnb69 := NB142_157.out
     have hnc69 := NB157_142.out
     have hcz70_0 : w34.cell? ⟨gb142, 0, none⟩ = some (.int .i64 t136) := (zL BK142.out 0).trans rfl
     have hcz70_1 : w34.cell? ⟨gb142, 1, none⟩ = some (.slice Ao28 t137.length co28) := (zL BK142.out 1).trans rfl
     have hfz70_0 := blk_frozen BK142.out 0
     have hfz70_1 := blk_frozen BK142.out 1
     go_wp2
     go_meet
     case rel => exact ⟨_, (true), (by first | rfl | (simp; done) | (simp [*]; done)), H', ⟨by first | omega | exact Nat.le_refl _⟩, ⟨by (with_reducible repeat (first | apply zG | apply zH | apply zI)); exact Kd.R_mono (zP (p := ⟨gb157, 1, none⟩) (zP (p := ⟨gb157, 0, none⟩) (zP (p := ⟨gb156, 1, none⟩) (zP (p := ⟨gb156, 0, none⟩) (zP (p := ⟨gb155, 1, none⟩) (zP (p := ⟨gb155, 0, none⟩) (Kd.R_types (Kd.R_types (Kd.R_types HO131.out BK155.out (by decide)) BK156.out (by decide)) BK157.out (by decide)) (fun _ hk => hk.1.1.2) (.int .i64 t143)) (fun _ hk => hk.1.1.2) (.slice Ao41 t144.length co41)) (fun _ hk => hk.1.2) (.int .i64 t147)) (fun _ hk => hk.1.2) (.slice Ao47 t148.length co47)) (fun _ hk => hk.2) (.int .i64 t151)) (fun _ hk => hk.2) (.slice Ao52 t152.length co52)) (fun _ hk => ⟨hk.1.1.1.1.1.1.1.2, ⟨hk.1.1.1.1.1.1.2, ⟨hk.1.1.1.1.1.2, ⟨hk.1.1.1.1.2, hk.1.1.1.2⟩⟩⟩⟩)⟩, ⟨by (with_reducible repeat (first | apply zG | apply zH | apply zI)); exact Kd.R_mono (zP (p := ⟨gb157, 1, none⟩) (zP (p := ⟨gb157, 0, none⟩) (zP (p := ⟨gb156, 1, none⟩) (zP (p := ⟨gb156, 0, none⟩) (zP (p := ⟨gb155, 1, none⟩) (zP (p := ⟨gb155, 0, none⟩) (Kd.R_types (Kd.R_types (Kd.R_types HO135.out BK155.out (by decide)) BK156.out (by decide)) BK157.out (by decide)) (fun _ hk => hk.1.1.2) (.int .i64 t143)) (fun _ hk => hk.1.1.2) (.slice Ao41 t144.length co41)) (fun _ hk => hk.1.2) (.int .i64 t147)) (fun _ hk => hk.1.2) (.slice Ao47 t148.length co47)) (fun _ hk => hk.2) (.int .i64 t151)) (fun _ hk => hk.2) (.slice Ao52 t152.length co52)) (fun _ hk => ⟨hk.1.1.1.1.1.1.1.2, ⟨hk.1.1.1.1.1.1.2, ⟨hk.1.1.1.1.1.2, ⟨hk.1.1.1.1.2, hk.1.1.1.2⟩⟩⟩⟩)⟩, ⟨by (with_reducible repeat (first | apply zG | apply zH | apply zI)); exact Kd.R_mono (zP (p := ⟨gb157, 1, none⟩) (zP (p := ⟨gb157, 0, none⟩) (zP (p := ⟨gb156, 1, none⟩) (zP (p := ⟨gb156, 0, none⟩) (zP (p := ⟨gb155, 1, none⟩) (zP (p := ⟨gb155, 0, none⟩) (Kd.R_types (Kd.R_types (Kd.R_types HO139.out BK155.out (by decide)) BK156.out (by decide)) BK157.out (by decide)) (fun _ hk => hk.1.1.2) (.int .i64 t143)) (fun _ hk => hk.1.1.2) (.slice Ao41 t144.length co41)) (fun _ hk => hk.1.2) (.int .i64 t147)) (fun _ hk => hk.1.2) (.slice Ao47 t148.length co47)) (fun _ hk => hk.2) (.int .i64 t151)) (fun _ hk => hk.2) (.slice Ao52 t152.length co52)) (fun _ hk => ⟨hk.1.1.1.1.1.1.1.2, ⟨hk.1.1.1.1.1.1.2, ⟨hk.1.1.1.1.1.2, ⟨hk.1.1.1.1.2, hk.1.1.1.2⟩⟩⟩⟩)⟩, ⟨by (with_reducible repeat (first | apply zG | apply zH | apply zI)); exact Kd.R_mono (zP (p := ⟨gb157, 1, none⟩) (zP (p := ⟨gb157, 0, none⟩) (zP (p := ⟨gb156, 1, none⟩) (zP (p := ⟨gb156, 0, none⟩) (zP (p := ⟨gb155, 1, none⟩) (zP (p := ⟨gb155, 0, none⟩) (Kd.R_types (Kd.R_types (Kd.R_types HO146.out BK155.out (by decide)) BK156.out (by decide)) BK157.out (by decide)) (fun _ hk => hk.1.1.2) (.int .i64 t143)) (fun _ hk => hk.1.1.2) (.slice Ao41 t144.length co41)) (fun _ hk => hk.1.2) (.int .i64 t147)) (fun _ hk => hk.1.2) (.slice Ao47 t148.length co47)) (fun _ hk => hk.2) (.int .i64 t151)) (fun _ hk => hk.2) (.slice Ao52 t152.length co52)) (fun _ hk => ⟨hk.1.1.1.1.1.1.1.2, ⟨hk.1.1.1.1.1.1.2, ⟨hk.1.1.1.1.1.2, ⟨hk.1.1.1.1.2, hk.1.1.1.2⟩⟩⟩⟩)⟩, ⟨by (with_reducible repeat (first | apply zG | apply zH | apply zI)); exact Kd.R_mono (zP (p := ⟨gb157, 1, none⟩) (zP (p := ⟨gb157, 0, none⟩) (zP (p := ⟨gb156, 1, none⟩) (zP (p := ⟨gb156, 0, none⟩) (zP (p := ⟨gb155, 1, none⟩) (zP (p := ⟨gb155, 0, none⟩) (Kd.R_types (Kd.R_types (Kd.R_types HO150.out BK155.out (by decide)) BK156.out (by decide)) BK157.out (by decide)) (fun _ hk => hk.1.1.2) (.int .i64 t143)) (fun _ hk => hk.1.1.2) (.slice Ao41 t144.length co41)) (fun _ hk => hk.1.2) (.int .i64 t147)) (fun _ hk => hk.1.2) (.slice Ao47 t148.length co47)) (fun _ hk => hk.2) (.int .i64 t151)) (fun _ hk => hk.2) (.slice Ao52 t152.length co52)) (fun _ hk => ⟨hk.1.1.1.1.1.1.1.2, ⟨hk.1.1.1.1.1.1.2, ⟨hk.1.1.1.1.1.2, ⟨hk.1.1.1.1.2, hk.1.1.1.2⟩⟩⟩⟩)⟩, ⟨by (with_reducible repeat (first | apply zG | apply zH | apply zI)); exact Kd.R_mono (zP (p := ⟨gb157, 1, none⟩) (zP (p := ⟨gb157, 0, none⟩) (zP (p := ⟨gb156, 1, none⟩) (zP (p := ⟨gb156, 0, none⟩) (zP (p := ⟨gb155, 1, none⟩) (zP (p := ⟨gb155, 0, none⟩) (Kd.R_types (Kd.R_types (Kd.R_types HO154.out BK155.out (by decide)) BK156.out (by decide)) BK157.out (by decide)) (fun _ hk => hk.1.1.2) (.int .i64 t143)) (fun _ hk => hk.1.1.2) (.slice Ao41 t144.length co41)) (fun _ hk => hk.1.2) (.int .i64 t147)) (fun _ hk => hk.1.2) (.slice Ao47 t148.length co47)) (fun _ hk => hk.2) (.int .i64 t151)) (fun _ hk => hk.2) (.slice Ao52 t152.length co52)) (fun _ hk => ⟨hk.1.1.1.1.1.1.1.2, ⟨hk.1.1.1.1.1.1.2, ⟨hk.1.1.1.1.1.2, ⟨hk.1.1.1.1.2, hk.1.1.1.2⟩⟩⟩⟩)⟩, ⟨by (with_reducible repeat (first | refine zD ?_ _ | refine zE ?_ | refine zF ?_ _)); refine blk_far ?_ NB140_157.out _; (with_reducible repeat (first | refine zD ?_ _ | refine zE ?_ | refine zF ?_ _)); refine blk_far ?_ NB140_157.out _; (with_reducible repeat (first | refine zD ?_ _ | refine zE ?_ | refine zF ?_ _)); refine blk_far ?_ NB140_156.out _; (with_reducible repeat (first | refine zD ?_ _ | refine zE ?_ | refine zF ?_ _)); refine blk_far ?_ NB140_156.out _; (with_reducible repeat (first | refine zD ?_ _ | refine zE ?_ | refine zF ?_ _)); refine blk_far ?_ NB140_155.out _; (with_reducible repeat (first | refine zD ?_ _ | refine zE ?_ | refine zF ?_ _)); refine blk_far ?_ NB140_155.out _; (with_reducible repeat (first | refine zD ?_ _ | refine zE ?_ | refine zF ?_ _)); exact BK140.out⟩, ⟨by (with_reducible repeat (first | refine zD ?_ _ | refine zE ?_ | refine zF ?_ _)); refine blk_far ?_ NB141_157.out _; (with_reducible repeat (first | refine zD ?_ _ | refine zE ?_ | refine zF ?_ _)); refine blk_far ?_ NB141_157.out _; (with_reducible repeat (first | refine zD ?_ _ | refine zE ?_ | refine zF ?_ _)); refine blk_far ?_ NB141_156.out _; (with_reducible repeat (first | refine zD ?_ _ | refine zE ?_ | refine zF ?_ _)); refine blk_far ?_ NB141_156.out _; (with_reducible repeat (first | refine zD ?_ _ | refine zE ?_ | refine zF ?_ _)); refine blk_far ?_ NB141_155.out _; (with_reducible repeat (first | refine zD ?_ _ | refine zE ?_ | refine zF ?_ _)); refine blk_far ?_ NB141_155.out _; (with_reducible repeat (first | refine zD ?_ _ | refine zE ?_ | refine zF ?_ _)); exact BK141.out⟩, ⟨by (with_reducible repeat (first | refine zD ?_ _ | refine zE ?_ | refine zF ?_ _)); refine blk_far ?_ NB142_157.out _; (with_reducible repeat (first | refine zD ?_ _ | refine zE ?_ | refine zF ?_ _)); refine blk_far ?_ NB142_157.out _; (with_reducible repeat (first | refine zD ?_ _ | refine zE ?_ | refine zF ?_ _)); refine blk_far ?_ NB142_156.out _; (with_reducible repeat (first | refine zD ?_ _ | refine zE ?_ | refine zF ?_ _)); refine blk_far ?_ NB142_156.out _; (with_reducible repeat (first | refine zD ?_ _ | refine zE ?_ | refine zF ?_ _)); refine blk_far ?_ NB142_155.out _; (with_reducible repeat (first | refine zD ?_ _ | refine zE ?_ | refine zF ?_ _)); refine blk_far ?_ NB142_155.out _; (with_reducible repeat (first | refine zD ?_ _ | refine zE ?_ | refine zF ?_ _)); exact BK142.out⟩, ⟨by (with_reducible repeat (first | refine zD ?_ _ | refine zE ?_ | refine zF ?_ _)); refine blk_far ?_ NB155_157.out _; (with_reducible repeat (first | refine zD ?_ _ | refine zE ?_ | refine zF ?_ _)); refine blk_far ?_ NB155_157.out _; (with_reducible repeat (first | refine zD ?_ _ | refine zE ?_ | refine zF ?_ _)); refine blk_far ?_ NB155_156.out _; (with_reducible repeat (first | refine zD ?_ _ | refine zE ?_ | refine zF ?_ _)); refine blk_far ?_ NB155_156.out _; (with_reducible repeat (first | refine zD ?_ _ | refine zE ?_ | refine zF ?_ _)); refine blk_put (cs := #[.int .i64 t143, .slice none 0 0]) ?_ 1 _ rfl; (with_reducible repeat (first | refine zD ?_ _ | refine zE ?_ | refine zF ?_ _)); refine blk_put (cs := #[.int .i64 0, .slice none 0 0]) ?_ 0 _ rfl; (with_reducible repeat (first | refine zD ?_ _ | refine zE ?_ | refine zF ?_ _)); exact BK155.out⟩, ⟨by (with_reducible repeat (first | refine zD ?_ _ | refine zE ?_ | refine zF ?_ _)); refine blk_far ?_ NB156_157.out _; (with_reducible repeat (first | refine zD ?_ _ | refine zE ?_ | refine zF ?_ _)); refine blk_far ?_ NB156_157.out _; (with_reducible repeat (first | refine zD ?_ _ | refine zE ?_ | refine zF ?_ _)); refine blk_put (cs := #[.int .i64 t147, .slice none 0 0]) ?_ 1 _ rfl; (with_reducible repeat (first | refine zD ?_ _ | refine zE ?_ | refine zF ?_ _)); refine blk_put (cs := #[.int .i64 0, .slice none 0 0]) ?_ 0 _ rfl; (with_reducible repeat (first | refine zD ?_ _ | refine zE ?_ | refine zF ?_ _)); refine blk_far ?_ NB156_155.out _; (with_reducible repeat (first | refine zD ?_ _ | refine zE ?_ | refine zF ?_ _)); refine blk_far ?_ NB156_155.out _; (with_reducible repeat (first | refine zD ?_ _ | refine zE ?_ | refine zF ?_ _)); exact BK156.out⟩, ⟨by (with_reducible repeat (first | refine zD ?_ _ | refine zE ?_ | refine zF ?_ _)); refine blk_put (cs := #[.int .i64 t151, .slice none 0 0]) ?_ 1 _ rfl; (with_reducible repeat (first | refine zD ?_ _ | refine zE ?_ | refine zF ?_ _)); refine blk_put (cs := #[.int .i64 0, .slice none 0 0]) ?_ 0 _ rfl; (with_reducible repeat (first | refine zD ?_ _ | refine zE ?_ | refine zF ?_ _)); refine blk_far ?_ NB157_156.out _; (with_reducible repeat (first | refine zD ?_ _ | refine zE ?_ | refine zF ?_ _)); refine blk_far ?_ NB157_156.out _; (with_reducible repeat (first | refine zD ?_ _ | refine zE ?_ | refine zF ?_ _)); refine blk_far ?_ NB157_155.out _; (with_reducible repeat (first | refine zD ?_ _ | refine zE ?_ | refine zF ?_ _)); refine blk_far ?_ NB157_155.out _; (with_reducible repeat (first | refine zD ?_ _ | refine zE ?_ | refine zF ?_ _)); exact BK157.out⟩, ⟨by repeat (first | (with_reducible first | exact HB.out | apply zQ | apply zN | apply zO | refine zJ ?_ GE140.out | refine zJ ?_ GE141.out | refine zJ ?_ GE142.out | refine zJ ?_ GE155.out | refine zJ ?_ GE156.out | refine zJ ?_ GE157.out) | exact HB.out)⟩⟩
   case rest =>
    clear HC12
    try clear c1
    try clear c2
    try clear p2
    try clear c3
    try clear c4
    try clear c5
    try clear c6
    try clear p6
    try clear c7
    try clear c7b0
    try clear c7b1
    try clear c7b2
    try clear c10
    try clear c20
    try clear c21
    try clear c22
    try clear c24
    try clear c28
    try clear c35
    try clear c36
    try clear c37
    try clear c38
    try clear c39
    try clear c42
    try clear c43
    try clear c44
    try clear c45
    try clear c48
    try clear c49
    try clear c50
    try clear c53
    try clear c53b0
    try clear c53b1
    try clear c54
    try clear c55
    try clear c56
    try clear c57
    try clear c58
    try clear c60
    try clear c61
    try clear c62
    try clear c63
    try clear p64
    try clear c65
    try clear c66
    try clear c67
    try clear c68
    try clear c69
    try clear hcz22_0
    try clear hcz22_1
    try clear hcz25_0
    try clear hcz25_1
    try clear hcz27_0
    try clear hcz27_1
    try clear hcz40_0
    try clear hcz40_1
    try clear hcz46_0
    try clear hcz46_1
    try clear hcz51_0
    try clear hcz51_1
    try clear hcz59_0
    try clear hcz59_1
    try clear hcz64_0
    try clear hcz64_1
    try clear hcz70_0
    try clear hcz70_1
    try clear hfz22_0
    try clear hfz22_1
    try clear hfz25_0
    try clear hfz25_1
    try clear hfz27_0
    try clear hfz27_1
    try clear hfz40_0
    try clear hfz40_1
    try clear hfz46_0
    try clear hfz46_1
    try clear hfz51_0
    try clear hfz51_1
    try clear hfz59_0
    try clear hfz59_1
    try clear hfz64_0
    try clear hfz64_1
    try clear hfz70_0
    try clear hfz70_1
    obtain ⟨kq, x46_11, rfl, HA, HJ11, HO_141001, HO_142001, HO_143001, HO_156001, HO_157001, HO_158001, BK140, BK141, BK142, BK155, BK156, BK157, HB⟩ := hcut
    cases kq with
    | zero => exact absurd HA.out (by simp [quarrylaw07_QuotesBehind.j0])
    | succ kj11 =>
     have H := HA.out
     clear HA
     simp only [quarrylaw07_QuotesBehind.j0] at H
     by_cases c71 : x46_11 = true
     ·subst c71
      have H1 : (some false) = some r := by rw [if_pos rfl] at H; exact H
      clear H
      have H := H1
      clear H1
      obtain rfl := Option.some.inj H
      go_wp2
      go_ret
      exact ⟨by first | rfl | (simp [errW_none, errW_some] <;> rfl) | (simp [*, errW_none, errW_some] <;> rfl), by repeat (first | (with_reducible first | exact HB.out | apply zQ | apply zN | apply zO | refine zJ ?_ GE140.out | refine zJ ?_ GE141.out | refine zJ ?_ GE142.out | refine zJ ?_ GE155.out | refine zJ ?_ GE156.out | refine zJ ?_ GE157.out) | exact HB.out)⟩
     ·replace c71 := Bool.eq_false_iff.mpr c71
      subst c71
      have H1 : (quarrylaw07_QuotesBehind.l0 kj11 a0 a1 0 t128 t129 t132 t133 t136 t137 t143 t144 t147 t148 t151 t152) = some r := by rw [if_neg (show ¬ (false = true) by decide)] at H; exact H
      clear H
      have H := H1
      clear H1
      have H' := zS H
      clear H
      go_wp2
      go_loopg [11] kj11 (fun kq v11 w' => ∃ (x11_2 : Int), v11 = .int .i64 x11_2 ∧ Aside0 (quarrylaw07_QuotesBehind.l0 kq a0 a1 x11_2 t128 t129 t132 t133 t136 t137 t143 t144 t147 t148 t151 t152 = some r) ∧ Aside0 (kq ≤ kj11) ∧ Aside0 (Kd.R (Kd.int .u64) 64 w' w.heap.size (fun k_ => some k_ ≠ ((.slice Ao26 t133.length co26) : Value).ownBlock ∧ some k_ ≠ ((.slice Ao28 t137.length co28) : Value).ownBlock ∧ some k_ ≠ ((.slice Ao41 t144.length co41) : Value).ownBlock ∧ some k_ ≠ ((.slice Ao47 t148.length co47) : Value).ownBlock ∧ some k_ ≠ ((.slice Ao52 t152.length co52) : Value).ownBlock) (.slice Ao23 t129.length co23) t129) ∧ Aside0 (Kd.R (Kd.int .u64) 64 w' w.heap.size (fun k_ => some k_ ≠ ((.slice Ao23 t129.length co23) : Value).ownBlock ∧ some k_ ≠ ((.slice Ao28 t137.length co28) : Value).ownBlock ∧ some k_ ≠ ((.slice Ao41 t144.length co41) : Value).ownBlock ∧ some k_ ≠ ((.slice Ao47 t148.length co47) : Value).ownBlock ∧ some k_ ≠ ((.slice Ao52 t152.length co52) : Value).ownBlock) (.slice Ao26 t133.length co26) t133) ∧ Aside0 (Kd.R (Kd.int .u64) 64 w' w.heap.size (fun k_ => some k_ ≠ ((.slice Ao23 t129.length co23) : Value).ownBlock ∧ some k_ ≠ ((.slice Ao26 t133.length co26) : Value).ownBlock ∧ some k_ ≠ ((.slice Ao41 t144.length co41) : Value).ownBlock ∧ some k_ ≠ ((.slice Ao47 t148.length co47) : Value).ownBlock ∧ some k_ ≠ ((.slice Ao52 t152.length co52) : Value).ownBlock) (.slice Ao28 t137.length co28) t137) ∧ Aside0 (Kd.R (Kd.int .u64) 64 w' w.heap.size (fun k_ => some k_ ≠ ((.slice Ao23 t129.length co23) : Value).ownBlock ∧ some k_ ≠ ((.slice Ao26 t133.length co26) : Value).ownBlock ∧ some k_ ≠ ((.slice Ao28 t137.length co28) : Value).ownBlock ∧ some k_ ≠ ((.slice Ao47 t148.length co47) : Value).ownBlock ∧ some k_ ≠ ((.slice Ao52 t152.length co52) : Value).ownBlock) (.slice Ao41 t144.length co41) t144) ∧ Aside0 (Kd.R (Kd.int .u64) 64 w' w.heap.size (fun k_ => some k_ ≠ ((.slice Ao23 t129.length co23) : Value).ownBlock ∧ some k_ ≠ ((.slice Ao26 t133.length co26) : Value).ownBlock ∧ some k_ ≠ ((.slice Ao28 t137.length co28) : Value).ownBlock ∧ some k_ ≠ ((.slice Ao41 t144.length co41) : Value).ownBlock ∧ some k_ ≠ ((.slice Ao52 t152.length co52) : Value).ownBlock) (.slice Ao47 t148.length co47) t148) ∧ Aside0 (Kd.R (Kd.int .u64) 64 w' w.heap.size (fun k_ => some k_ ≠ ((.slice Ao23 t129.length co23) : Value).ownBlock ∧ some k_ ≠ ((.slice Ao26 t133.length co26) : Value).ownBlock ∧ some k_ ≠ ((.slice Ao28 t137.length co28) : Value).ownBlock ∧ some k_ ≠ ((.slice Ao41 t144.length co41) : Value).ownBlock ∧ some k_ ≠ ((.slice Ao47 t148.length co47) : Value).ownBlock) (.slice Ao52 t152.length co52) t152) ∧ Aside0 (w'.heap[gb140]? = some (.cells #[.int .i64 t128, (.slice Ao23 t129.length co23)] 38 (0, 0))) ∧ Aside0 (w'.heap[gb141]? = some (.cells #[.int .i64 t132, (.slice Ao26 t133.length co26)] 38 (0, 0))) ∧ Aside0 (w'.heap[gb142]? = some (.cells #[.int .i64 t136, (.slice Ao28 t137.length co28)] 38 (0, 0))) ∧ Aside0 (w'.heap[gb155]? = some (.cells #[.int .i64 t143, (.slice Ao41 t144.length co41)] 38 (0, 0))) ∧ Aside0 (w'.heap[gb156]? = some (.cells #[.int .i64 t147, (.slice Ao47 t148.length co47)] 38 (0, 0))) ∧ Aside0 (w'.heap[gb157]? = some (.cells #[.int .i64 t151, (.slice Ao52 t152.length co52)] 38 (0, 0))) ∧ Aside0 (Below w.heap.size w w'))
      case atStart => exact ⟨(0), (by first | rfl | (simp; done) | (simp [*]; done)), H', ⟨Nat.le_refl _⟩, ⟨by (with_reducible repeat (first | apply zG | apply zH | apply zI)); exact HO_141001.out⟩, ⟨by (with_reducible repeat (first | apply zG | apply zH | apply zI)); exact HO_142001.out⟩, ⟨by (with_reducible repeat (first | apply zG | apply zH | apply zI)); exact HO_143001.out⟩, ⟨by (with_reducible repeat (first | apply zG | apply zH | apply zI)); exact HO_156001.out⟩, ⟨by (with_reducible repeat (first | apply zG | apply zH | apply zI)); exact HO_157001.out⟩, ⟨by (with_reducible repeat (first | apply zG | apply zH | apply zI)); exact HO_158001.out⟩, ⟨by (with_reducible repeat (first | refine zD ?_ _ | refine zE ?_ | refine zF ?_ _)); exact BK140.out⟩, ⟨by (with_reducible repeat (first | refine zD ?_ _ | refine zE ?_ | refine zF ?_ _)); exact BK141.out⟩, ⟨by (with_reducible repeat (first | refine zD ?_ _ | refine zE ?_ | refine zF ?_ _)); exact BK142.out⟩, ⟨by (with_reducible repeat (first | refine zD ?_ _ | refine zE ?_ | refine zF ?_ _)); exact BK155.out⟩, ⟨by (with_reducible repeat (first | refine zD ?_ _ | refine zE ?_ | refine zF ?_ _)); exact BK156.out⟩, ⟨by (with_reducible repeat (first | refine zD ?_ _ | refine zE ?_ | refine zF ?_ _)); exact BK157.out⟩, ⟨by repeat (first | (with_reducible first | exact HB.out | apply zQ | apply zN | apply zO | refine zJ ?_ GE140.out | refine zJ ?_ GE141.out | refine zJ ?_ GE142.out | refine zJ ?_ GE155.out | refine zJ ?_ GE156.out | refine zJ ?_ GE157.out) | exact HB.out)⟩⟩
      case round =>
       clear H'
       try clear c1
       try clear c2
       try clear p2
       try clear c3
       try clear c4
       try clear c5
       try clear c6
       try clear p6
       try clear c7
       try clear c7b0
       try clear c7b1
       try clear c7b2
       try clear c10
       try clear c20
       try clear c21
       try clear c22
       try clear c24
       try clear c28
       try clear c35
       try clear c36
       try clear c37
       try clear c38
       try clear c39
       try clear c42
       try clear c43
       try clear c44
       try clear c45
       try clear c48
       try clear c49
       try clear c50
       try clear c53
       try clear c53b0
       try clear c53b1
       try clear c54
       try clear c55
       try clear c56
       try clear c57
       try clear c58
       try clear c60
       try clear c61
       try clear c62
       try clear c63
       try clear p64
       try clear c65
       try clear c66
       try clear c67
       try clear c68
       try clear c69
       try clear c71
       try clear hcz22_0
       try clear hcz22_1
       try clear hcz25_0
       try clear hcz25_1
       try clear hcz27_0
       try clear hcz27_1
       try clear hcz40_0
       try clear hcz40_1
       try clear hcz46_0
       try clear hcz46_1
       try clear hcz51_0
       try clear hcz51_1
       try clear hcz59_0
       try clear hcz59_1
       try clear hcz64_0
       try clear hcz64_1
       try clear hcz70_0
       try clear hcz70_1
       try clear hfz22_0
       try clear hfz22_1
       try clear hfz25_0
       try clear hfz25_1
       try clear hfz27_0
       try clear hfz27_1
       try clear hfz40_0
       try clear hfz40_1
       try clear hfz46_0
       try clear hfz46_1
       try clear hfz51_0
       try clear hfz51_1
       try clear hfz59_0
       try clear hfz59_1
       try clear hfz64_0
       try clear hfz64_1
       try clear hfz70_0
       try clear hfz70_1
       try clear p2
       try clear p6
       try clear p64
       obtain ⟨x11_2, rfl, HA, HK2, HO_141001, HO_142001, HO_143001, HO_156001, HO_157001, HO_158001, BK140, BK141, BK142, BK155, BK156, BK157, HB⟩ := hrel
       cases gk with
       | zero => exact absurd HA.out (by simp [quarrylaw07_QuotesBehind.l0])
       | succ k2 =>
        have H := HA.out
        clear HA
        simp only [quarrylaw07_QuotesBehind.l0] at H
        by_cases c72 : x11_2 < (a0.size : Int)
        ·rw [if_pos c72] at H
         have c72b0 : decide (x11_2 < (a0.size : Int)) = true := decide_eq_true c72
         clear c72
         replace H := Option.bind_eq_some_iff.mp H
         obtain ⟨t158, A730, H⟩ := H
         replace H : ((bitmap_Get.f t128 t129 x11_2).bind fun t159 => (if (t158 != t159) = true then (some false) else ((bitmap_Get.f t151 t152 x11_2).bind fun t160 => ((bitmap_Get.f t143 t144 x11_2).bind fun t161 => (if (t160 != t161) = true then (some false) else (quarrylaw07_QuotesBehind.l0 k2 a0 a1 (wrap64 (x11_2 + 1)) t128 t129 t132 t133 t136 t137 t143 t144 t147 t148 t151 t152)))))) = some r := H
         have A73 := zS A730
         clear A730
         replace H := Option.bind_eq_some_iff.mp H
         obtain ⟨t159, A740, H⟩ := H
         replace H : (if (t158 != t159) = true then (some false) else ((bitmap_Get.f t151 t152 x11_2).bind fun t160 => ((bitmap_Get.f t143 t144 x11_2).bind fun t161 => (if (t160 != t161) = true then (some false) else (quarrylaw07_QuotesBehind.l0 k2 a0 a1 (wrap64 (x11_2 + 1)) t128 t129 t132 t133 t136 t137 t143 t144 t147 t148 t151 t152))))) = some r := H
         have A74 := zS A740
         clear A740
         by_cases c75 : (t158 != t159) = true
         ·rw [if_pos c75] at H
          have c75b0 : (t158 != t159) = true := c75
          (try (have c75b1 : decide (t158 = t159) = false := by simpa using c75))
          (try (have c75b2 : (t158 == t159) = false := by simpa using c75))
          (try (have c75b3 : ¬ (t158 = t159) := by simpa using c75))
          clear c75
          obtain rfl := Option.some.inj H
          try go_wp2
          have n0_ := zS (zI HO_141001.out)
          have n1_ := zS (zI HO_142001.out)
          have n2_ := zS (zI HO_143001.out)
          have n3_ := zS (zI HO_156001.out)
          have n4_ := zS (zI HO_157001.out)
          have n5_ := zS (zI HO_158001.out)
          have n6_ := zS (zE BK140.out)
          have n7_ := zS (zE BK141.out)
          have n8_ := zS (zE BK142.out)
          have n9_ := zS (zE BK155.out)
          have n10_ := zS (zE BK156.out)
          have n11_ := zS (zE BK157.out)
          have n12_ := zS (zO HB.out)
          clear HO_141001
          clear HO_142001
          clear HO_143001
          clear HO_156001
          clear HO_157001
          clear HO_158001
          clear BK140
          clear BK141
          clear BK142
          clear BK155
          clear BK156
          clear BK157
          clear HB
          have HO_141001 := n0_
          have HO_142001 := n1_
          have HO_143001 := n2_
          have HO_156001 := n3_
          have HO_157001 := n4_
          have HO_158001 := n5_
          have BK140 := n6_
          have BK141 := n7_
          have BK142 := n8_
          have BK155 := n9_
          have BK156 := n10_
          have BK157 := n11_
          have HB := n12_
          clear n0_ n1_ n2_ n3_ n4_ n5_ n6_ n7_ n8_ n9_ n10_ n11_ n12_
          refine start_ (n := 16) (S := fun w' => w'.cell? ⟨gb142, 0, none⟩ = some (.int .i64 t136) ∧ w'.cell? ⟨gb142, 1, none⟩ = some (.slice Ao28 t137.length co28) ∧ w'.cell? ⟨gb140, 0, none⟩ = some (.int .i64 t128) ∧ w'.cell? ⟨gb140, 1, none⟩ = some (.slice Ao23 t129.length co23)) (ds := []) #[false, false, false, false, false, false, false, false, false, false, false, false, false, false, false, false] (by kernel_rfl) rfl rfl ⟨(zL BK142.out 0).trans rfl, (zL BK142.out 1).trans rfl, (zL BK140.out 0).trans rfl, (zL BK140.out 1).trans rfl⟩ (fun hHeld => ?_); refine with_tabW quarrylaw07_QuotesBehind.tab10 quarrylaw07_QuotesBehind.bits10 (fun HT_ HW_ => ?_)
          generalize wr.drew = w76 at HO_141001 HO_142001 HO_143001 HO_156001 HO_157001 HO_158001 BK140 BK141 BK142 BK155 BK156 BK157 HB hHeld ⊢
          refine pure_ (i := 1) (N := some 54) (v := ?_) (a' := ?_) #[false, true, false, false, false, false, false, false, false, false, false, false, false, false, false, false] rfl rfl (any_of HT_.out (by kernel_rfl)) (fun _ _ _ h => h) (Or.inl ⟨by rfl, ?_⟩) ?_ ?_
          rotate_left
          ·intro w'
           go_simp
           with_reducible rfl
          rotate_left
          ·simp only [Act.put, zA, zB, zC, i64_w, i32_w]
           rfl
          refine pure_ (i := 4) (N := some 57) (v := ?_) (a' := ?_) #[false, true, false, false, true, false, false, false, false, false, false, false, false, false, false, false] rfl rfl (any_of HT_.out (by kernel_rfl)) (fun _ _ _ h => h) (Or.inl ⟨by rfl, ?_⟩) ?_ ?_
          rotate_left
          ·intro w'
           go_simp
           with_reducible rfl
          rotate_left
          ·simp only [Act.put, zA, zB, zC, i64_w, i32_w]
           rfl
          refine take_ (i := 0) (N := some 53) (v := ?_) (a' := ?_) #[true, true, false, false, true, false, false, false, false, false, false, false, false, false, false, false] rfl rfl (take_ofW HT_.out HW_.out (by kernel_rfl)) (fun _ _ _ h => h) (Or.inl ⟨by rfl, ?_⟩) hHeld ?_ ?_
          rotate_left
          ·rintro w' ⟨s0, s1, s2, s3⟩
           go_simp
           with_reducible rfl
          rotate_left
          ·simp only [Act.put, zA, zB, zC, i64_w, i32_w]
           rfl
          refine take_ (i := 3) (N := some 56) (v := ?_) (a' := ?_) #[true, true, false, true, true, false, false, false, false, false, false, false, false, false, false, false] rfl rfl (take_ofW HT_.out HW_.out (by kernel_rfl)) (fun _ _ _ h => h) (Or.inl ⟨by rfl, ?_⟩) hHeld ?_ ?_
          rotate_left
          ·rintro w' ⟨s0, s1, s2, s3⟩
           go_simp
           with_reducible rfl
          rotate_left
          ·simp only [Act.put, zA, zB, zC, i64_w, i32_w]
           rfl
          refine one_ (i := 2) (N := some 55) #[true, true, true, true, true, false, false, false, false, false, false, false, false, false, false, false] rfl rfl (one_of HT_.out (by kernel_rfl)) (by decide) (fun K hK => ?_)
          refine goes_ Tryd.func36 (by kernel_rfl) rfl #[.agg #[.int .i64 t136, .slice Ao28 t137.length co28], .int .i64 x11_2] (by rfl) rfl rfl (by (try simp only [List.map_toArray, List.map_cons, List.map_nil]); first | done | rfl | (simp only [List.length_drop, List.length_take]; rfl)) ?_
          with_reducible refine (bitmap_Get.calls t136 _ _ t137 x11_2 t158 _ ?side1 ?side2 A73.out).mono ?_
          (case side1 => repeat (first | exact (Kd.R_reads' HO_143001.out).2.2 | (with_reducible refine Kd.C_alloc ?_ _) | (with_reducible refine Kd.C_drewN ?_ _) | (with_reducible refine Kd.C_drew ?_)))
          (case side2 => exact (Kd.R_reads' HO_143001.out).2.1)
          rintro e w77 ⟨rfl, hb⟩
          refine ⟨_, rfl, ?_⟩
          have n0_ := zS (zK (by (with_reducible repeat (first | apply zG | apply zH | apply zI)); exact HO_141001.out) hb)
          have n1_ := zS (zK (by (with_reducible repeat (first | apply zG | apply zH | apply zI)); exact HO_142001.out) hb)
          have n2_ := zS (zK (by (with_reducible repeat (first | apply zG | apply zH | apply zI)); exact HO_143001.out) hb)
          have n3_ := zS (zK (by (with_reducible repeat (first | apply zG | apply zH | apply zI)); exact HO_156001.out) hb)
          have n4_ := zS (zK (by (with_reducible repeat (first | apply zG | apply zH | apply zI)); exact HO_157001.out) hb)
          have n5_ := zS (zK (by (with_reducible repeat (first | apply zG | apply zH | apply zI)); exact HO_158001.out) hb)
          have n6_ := zS (zM (g := gb140) (o := .cells #[.int .i64 t128, .slice Ao23 t129.length co23] 38 (0, 0)) (by (with_reducible repeat (first | refine zD ?_ _ | refine zE ?_ | refine zF ?_ _)); exact BK140.out) hb)
          have n7_ := zS (zM (g := gb141) (o := .cells #[.int .i64 t132, .slice Ao26 t133.length co26] 38 (0, 0)) (by (with_reducible repeat (first | refine zD ?_ _ | refine zE ?_ | refine zF ?_ _)); exact BK141.out) hb)
          have n8_ := zS (zM (g := gb142) (o := .cells #[.int .i64 t136, .slice Ao28 t137.length co28] 38 (0, 0)) (by (with_reducible repeat (first | refine zD ?_ _ | refine zE ?_ | refine zF ?_ _)); exact BK142.out) hb)
          have n9_ := zS (zM (g := gb155) (o := .cells #[.int .i64 t143, .slice Ao41 t144.length co41] 38 (0, 0)) (by (with_reducible repeat (first | refine zD ?_ _ | refine zE ?_ | refine zF ?_ _)); exact BK155.out) hb)
          have n10_ := zS (zM (g := gb156) (o := .cells #[.int .i64 t147, .slice Ao47 t148.length co47] 38 (0, 0)) (by (with_reducible repeat (first | refine zD ?_ _ | refine zE ?_ | refine zF ?_ _)); exact BK156.out) hb)
          have n11_ := zS (zM (g := gb157) (o := .cells #[.int .i64 t151, .slice Ao52 t152.length co52] 38 (0, 0)) (by (with_reducible repeat (first | refine zD ?_ _ | refine zE ?_ | refine zF ?_ _)); exact BK157.out) hb)
          have n12_ := zS (below_step (by repeat (first | (with_reducible first | exact HB.out | apply zQ | apply zN | apply zO | refine zJ ?_ GE140.out | refine zJ ?_ GE141.out | refine zJ ?_ GE142.out | refine zJ ?_ GE155.out | refine zJ ?_ GE156.out | refine zJ ?_ GE157.out) | exact HB.out)) hb)
          clear HO_141001
          clear HO_142001
          clear HO_143001
          clear HO_156001
          clear HO_157001
          clear HO_158001
          clear BK140
          clear BK141
          clear BK142
          clear BK155
          clear BK156
          clear BK157
          clear HB
          have HO_141001 := n0_
          have HO_142001 := n1_
          have HO_143001 := n2_
          have HO_156001 := n3_
          have HO_157001 := n4_
          have HO_158001 := n5_
          have BK140 := n6_
          have BK141 := n7_
          have BK142 := n8_
          have BK155 := n9_
          have BK156 := n10_
          have BK157 := n11_
          have HB := n12_
          clear n0_ n1_ n2_ n3_ n4_ n5_ n6_ n7_ n8_ n9_ n10_ n11_ n12_
          (try clear hb)
          (try clear hb2)
          (try clear hk)
          (try clear hi)
          refine hK.out _ _ ⟨(zL BK142.out 0).trans rfl, (zL BK142.out 1).trans rfl, (zL BK140.out 0).trans rfl, (zL BK140.out 1).trans rfl⟩ (fun hHeld => ?_)
          clear hK K
          refine norm_ (a' := ?_) ?_ ?_
          rotate_left
          ·show Act.put _ (some 55) _ = _
           simp only [Act.put, zA, zB, zC, i64_w, i32_w]
           rfl
          refine one_ (i := 5) (N := some 58) #[true, true, true, true, true, true, false, false, false, false, false, false, false, false, false, false] rfl rfl (one_of HT_.out (by kernel_rfl)) (by decide) (fun K hK => ?_)
          refine goes_ Tryd.func36 (by kernel_rfl) rfl #[.agg #[.int .i64 t128, .slice Ao23 t129.length co23], .int .i64 x11_2] (by rfl) rfl rfl (by (try simp only [List.map_toArray, List.map_cons, List.map_nil]); first | done | rfl | (simp only [List.length_drop, List.length_take]; rfl)) ?_
          with_reducible refine (bitmap_Get.calls t128 _ _ t129 x11_2 t159 _ ?side1 ?side2 A74.out).mono ?_
          (case side1 => repeat (first | exact (Kd.R_reads' HO_141001.out).2.2 | (with_reducible refine Kd.C_alloc ?_ _) | (with_reducible refine Kd.C_drewN ?_ _) | (with_reducible refine Kd.C_drew ?_)))
          (case side2 => exact (Kd.R_reads' HO_141001.out).2.1)
          rintro e w78 ⟨rfl, hb⟩
          refine ⟨_, rfl, ?_⟩
          have n0_ := zS (zK (by (with_reducible repeat (first | apply zG | apply zH | apply zI)); exact HO_141001.out) hb)
          have n1_ := zS (zK (by (with_reducible repeat (first | apply zG | apply zH | apply zI)); exact HO_142001.out) hb)
          have n2_ := zS (zK (by (with_reducible repeat (first | apply zG | apply zH | apply zI)); exact HO_143001.out) hb)
          have n3_ := zS (zK (by (with_reducible repeat (first | apply zG | apply zH | apply zI)); exact HO_156001.out) hb)
          have n4_ := zS (zK (by (with_reducible repeat (first | apply zG | apply zH | apply zI)); exact HO_157001.out) hb)
          have n5_ := zS (zK (by (with_reducible repeat (first | apply zG | apply zH | apply zI)); exact HO_158001.out) hb)
          have n6_ := zS (zM (g := gb140) (o := .cells #[.int .i64 t128, .slice Ao23 t129.length co23] 38 (0, 0)) (by (with_reducible repeat (first | refine zD ?_ _ | refine zE ?_ | refine zF ?_ _)); exact BK140.out) hb)
          have n7_ := zS (zM (g := gb141) (o := .cells #[.int .i64 t132, .slice Ao26 t133.length co26] 38 (0, 0)) (by (with_reducible repeat (first | refine zD ?_ _ | refine zE ?_ | refine zF ?_ _)); exact BK141.out) hb)
          have n8_ := zS (zM (g := gb142) (o := .cells #[.int .i64 t136, .slice Ao28 t137.length co28] 38 (0, 0)) (by (with_reducible repeat (first | refine zD ?_ _ | refine zE ?_ | refine zF ?_ _)); exact BK142.out) hb)
          have n9_ := zS (zM (g := gb155) (o := .cells #[.int .i64 t143, .slice Ao41 t144.length co41] 38 (0, 0)) (by (with_reducible repeat (first | refine zD ?_ _ | refine zE ?_ | refine zF ?_ _)); exact BK155.out) hb)
          have n10_ := zS (zM (g := gb156) (o := .cells #[.int .i64 t147, .slice Ao47 t148.length co47] 38 (0, 0)) (by (with_reducible repeat (first | refine zD ?_ _ | refine zE ?_ | refine zF ?_ _)); exact BK156.out) hb)
          have n11_ := zS (zM (g := gb157) (o := .cells #[.int .i64 t151, .slice Ao52 t152.length co52] 38 (0, 0)) (by (with_reducible repeat (first | refine zD ?_ _ | refine zE ?_ | refine zF ?_ _)); exact BK157.out) hb)
          have n12_ := zS (below_step (by repeat (first | (with_reducible first | exact HB.out | apply zQ | apply zN | apply zO | refine zJ ?_ GE140.out | refine zJ ?_ GE141.out | refine zJ ?_ GE142.out | refine zJ ?_ GE155.out | refine zJ ?_ GE156.out | refine zJ ?_ GE157.out) | exact HB.out)) hb)
          clear HO_141001
          clear HO_142001
          clear HO_143001
          clear HO_156001
          clear HO_157001
          clear HO_158001
          clear BK140
          clear BK141
          clear BK142
          clear BK155
          clear BK156
          clear BK157
          clear HB
          have HO_141001 := n0_
          have HO_142001 := n1_
          have HO_143001 := n2_
          have HO_156001 := n3_
          have HO_157001 := n4_
          have HO_158001 := n5_
          have BK140 := n6_
          have BK141 := n7_
          have BK142 := n8_
          have BK155 := n9_
          have BK156 := n10_
          have BK157 := n11_
          have HB := n12_
          clear n0_ n1_ n2_ n3_ n4_ n5_ n6_ n7_ n8_ n9_ n10_ n11_ n12_
          (try clear hb)
          (try clear hb2)
          (try clear hk)
          (try clear hi)
          refine hK.out _ _ ⟨(zL BK142.out 0).trans rfl, (zL BK142.out 1).trans rfl, (zL BK140.out 0).trans rfl, (zL BK140.out 1).trans rfl⟩ (fun hHeld => ?_)
          clear hK K
          refine norm_ (a' := ?_) ?_ ?_
          rotate_left
          ·show Act.put _ (some 58) _ = _
           simp only [Act.put, zA, zB, zC, i64_w, i32_w]
           rfl
          refine pure_ (i := 6) (N := some 59) (v := ?_) (a' := ?_) #[true, true, true, true, true, true, true, false, false, false, false, false, false, false, false, false] rfl rfl (any_of HT_.out (by kernel_rfl)) (fun _ _ _ h => h) (Or.inl ⟨by rfl, ?_⟩) ?_ ?_
          rotate_left
          ·intro w'
           go_simp
           with_reducible rfl
          rotate_left
          ·simp only [Act.put, zA, zB, zC, i64_w, i32_w]
           rfl
          refine pure_ (i := 7) (N := some 60) (v := ?_) (a' := ?_) #[true, true, true, true, true, true, true, true, false, false, false, false, false, false, false, false] rfl rfl (any_of HT_.out (by kernel_rfl)) (fun _ _ _ h => h) (Or.inl ⟨by rfl, ?_⟩) ?_ ?_
          rotate_left
          ·intro w'
           go_simp
           with_reducible rfl
          rotate_left
          ·simp only [Act.put, zA, zB, zC, i64_w, i32_w]
           rfl
          refine pure_ (i := 8) (N := some 61) (v := undef) (a' := ?_) #[true, true, true, true, true, true, true, true, true, false, false, false, false, false, false, false] rfl rfl (any_of HT_.out (by kernel_rfl)) (fun _ _ _ h => h) (Or.inr ⟨by rfl, rfl⟩) ?_ ?_
          rotate_left
          ·simp only [Act.put, zA, zB, zC, i64_w, i32_w]
           rfl
          refine pure_ (i := 9) (N := some 62) (v := undef) (a' := ?_) #[true, true, true, true, true, true, true, true, true, true, false, false, false, false, false, false] rfl rfl (any_of HT_.out (by kernel_rfl)) (fun _ _ _ h => h) (Or.inr ⟨by rfl, rfl⟩) ?_ ?_
          rotate_left
          ·simp only [Act.put, zA, zB, zC, i64_w, i32_w]
           rfl
          refine pure_ (i := 10) (N := some 63) (v := undef) (a' := ?_) #[true, true, true, true, true, true, true, true, true, true, true, false, false, false, false, false] rfl rfl (any_of HT_.out (by kernel_rfl)) (fun _ _ _ h => h) (Or.inr ⟨by rfl, rfl⟩) ?_ ?_
          rotate_left
          ·simp only [Act.put, zA, zB, zC, i64_w, i32_w]
           rfl
          refine pure_ (i := 11) (N := some 64) (v := undef) (a' := ?_) #[true, true, true, true, true, true, true, true, true, true, true, true, false, false, false, false] rfl rfl (any_of HT_.out (by kernel_rfl)) (fun _ _ _ h => h) (Or.inr ⟨by rfl, rfl⟩) ?_ ?_
          rotate_left
          ·simp only [Act.put, zA, zB, zC, i64_w, i32_w]
           rfl
          refine pure_ (i := 12) (N := some 65) (v := undef) (a' := ?_) #[true, true, true, true, true, true, true, true, true, true, true, true, true, false, false, false] rfl rfl (any_of HT_.out (by kernel_rfl)) (fun _ _ _ h => h) (Or.inr ⟨by rfl, rfl⟩) ?_ ?_
          rotate_left
          ·simp only [Act.put, zA, zB, zC, i64_w, i32_w]
           rfl
          refine pure_ (i := 13) (N := some 66) (v := undef) (a' := ?_) #[true, true, true, true, true, true, true, true, true, true, true, true, true, true, false, false] rfl rfl (any_of HT_.out (by kernel_rfl)) (fun _ _ _ h => h) (Or.inr ⟨by rfl, rfl⟩) ?_ ?_
          rotate_left
          ·simp only [Act.put, zA, zB, zC, i64_w, i32_w]
           rfl
          refine pure_ (i := 14) (N := some 67) (v := undef) (a' := ?_) #[true, true, true, true, true, true, true, true, true, true, true, true, true, true, true, false] rfl rfl (any_of HT_.out (by kernel_rfl)) (fun _ _ _ h => h) (Or.inr ⟨by rfl, rfl⟩) ?_ ?_
          rotate_left
          ·simp only [Act.put, zA, zB, zC, i64_w, i32_w]
           rfl
          refine pure_ (i := 15) (N := some 68) (v := ?_) (a' := ?_) #[true, true, true, true, true, true, true, true, true, true, true, true, true, true, true, true] rfl rfl (any_of HT_.out (by kernel_rfl)) (fun _ _ _ h => h) (Or.inl ⟨by rfl, ?_⟩) ?_ ?_
          rotate_left
          ·intro w'
           go_simp
           with_reducible rfl
          rotate_left
          ·simp only [Act.put, zA, zB, zC, i64_w, i32_w]
           rfl
          refine done_ (done_of HT_.out (by kernel_rfl)) ?_
          try go_wp2
          go_ret
          exact ⟨by first | rfl | (simp [errW_none, errW_some] <;> rfl) | (simp [*, errW_none, errW_some] <;> rfl), by repeat (first | (with_reducible first | exact HB.out | apply zQ | apply zN | apply zO | refine zJ ?_ GE140.out | refine zJ ?_ GE141.out | refine zJ ?_ GE142.out | refine zJ ?_ GE155.out | refine zJ ?_ GE156.out | refine zJ ?_ GE157.out) | exact HB.out)⟩
         ·rw [if_neg c75] at H
          have c75b0 : (t158 != t159) = false := by simpa using c75
          (try (have c75b1 : decide (t158 = t159) = true := by simpa using c75))
          (try (have c75b2 : (t158 == t159) = true := by simpa using c75))
          clear c75
          replace H := Option.bind_eq_some_iff.mp H
          obtain ⟨t160, A790, H⟩ := H
          replace H : ((bitmap_Get.f t143 t144 x11_2).bind fun t161 => (if (t160 != t161) = true then (some false) else (quarrylaw07_QuotesBehind.l0 k2 a0 a1 (wrap64 (x11_2 + 1)) t128 t129 t132 t133 t136 t137 t143 t144 t147 t148 t151 t152))) = some r := H
          have A79 := zS A790
          clear A790
          replace H := Option.bind_eq_some_iff.mp H
          obtain ⟨t161, A800, H⟩ := H
          replace H : (if (t160 != t161) = true then (some false) else (quarrylaw07_QuotesBehind.l0 k2 a0 a1 (wrap64 (x11_2 + 1)) t128 t129 t132 t133 t136 t137 t143 t144 t147 t148 t151 t152)) = some r := H
          have A80 := zS A800
          clear A800
          by_cases c81 : (t160 != t161) = true
          ·rw [if_pos c81] at H
           have c81b0 : (t160 != t161) = true := c81
           (try (have c81b1 : decide (t160 = t161) = false := by simpa using c81))
           (try (have c81b2 : (t160 == t161) = false := by simpa using c81))
           (try (have c81b3 : ¬ (t160 = t161) := by simpa using c81))
           clear c81
           obtain rfl := Option.some.inj H
           try go_wp2
           have n0_ := zS (zI HO_141001.out)
           have n1_ := zS (zI HO_142001.out)
           have n2_ := zS (zI HO_143001.out)
           have n3_ := zS (zI HO_156001.out)
           have n4_ := zS (zI HO_157001.out)
           have n5_ := zS (zI HO_158001.out)
           have n6_ := zS (zE BK140.out)
           have n7_ := zS (zE BK141.out)
           have n8_ := zS (zE BK142.out)
           have n9_ := zS (zE BK155.out)
           have n10_ := zS (zE BK156.out)
           have n11_ := zS (zE BK157.out)
           have n12_ := zS (zO HB.out)
           clear HO_141001
           clear HO_142001
           clear HO_143001
           clear HO_156001
           clear HO_157001
           clear HO_158001
           clear BK140
           clear BK141
           clear BK142
           clear BK155
           clear BK156
           clear BK157
           clear HB
           have HO_141001 := n0_
           have HO_142001 := n1_
           have HO_143001 := n2_
           have HO_156001 := n3_
           have HO_157001 := n4_
           have HO_158001 := n5_
           have BK140 := n6_
           have BK141 := n7_
           have BK142 := n8_
           have BK155 := n9_
           have BK156 := n10_
           have BK157 := n11_
           have HB := n12_
           clear n0_ n1_ n2_ n3_ n4_ n5_ n6_ n7_ n8_ n9_ n10_ n11_ n12_
           refine start_ (n := 16) (S := fun w' => w'.cell? ⟨gb142, 0, none⟩ = some (.int .i64 t136) ∧ w'.cell? ⟨gb142, 1, none⟩ = some (.slice Ao28 t137.length co28) ∧ w'.cell? ⟨gb140, 0, none⟩ = some (.int .i64 t128) ∧ w'.cell? ⟨gb140, 1, none⟩ = some (.slice Ao23 t129.length co23) ∧ w'.cell? ⟨gb157, 0, none⟩ = some (.int .i64 t151) ∧ w'.cell? ⟨gb157, 1, none⟩ = some (.slice Ao52 t152.length co52) ∧ w'.cell? ⟨gb155, 0, none⟩ = some (.int .i64 t143) ∧ w'.cell? ⟨gb155, 1, none⟩ = some (.slice Ao41 t144.length co41)) (ds := []) #[false, false, false, false, false, false, false, false, false, false, false, false, false, false, false, false] (by kernel_rfl) rfl rfl ⟨(zL BK142.out 0).trans rfl, (zL BK142.out 1).trans rfl, (zL BK140.out 0).trans rfl, (zL BK140.out 1).trans rfl, (zL BK157.out 0).trans rfl, (zL BK157.out 1).trans rfl, (zL BK155.out 0).trans rfl, (zL BK155.out 1).trans rfl⟩ (fun hHeld => ?_); refine with_tabW quarrylaw07_QuotesBehind.tab10 quarrylaw07_QuotesBehind.bits10 (fun HT_ HW_ => ?_)
           generalize wr.drew = w82 at HO_141001 HO_142001 HO_143001 HO_156001 HO_157001 HO_158001 BK140 BK141 BK142 BK155 BK156 BK157 HB hHeld ⊢
           refine pure_ (i := 1) (N := some 54) (v := ?_) (a' := ?_) #[false, true, false, false, false, false, false, false, false, false, false, false, false, false, false, false] rfl rfl (any_of HT_.out (by kernel_rfl)) (fun _ _ _ h => h) (Or.inl ⟨by rfl, ?_⟩) ?_ ?_
           rotate_left
           ·intro w'
            go_simp
            with_reducible rfl
           rotate_left
           ·simp only [Act.put, zA, zB, zC, i64_w, i32_w]
            rfl
           refine pure_ (i := 4) (N := some 57) (v := ?_) (a' := ?_) #[false, true, false, false, true, false, false, false, false, false, false, false, false, false, false, false] rfl rfl (any_of HT_.out (by kernel_rfl)) (fun _ _ _ h => h) (Or.inl ⟨by rfl, ?_⟩) ?_ ?_
           rotate_left
           ·intro w'
            go_simp
            with_reducible rfl
           rotate_left
           ·simp only [Act.put, zA, zB, zC, i64_w, i32_w]
            rfl
           refine take_ (i := 0) (N := some 53) (v := ?_) (a' := ?_) #[true, true, false, false, true, false, false, false, false, false, false, false, false, false, false, false] rfl rfl (take_ofW HT_.out HW_.out (by kernel_rfl)) (fun _ _ _ h => h) (Or.inl ⟨by rfl, ?_⟩) hHeld ?_ ?_
           rotate_left
           ·rintro w' ⟨s0, s1, s2, s3, s4, s5, s6, s7⟩
            go_simp
            with_reducible rfl
           rotate_left
           ·simp only [Act.put, zA, zB, zC, i64_w, i32_w]
            rfl
           refine take_ (i := 3) (N := some 56) (v := ?_) (a' := ?_) #[true, true, false, true, true, false, false, false, false, false, false, false, false, false, false, false] rfl rfl (take_ofW HT_.out HW_.out (by kernel_rfl)) (fun _ _ _ h => h) (Or.inl ⟨by rfl, ?_⟩) hHeld ?_ ?_
           rotate_left
           ·rintro w' ⟨s0, s1, s2, s3, s4, s5, s6, s7⟩
            go_simp
            with_reducible rfl
           rotate_left
           ·simp only [Act.put, zA, zB, zC, i64_w, i32_w]
            rfl
           refine one_ (i := 2) (N := some 55) #[true, true, true, true, true, false, false, false, false, false, false, false, false, false, false, false] rfl rfl (one_of HT_.out (by kernel_rfl)) (by decide) (fun K hK => ?_)
           refine goes_ Tryd.func36 (by kernel_rfl) rfl #[.agg #[.int .i64 t136, .slice Ao28 t137.length co28], .int .i64 x11_2] (by rfl) rfl rfl (by (try simp only [List.map_toArray, List.map_cons, List.map_nil]); first | done | rfl | (simp only [List.length_drop, List.length_take]; rfl)) ?_
           with_reducible refine (bitmap_Get.calls t136 _ _ t137 x11_2 t158 _ ?side1 ?side2 A73.out).mono ?_
           (case side1 => repeat (first | exact (Kd.R_reads' HO_143001.out).2.2 | (with_reducible refine Kd.C_alloc ?_ _) | (with_reducible refine Kd.C_drewN ?_ _) | (with_reducible refine Kd.C_drew ?_)))
           (case side2 => exact (Kd.R_reads' HO_143001.out).2.1)
           rintro e w83 ⟨rfl, hb⟩
           refine ⟨_, rfl, ?_⟩
           have n0_ := zS (zK (by (with_reducible repeat (first | apply zG | apply zH | apply zI)); exact HO_141001.out) hb)
           have n1_ := zS (zK (by (with_reducible repeat (first | apply zG | apply zH | apply zI)); exact HO_142001.out) hb)
           have n2_ := zS (zK (by (with_reducible repeat (first | apply zG | apply zH | apply zI)); exact HO_143001.out) hb)
           have n3_ := zS (zK (by (with_reducible repeat (first | apply zG | apply zH | apply zI)); exact HO_156001.out) hb)
           have n4_ := zS (zK (by (with_reducible repeat (first | apply zG | apply zH | apply zI)); exact HO_157001.out) hb)
           have n5_ := zS (zK (by (with_reducible repeat (first | apply zG | apply zH | apply zI)); exact HO_158001.out) hb)
           have n6_ := zS (zM (g := gb140) (o := .cells #[.int .i64 t128, .slice Ao23 t129.length co23] 38 (0, 0)) (by (with_reducible repeat (first | refine zD ?_ _ | refine zE ?_ | refine zF ?_ _)); exact BK140.out) hb)
           have n7_ := zS (zM (g := gb141) (o := .cells #[.int .i64 t132, .slice Ao26 t133.length co26] 38 (0, 0)) (by (with_reducible repeat (first | refine zD ?_ _ | refine zE ?_ | refine zF ?_ _)); exact BK141.out) hb)
           have n8_ := zS (zM (g := gb142) (o := .cells #[.int .i64 t136, .slice Ao28 t137.length co28] 38 (0, 0)) (by (with_reducible repeat (first | refine zD ?_ _ | refine zE ?_ | refine zF ?_ _)); exact BK142.out) hb)
           have n9_ := zS (zM (g := gb155) (o := .cells #[.int .i64 t143, .slice Ao41 t144.length co41] 38 (0, 0)) (by (with_reducible repeat (first | refine zD ?_ _ | refine zE ?_ | refine zF ?_ _)); exact BK155.out) hb)
           have n10_ := zS (zM (g := gb156) (o := .cells #[.int .i64 t147, .slice Ao47 t148.length co47] 38 (0, 0)) (by (with_reducible repeat (first | refine zD ?_ _ | refine zE ?_ | refine zF ?_ _)); exact BK156.out) hb)
           have n11_ := zS (zM (g := gb157) (o := .cells #[.int .i64 t151, .slice Ao52 t152.length co52] 38 (0, 0)) (by (with_reducible repeat (first | refine zD ?_ _ | refine zE ?_ | refine zF ?_ _)); exact BK157.out) hb)
           have n12_ := zS (below_step (by repeat (first | (with_reducible first | exact HB.out | apply zQ | apply zN | apply zO | refine zJ ?_ GE140.out | refine zJ ?_ GE141.out | refine zJ ?_ GE142.out | refine zJ ?_ GE155.out | refine zJ ?_ GE156.out | refine zJ ?_ GE157.out) | exact HB.out)) hb)
           clear HO_141001
           clear HO_142001
           clear HO_143001
           clear HO_156001
           clear HO_157001
           clear HO_158001
           clear BK140
           clear BK141
           clear BK142
           clear BK155
           clear BK156
           clear BK157
           clear HB
           have HO_141001 := n0_
           have HO_142001 := n1_
           have HO_143001 := n2_
           have HO_156001 := n3_
           have HO_157001 := n4_
           have HO_158001 := n5_
           have BK140 := n6_
           have BK141 := n7_
           have BK142 := n8_
           have BK155 := n9_
           have BK156 := n10_
           have BK157 := n11_
           have HB := n12_
           clear n0_ n1_ n2_ n3_ n4_ n5_ n6_ n7_ n8_ n9_ n10_ n11_ n12_
           (try clear hb)
           (try clear hb2)
           (try clear hk)
           (try clear hi)
           refine hK.out _ _ ⟨(zL BK142.out 0).trans rfl, (zL BK142.out 1).trans rfl, (zL BK140.out 0).trans rfl, (zL BK140.out 1).trans rfl, (zL BK157.out 0).trans rfl, (zL BK157.out 1).trans rfl, (zL BK155.out 0).trans rfl, (zL BK155.out 1).trans rfl⟩ (fun hHeld => ?_)
           clear hK K
           refine norm_ (a' := ?_) ?_ ?_
           rotate_left
           ·show Act.put _ (some 55) _ = _
            simp only [Act.put, zA, zB, zC, i64_w, i32_w]
            rfl
           refine one_ (i := 5) (N := some 58) #[true, true, true, true, true, true, false, false, false, false, false, false, false, false, false, false] rfl rfl (one_of HT_.out (by kernel_rfl)) (by decide) (fun K hK => ?_)
           refine goes_ Tryd.func36 (by kernel_rfl) rfl #[.agg #[.int .i64 t128, .slice Ao23 t129.length co23], .int .i64 x11_2] (by rfl) rfl rfl (by (try simp only [List.map_toArray, List.map_cons, List.map_nil]); first | done | rfl | (simp only [List.length_drop, List.length_take]; rfl)) ?_
           with_reducible refine (bitmap_Get.calls t128 _ _ t129 x11_2 t159 _ ?side1 ?side2 A74.out).mono ?_
           (case side1 => repeat (first | exact (Kd.R_reads' HO_141001.out).2.2 | (with_reducible refine Kd.C_alloc ?_ _) | (with_reducible refine Kd.C_drewN ?_ _) | (with_reducible refine Kd.C_drew ?_)))
           (case side2 => exact (Kd.R_reads' HO_141001.out).2.1)
           rintro e w84 ⟨rfl, hb⟩
           refine ⟨_, rfl, ?_⟩
           have n0_ := zS (zK (by (with_reducible repeat (first | apply zG | apply zH | apply zI)); exact HO_141001.out) hb)
           have n1_ := zS (zK (by (with_reducible repeat (first | apply zG | apply zH | apply zI)); exact HO_142001.out) hb)
           have n2_ := zS (zK (by (with_reducible repeat (first | apply zG | apply zH | apply zI)); exact HO_143001.out) hb)
           have n3_ := zS (zK (by (with_reducible repeat (first | apply zG | apply zH | apply zI)); exact HO_156001.out) hb)
           have n4_ := zS (zK (by (with_reducible repeat (first | apply zG | apply zH | apply zI)); exact HO_157001.out) hb)
           have n5_ := zS (zK (by (with_reducible repeat (first | apply zG | apply zH | apply zI)); exact HO_158001.out) hb)
           have n6_ := zS (zM (g := gb140) (o := .cells #[.int .i64 t128, .slice Ao23 t129.length co23] 38 (0, 0)) (by (with_reducible repeat (first | refine zD ?_ _ | refine zE ?_ | refine zF ?_ _)); exact BK140.out) hb)
           have n7_ := zS (zM (g := gb141) (o := .cells #[.int .i64 t132, .slice Ao26 t133.length co26] 38 (0, 0)) (by (with_reducible repeat (first | refine zD ?_ _ | refine zE ?_ | refine zF ?_ _)); exact BK141.out) hb)
           have n8_ := zS (zM (g := gb142) (o := .cells #[.int .i64 t136, .slice Ao28 t137.length co28] 38 (0, 0)) (by (with_reducible repeat (first | refine zD ?_ _ | refine zE ?_ | refine zF ?_ _)); exact BK142.out) hb)
           have n9_ := zS (zM (g := gb155) (o := .cells #[.int .i64 t143, .slice Ao41 t144.length co41] 38 (0, 0)) (by (with_reducible repeat (first | refine zD ?_ _ | refine zE ?_ | refine zF ?_ _)); exact BK155.out) hb)
           have n10_ := zS (zM (g := gb156) (o := .cells #[.int .i64 t147, .slice Ao47 t148.length co47] 38 (0, 0)) (by (with_reducible repeat (first | refine zD ?_ _ | refine zE ?_ | refine zF ?_ _)); exact BK156.out) hb)
           have n11_ := zS (zM (g := gb157) (o := .cells #[.int .i64 t151, .slice Ao52 t152.length co52] 38 (0, 0)) (by (with_reducible repeat (first | refine zD ?_ _ | refine zE ?_ | refine zF ?_ _)); exact BK157.out) hb)
           have n12_ := zS (below_step (by repeat (first | (with_reducible first | exact HB.out | apply zQ | apply zN | apply zO | refine zJ ?_ GE140.out | refine zJ ?_ GE141.out | refine zJ ?_ GE142.out | refine zJ ?_ GE155.out | refine zJ ?_ GE156.out | refine zJ ?_ GE157.out) | exact HB.out)) hb)
           clear HO_141001
           clear HO_142001
           clear HO_143001
           clear HO_156001
           clear HO_157001
           clear HO_158001
           clear BK140
           clear BK141
           clear BK142
           clear BK155
           clear BK156
           clear BK157
           clear HB
           have HO_141001 := n0_
           have HO_142001 := n1_
           have HO_143001 := n2_
           have HO_156001 := n3_
           have HO_157001 := n4_
           have HO_158001 := n5_
           have BK140 := n6_
           have BK141 := n7_
           have BK142 := n8_
           have BK155 := n9_
           have BK156 := n10_
           have BK157 := n11_
           have HB := n12_
           clear n0_ n1_ n2_ n3_ n4_ n5_ n6_ n7_ n8_ n9_ n10_ n11_ n12_
           (try clear hb)
           (try clear hb2)
           (try clear hk)
           (try clear hi)
           refine hK.out _ _ ⟨(zL BK142.out 0).trans rfl, (zL BK142.out 1).trans rfl, (zL BK140.out 0).trans rfl, (zL BK140.out 1).trans rfl, (zL BK157.out 0).trans rfl, (zL BK157.out 1).trans rfl, (zL BK155.out 0).trans rfl, (zL BK155.out 1).trans rfl⟩ (fun hHeld => ?_)
           clear hK K
           refine norm_ (a' := ?_) ?_ ?_
           rotate_left
           ·show Act.put _ (some 58) _ = _
            simp only [Act.put, zA, zB, zC, i64_w, i32_w]
            rfl
           refine pure_ (i := 6) (N := some 59) (v := ?_) (a' := ?_) #[true, true, true, true, true, true, true, false, false, false, false, false, false, false, false, false] rfl rfl (any_of HT_.out (by kernel_rfl)) (fun _ _ _ h => h) (Or.inl ⟨by rfl, ?_⟩) ?_ ?_
           rotate_left
           ·intro w'
            go_simp
            with_reducible rfl
           rotate_left
           ·simp only [Act.put, zA, zB, zC, i64_w, i32_w]
            rfl
           refine pure_ (i := 7) (N := some 60) (v := ?_) (a' := ?_) #[true, true, true, true, true, true, true, true, false, false, false, false, false, false, false, false] rfl rfl (any_of HT_.out (by kernel_rfl)) (fun _ _ _ h => h) (Or.inl ⟨by rfl, ?_⟩) ?_ ?_
           rotate_left
           ·intro w'
            go_simp
            with_reducible rfl
           rotate_left
           ·simp only [Act.put, zA, zB, zC, i64_w, i32_w]
            rfl
           refine pure_ (i := 9) (N := some 62) (v := ?_) (a' := ?_) #[true, true, true, true, true, true, true, true, false, true, false, false, false, false, false, false] rfl rfl (any_of HT_.out (by kernel_rfl)) (fun _ _ _ h => h) (Or.inl ⟨by rfl, ?_⟩) ?_ ?_
           rotate_left
           ·intro w'
            go_simp
            with_reducible rfl
           rotate_left
           ·simp only [Act.put, zA, zB, zC, i64_w, i32_w]
            rfl
           refine pure_ (i := 12) (N := some 65) (v := ?_) (a' := ?_) #[true, true, true, true, true, true, true, true, false, true, false, false, true, false, false, false] rfl rfl (any_of HT_.out (by kernel_rfl)) (fun _ _ _ h => h) (Or.inl ⟨by rfl, ?_⟩) ?_ ?_
           rotate_left
           ·intro w'
            go_simp
            with_reducible rfl
           rotate_left
           ·simp only [Act.put, zA, zB, zC, i64_w, i32_w]
            rfl
           refine take_ (i := 8) (N := some 61) (v := ?_) (a' := ?_) #[true, true, true, true, true, true, true, true, true, true, false, false, true, false, false, false] rfl rfl (take_ofW HT_.out HW_.out (by kernel_rfl)) (fun _ _ _ h => h) (Or.inl ⟨by rfl, ?_⟩) hHeld ?_ ?_
           rotate_left
           ·rintro w' ⟨s0, s1, s2, s3, s4, s5, s6, s7⟩
            go_simp
            with_reducible rfl
           rotate_left
           ·simp only [Act.put, zA, zB, zC, i64_w, i32_w]
            rfl
           refine take_ (i := 11) (N := some 64) (v := ?_) (a' := ?_) #[true, true, true, true, true, true, true, true, true, true, false, true, true, false, false, false] rfl rfl (take_ofW HT_.out HW_.out (by kernel_rfl)) (fun _ _ _ h => h) (Or.inl ⟨by rfl, ?_⟩) hHeld ?_ ?_
           rotate_left
           ·rintro w' ⟨s0, s1, s2, s3, s4, s5, s6, s7⟩
            go_simp
            with_reducible rfl
           rotate_left
           ·simp only [Act.put, zA, zB, zC, i64_w, i32_w]
            rfl
           refine one_ (i := 10) (N := some 63) #[true, true, true, true, true, true, true, true, true, true, true, true, true, false, false, false] rfl rfl (one_of HT_.out (by kernel_rfl)) (by decide) (fun K hK => ?_)
           refine goes_ Tryd.func36 (by kernel_rfl) rfl #[.agg #[.int .i64 t151, .slice Ao52 t152.length co52], .int .i64 x11_2] (by rfl) rfl rfl (by (try simp only [List.map_toArray, List.map_cons, List.map_nil]); first | done | rfl | (simp only [List.length_drop, List.length_take]; rfl)) ?_
           with_reducible refine (bitmap_Get.calls t151 _ _ t152 x11_2 t160 _ ?side1 ?side2 A79.out).mono ?_
           (case side1 => repeat (first | exact (Kd.R_reads' HO_158001.out).2.2 | (with_reducible refine Kd.C_alloc ?_ _) | (with_reducible refine Kd.C_drewN ?_ _) | (with_reducible refine Kd.C_drew ?_)))
           (case side2 => exact (Kd.R_reads' HO_158001.out).2.1)
           rintro e w85 ⟨rfl, hb⟩
           refine ⟨_, rfl, ?_⟩
           have n0_ := zS (zK (by (with_reducible repeat (first | apply zG | apply zH | apply zI)); exact HO_141001.out) hb)
           have n1_ := zS (zK (by (with_reducible repeat (first | apply zG | apply zH | apply zI)); exact HO_142001.out) hb)
           have n2_ := zS (zK (by (with_reducible repeat (first | apply zG | apply zH | apply zI)); exact HO_143001.out) hb)
           have n3_ := zS (zK (by (with_reducible repeat (first | apply zG | apply zH | apply zI)); exact HO_156001.out) hb)
           have n4_ := zS (zK (by (with_reducible repeat (first | apply zG | apply zH | apply zI)); exact HO_157001.out) hb)
           have n5_ := zS (zK (by (with_reducible repeat (first | apply zG | apply zH | apply zI)); exact HO_158001.out) hb)
           have n6_ := zS (zM (g := gb140) (o := .cells #[.int .i64 t128, .slice Ao23 t129.length co23] 38 (0, 0)) (by (with_reducible repeat (first | refine zD ?_ _ | refine zE ?_ | refine zF ?_ _)); exact BK140.out) hb)
           have n7_ := zS (zM (g := gb141) (o := .cells #[.int .i64 t132, .slice Ao26 t133.length co26] 38 (0, 0)) (by (with_reducible repeat (first | refine zD ?_ _ | refine zE ?_ | refine zF ?_ _)); exact BK141.out) hb)
           have n8_ := zS (zM (g := gb142) (o := .cells #[.int .i64 t136, .slice Ao28 t137.length co28] 38 (0, 0)) (by (with_reducible repeat (first | refine zD ?_ _ | refine zE ?_ | refine zF ?_ _)); exact BK142.out) hb)
           have n9_ := zS (zM (g := gb155) (o := .cells #[.int .i64 t143, .slice Ao41 t144.length co41] 38 (0, 0)) (by (with_reducible repeat (first | refine zD ?_ _ | refine zE ?_ | refine zF ?_ _)); exact BK155.out) hb)
           have n10_ := zS (zM (g := gb156) (o := .cells #[.int .i64 t147, .slice Ao47 t148.length co47] 38 (0, 0)) (by (with_reducible repeat (first | refine zD ?_ _ | refine zE ?_ | refine zF ?_ _)); exact BK156.out) hb)
           have n11_ := zS (zM (g := gb157) (o := .cells #[.int .i64 t151, .slice Ao52 t152.length co52] 38 (0, 0)) (by (with_reducible repeat (first | refine zD ?_ _ | refine zE ?_ | refine zF ?_ _)); exact BK157.out) hb)
           have n12_ := zS (below_step (by repeat (first | (with_reducible first | exact HB.out | apply zQ | apply zN | apply zO | refine zJ ?_ GE140.out | refine zJ ?_ GE141.out | refine zJ ?_ GE142.out | refine zJ ?_ GE155.out | refine zJ ?_ GE156.out | refine zJ ?_ GE157.out) | exact HB.out)) hb)
           clear HO_141001
           clear HO_142001
           clear HO_143001
           clear HO_156001
           clear HO_157001
           clear HO_158001
           clear BK140
           clear BK141
           clear BK142
           clear BK155
           clear BK156
           clear BK157
           clear HB
           have HO_141001 := n0_
           have HO_142001 := n1_
           have HO_143001 := n2_
           have HO_156001 := n3_
           have HO_157001 := n4_
           have HO_158001 := n5_
           have BK140 := n6_
           have BK141 := n7_
           have BK142 := n8_
           have BK155 := n9_
           have BK156 := n10_
           have BK157 := n11_
           have HB := n12_
           clear n0_ n1_ n2_ n3_ n4_ n5_ n6_ n7_ n8_ n9_ n10_ n11_ n12_
           (try clear hb)
           (try clear hb2)
           (try clear hk)
           (try clear hi)
           refine hK.out _ _ ⟨(zL BK142.out 0).trans rfl, (zL BK142.out 1).trans rfl, (zL BK140.out 0).trans rfl, (zL BK140.out 1).trans rfl, (zL BK157.out 0).trans rfl, (zL BK157.out 1).trans rfl, (zL BK155.out 0).trans rfl, (zL BK155.out 1).trans rfl⟩ (fun hHeld => ?_)
           clear hK K
           refine norm_ (a' := ?_) ?_ ?_
           rotate_left
           ·show Act.put _ (some 63) _ = _
            simp only [Act.put, zA, zB, zC, i64_w, i32_w]
            rfl
           refine one_ (i := 13) (N := some 66) #[true, true, true, true, true, true, true, true, true, true, true, true, true, true, false, false] rfl rfl (one_of HT_.out (by kernel_rfl)) (by decide) (fun K hK => ?_)
           refine goes_ Tryd.func36 (by kernel_rfl) rfl #[.agg #[.int .i64 t143, .slice Ao41 t144.length co41], .int .i64 x11_2] (by rfl) rfl rfl (by (try simp only [List.map_toArray, List.map_cons, List.map_nil]); first | done | rfl | (simp only [List.length_drop, List.length_take]; rfl)) ?_
           with_reducible refine (bitmap_Get.calls t143 _ _ t144 x11_2 t161 _ ?side1 ?side2 A80.out).mono ?_
           (case side1 => repeat (first | exact (Kd.R_reads' HO_156001.out).2.2 | (with_reducible refine Kd.C_alloc ?_ _) | (with_reducible refine Kd.C_drewN ?_ _) | (with_reducible refine Kd.C_drew ?_)))
           (case side2 => exact (Kd.R_reads' HO_156001.out).2.1)
           rintro e w86 ⟨rfl, hb⟩
           refine ⟨_, rfl, ?_⟩
           have n0_ := zS (zK (by (with_reducible repeat (first | apply zG | apply zH | apply zI)); exact HO_141001.out) hb)
           have n1_ := zS (zK (by (with_reducible repeat (first | apply zG | apply zH | apply zI)); exact HO_142001.out) hb)
           have n2_ := zS (zK (by (with_reducible repeat (first | apply zG | apply zH | apply zI)); exact HO_143001.out) hb)
           have n3_ := zS (zK (by (with_reducible repeat (first | apply zG | apply zH | apply zI)); exact HO_156001.out) hb)
           have n4_ := zS (zK (by (with_reducible repeat (first | apply zG | apply zH | apply zI)); exact HO_157001.out) hb)
           have n5_ := zS (zK (by (with_reducible repeat (first | apply zG | apply zH | apply zI)); exact HO_158001.out) hb)
           have n6_ := zS (zM (g := gb140) (o := .cells #[.int .i64 t128, .slice Ao23 t129.length co23] 38 (0, 0)) (by (with_reducible repeat (first | refine zD ?_ _ | refine zE ?_ | refine zF ?_ _)); exact BK140.out) hb)
           have n7_ := zS (zM (g := gb141) (o := .cells #[.int .i64 t132, .slice Ao26 t133.length co26] 38 (0, 0)) (by (with_reducible repeat (first | refine zD ?_ _ | refine zE ?_ | refine zF ?_ _)); exact BK141.out) hb)
           have n8_ := zS (zM (g := gb142) (o := .cells #[.int .i64 t136, .slice Ao28 t137.length co28] 38 (0, 0)) (by (with_reducible repeat (first | refine zD ?_ _ | refine zE ?_ | refine zF ?_ _)); exact BK142.out) hb)
           have n9_ := zS (zM (g := gb155) (o := .cells #[.int .i64 t143, .slice Ao41 t144.length co41] 38 (0, 0)) (by (with_reducible repeat (first | refine zD ?_ _ | refine zE ?_ | refine zF ?_ _)); exact BK155.out) hb)
           have n10_ := zS (zM (g := gb156) (o := .cells #[.int .i64 t147, .slice Ao47 t148.length co47] 38 (0, 0)) (by (with_reducible repeat (first | refine zD ?_ _ | refine zE ?_ | refine zF ?_ _)); exact BK156.out) hb)
           have n11_ := zS (zM (g := gb157) (o := .cells #[.int .i64 t151, .slice Ao52 t152.length co52] 38 (0, 0)) (by (with_reducible repeat (first | refine zD ?_ _ | refine zE ?_ | refine zF ?_ _)); exact BK157.out) hb)
           have n12_ := zS (below_step (by repeat (first | (with_reducible first | exact HB.out | apply zQ | apply zN | apply zO | refine zJ ?_ GE140.out | refine zJ ?_ GE141.out | refine zJ ?_ GE142.out | refine zJ ?_ GE155.out | refine zJ ?_ GE156.out | refine zJ ?_ GE157.out) | exact HB.out)) hb)
           clear HO_141001
           clear HO_142001
           clear HO_143001
           clear HO_156001
           clear HO_157001
           clear HO_158001
           clear BK140
           clear BK141
           clear BK142
           clear BK155
           clear BK156
           clear BK157
           clear HB
           have HO_141001 := n0_
           have HO_142001 := n1_
           have HO_143001 := n2_
           have HO_156001 := n3_
           have HO_157001 := n4_
           have HO_158001 := n5_
           have BK140 := n6_
           have BK141 := n7_
           have BK142 := n8_
           have BK155 := n9_
           have BK156 := n10_
           have BK157 := n11_
           have HB := n12_
           clear n0_ n1_ n2_ n3_ n4_ n5_ n6_ n7_ n8_ n9_ n10_ n11_ n12_
           (try clear hb)
           (try clear hb2)
           (try clear hk)
           (try clear hi)
           refine hK.out _ _ ⟨(zL BK142.out 0).trans rfl, (zL BK142.out 1).trans rfl, (zL BK140.out 0).trans rfl, (zL BK140.out 1).trans rfl, (zL BK157.out 0).trans rfl, (zL BK157.out 1).trans rfl, (zL BK155.out 0).trans rfl, (zL BK155.out 1).trans rfl⟩ (fun hHeld => ?_)
           clear hK K
           refine norm_ (a' := ?_) ?_ ?_
           rotate_left
           ·show Act.put _ (some 66) _ = _
            simp only [Act.put, zA, zB, zC, i64_w, i32_w]
            rfl
           refine pure_ (i := 14) (N := some 67) (v := ?_) (a' := ?_) #[true, true, true, true, true, true, true, true, true, true, true, true, true, true, true, false] rfl rfl (any_of HT_.out (by kernel_rfl)) (fun _ _ _ h => h) (Or.inl ⟨by rfl, ?_⟩) ?_ ?_
           rotate_left
           ·intro w'
            go_simp
            with_reducible rfl
           rotate_left
           ·simp only [Act.put, zA, zB, zC, i64_w, i32_w]
            rfl
           refine pure_ (i := 15) (N := some 68) (v := ?_) (a' := ?_) #[true, true, true, true, true, true, true, true, true, true, true, true, true, true, true, true] rfl rfl (any_of HT_.out (by kernel_rfl)) (fun _ _ _ h => h) (Or.inl ⟨by rfl, ?_⟩) ?_ ?_
           rotate_left
           ·intro w'
            go_simp
            with_reducible rfl
           rotate_left
           ·simp only [Act.put, zA, zB, zC, i64_w, i32_w]
            rfl
           refine done_ (done_of HT_.out (by kernel_rfl)) ?_
           try go_wp2
           go_ret
           exact ⟨by first | rfl | (simp [errW_none, errW_some] <;> rfl) | (simp [*, errW_none, errW_some] <;> rfl), by repeat (first | (with_reducible first | exact HB.out | apply zQ | apply zN | apply zO | refine zJ ?_ GE140.out | refine zJ ?_ GE141.out | refine zJ ?_ GE142.out | refine zJ ?_ GE155.out | refine zJ ?_ GE156.out | refine zJ ?_ GE157.out) | exact HB.out)⟩
          ·rw [if_neg c81] at H
           have c81b0 : (t160 != t161) = false := by simpa using c81
           (try (have c81b1 : decide (t160 = t161) = true := by simpa using c81))
           (try (have c81b2 : (t160 == t161) = true := by simpa using c81))
           clear c81
           have H' := zS H
           clear H
           try go_wp2
           have n0_ := zS (zI HO_141001.out)
           have n1_ := zS (zI HO_142001.out)
           have n2_ := zS (zI HO_143001.out)
           have n3_ := zS (zI HO_156001.out)
           have n4_ := zS (zI HO_157001.out)
           have n5_ := zS (zI HO_158001.out)
           have n6_ := zS (zE BK140.out)
           have n7_ := zS (zE BK141.out)
           have n8_ := zS (zE BK142.out)
           have n9_ := zS (zE BK155.out)
           have n10_ := zS (zE BK156.out)
           have n11_ := zS (zE BK157.out)
           have n12_ := zS (zO HB.out)
           clear HO_141001
           clear HO_142001
           clear HO_143001
           clear HO_156001
           clear HO_157001
           clear HO_158001
           clear BK140
           clear BK141
           clear BK142
           clear BK155
           clear BK156
           clear BK157
           clear HB
           have HO_141001 := n0_
           have HO_142001 := n1_
           have HO_143001 := n2_
           have HO_156001 := n3_
           have HO_157001 := n4_
           have HO_158001 := n5_
           have BK140 := n6_
           have BK141 := n7_
           have BK142 := n8_
           have BK155 := n9_
           have BK156 := n10_
           have BK157 := n11_
           have HB := n12_
           clear n0_ n1_ n2_ n3_ n4_ n5_ n6_ n7_ n8_ n9_ n10_ n11_ n12_
           refine start_ (n := 16) (S := fun w' => w'.cell? ⟨gb142, 0, none⟩ = some (.int .i64 t136) ∧ w'.cell? ⟨gb142, 1, none⟩ = some (.slice Ao28 t137.length co28) ∧ w'.cell? ⟨gb140, 0, none⟩ = some (.int .i64 t128) ∧ w'.cell? ⟨gb140, 1, none⟩ = some (.slice Ao23 t129.length co23) ∧ w'.cell? ⟨gb157, 0, none⟩ = some (.int .i64 t151) ∧ w'.cell? ⟨gb157, 1, none⟩ = some (.slice Ao52 t152.length co52) ∧ w'.cell? ⟨gb155, 0, none⟩ = some (.int .i64 t143) ∧ w'.cell? ⟨gb155, 1, none⟩ = some (.slice Ao41 t144.length co41)) (ds := []) #[false, false, false, false, false, false, false, false, false, false, false, false, false, false, false, false] (by kernel_rfl) rfl rfl ⟨(zL BK142.out 0).trans rfl, (zL BK142.out 1).trans rfl, (zL BK140.out 0).trans rfl, (zL BK140.out 1).trans rfl, (zL BK157.out 0).trans rfl, (zL BK157.out 1).trans rfl, (zL BK155.out 0).trans rfl, (zL BK155.out 1).trans rfl⟩ (fun hHeld => ?_); refine with_tabW quarrylaw07_QuotesBehind.tab10 quarrylaw07_QuotesBehind.bits10 (fun HT_ HW_ => ?_)
           generalize wr.drew = w87 at HO_141001 HO_142001 HO_143001 HO_156001 HO_157001 HO_158001 BK140 BK141 BK142 BK155 BK156 BK157 HB hHeld ⊢
           refine pure_ (i := 1) (N := some 54) (v := ?_) (a' := ?_) #[false, true, false, false, false, false, false, false, false, false, false, false, false, false, false, false] rfl rfl (any_of HT_.out (by kernel_rfl)) (fun _ _ _ h => h) (Or.inl ⟨by rfl, ?_⟩) ?_ ?_
           rotate_left
           ·intro w'
            go_simp
            with_reducible rfl
           rotate_left
           ·simp only [Act.put, zA, zB, zC, i64_w, i32_w]
            rfl
           refine pure_ (i := 4) (N := some 57) (v := ?_) (a' := ?_) #[false, true, false, false, true, false, false, false, false, false, false, false, false, false, false, false] rfl rfl (any_of HT_.out (by kernel_rfl)) (fun _ _ _ h => h) (Or.inl ⟨by rfl, ?_⟩) ?_ ?_
           rotate_left
           ·intro w'
            go_simp
            with_reducible rfl
           rotate_left
           ·simp only [Act.put, zA, zB, zC, i64_w, i32_w]
            rfl
           refine take_ (i := 0) (N := some 53) (v := ?_) (a' := ?_) #[true, true, false, false, true, false, false, false, false, false, false, false, false, false, false, false] rfl rfl (take_ofW HT_.out HW_.out (by kernel_rfl)) (fun _ _ _ h => h) (Or.inl ⟨by rfl, ?_⟩) hHeld ?_ ?_
           rotate_left
           ·rintro w' ⟨s0, s1, s2, s3, s4, s5, s6, s7⟩
            go_simp
            with_reducible rfl
           rotate_left
           ·simp only [Act.put, zA, zB, zC, i64_w, i32_w]
            rfl
           refine take_ (i := 3) (N := some 56) (v := ?_) (a' := ?_) #[true, true, false, true, true, false, false, false, false, false, false, false, false, false, false, false] rfl rfl (take_ofW HT_.out HW_.out (by kernel_rfl)) (fun _ _ _ h => h) (Or.inl ⟨by rfl, ?_⟩) hHeld ?_ ?_
           rotate_left
           ·rintro w' ⟨s0, s1, s2, s3, s4, s5, s6, s7⟩
            go_simp
            with_reducible rfl
           rotate_left
           ·simp only [Act.put, zA, zB, zC, i64_w, i32_w]
            rfl
           refine one_ (i := 2) (N := some 55) #[true, true, true, true, true, false, false, false, false, false, false, false, false, false, false, false] rfl rfl (one_of HT_.out (by kernel_rfl)) (by decide) (fun K hK => ?_)
           refine goes_ Tryd.func36 (by kernel_rfl) rfl #[.agg #[.int .i64 t136, .slice Ao28 t137.length co28], .int .i64 x11_2] (by rfl) rfl rfl (by (try simp only [List.map_toArray, List.map_cons, List.map_nil]); first | done | rfl | (simp only [List.length_drop, List.length_take]; rfl)) ?_
           with_reducible refine (bitmap_Get.calls t136 _ _ t137 x11_2 t158 _ ?side1 ?side2 A73.out).mono ?_
           (case side1 => repeat (first | exact (Kd.R_reads' HO_143001.out).2.2 | (with_reducible refine Kd.C_alloc ?_ _) | (with_reducible refine Kd.C_drewN ?_ _) | (with_reducible refine Kd.C_drew ?_)))
           (case side2 => exact (Kd.R_reads' HO_143001.out).2.1)
           rintro e w88 ⟨rfl, hb⟩
           refine ⟨_, rfl, ?_⟩
           have n0_ := zS (zK (by (with_reducible repeat (first | apply zG | apply zH | apply zI)); exact HO_141001.out) hb)
           have n1_ := zS (zK (by (with_reducible repeat (first | apply zG | apply zH | apply zI)); exact HO_142001.out) hb)
           have n2_ := zS (zK (by (with_reducible repeat (first | apply zG | apply zH | apply zI)); exact HO_143001.out) hb)
           have n3_ := zS (zK (by (with_reducible repeat (first | apply zG | apply zH | apply zI)); exact HO_156001.out) hb)
           have n4_ := zS (zK (by (with_reducible repeat (first | apply zG | apply zH | apply zI)); exact HO_157001.out) hb)
           have n5_ := zS (zK (by (with_reducible repeat (first | apply zG | apply zH | apply zI)); exact HO_158001.out) hb)
           have n6_ := zS (zM (g := gb140) (o := .cells #[.int .i64 t128, .slice Ao23 t129.length co23] 38 (0, 0)) (by (with_reducible repeat (first | refine zD ?_ _ | refine zE ?_ | refine zF ?_ _)); exact BK140.out) hb)
           have n7_ := zS (zM (g := gb141) (o := .cells #[.int .i64 t132, .slice Ao26 t133.length co26] 38 (0, 0)) (by (with_reducible repeat (first | refine zD ?_ _ | refine zE ?_ | refine zF ?_ _)); exact BK141.out) hb)
           have n8_ := zS (zM (g := gb142) (o := .cells #[.int .i64 t136, .slice Ao28 t137.length co28] 38 (0, 0)) (by (with_reducible repeat (first | refine zD ?_ _ | refine zE ?_ | refine zF ?_ _)); exact BK142.out) hb)
           have n9_ := zS (zM (g := gb155) (o := .cells #[.int .i64 t143, .slice Ao41 t144.length co41] 38 (0, 0)) (by (with_reducible repeat (first | refine zD ?_ _ | refine zE ?_ | refine zF ?_ _)); exact BK155.out) hb)
           have n10_ := zS (zM (g := gb156) (o := .cells #[.int .i64 t147, .slice Ao47 t148.length co47] 38 (0, 0)) (by (with_reducible repeat (first | refine zD ?_ _ | refine zE ?_ | refine zF ?_ _)); exact BK156.out) hb)
           have n11_ := zS (zM (g := gb157) (o := .cells #[.int .i64 t151, .slice Ao52 t152.length co52] 38 (0, 0)) (by (with_reducible repeat (first | refine zD ?_ _ | refine zE ?_ | refine zF ?_ _)); exact BK157.out) hb)
           have n12_ := zS (below_step (by repeat (first | (with_reducible first | exact HB.out | apply zQ | apply zN | apply zO | refine zJ ?_ GE140.out | refine zJ ?_ GE141.out | refine zJ ?_ GE142.out | refine zJ ?_ GE155.out | refine zJ ?_ GE156.out | refine zJ ?_ GE157.out) | exact HB.out)) hb)
           clear HO_141001
           clear HO_142001
           clear HO_143001
           clear HO_156001
           clear HO_157001
           clear HO_158001
           clear BK140
           clear BK141
           clear BK142
           clear BK155
           clear BK156
           clear BK157
           clear HB
           have HO_141001 := n0_
           have HO_142001 := n1_
           have HO_143001 := n2_
           have HO_156001 := n3_
           have HO_157001 := n4_
           have HO_158001 := n5_
           have BK140 := n6_
           have BK141 := n7_
           have BK142 := n8_
           have BK155 := n9_
           have BK156 := n10_
           have BK157 := n11_
           have HB := n12_
           clear n0_ n1_ n2_ n3_ n4_ n5_ n6_ n7_ n8_ n9_ n10_ n11_ n12_
           (try clear hb)
           (try clear hb2)
           (try clear hk)
           (try clear hi)
           refine hK.out _ _ ⟨(zL BK142.out 0).trans rfl, (zL BK142.out 1).trans rfl, (zL BK140.out 0).trans rfl, (zL BK140.out 1).trans rfl, (zL BK157.out 0).trans rfl, (zL BK157.out 1).trans rfl, (zL BK155.out 0).trans rfl, (zL BK155.out 1).trans rfl⟩ (fun hHeld => ?_)
           clear hK K
           refine norm_ (a' := ?_) ?_ ?_
           rotate_left
           ·show Act.put _ (some 55) _ = _
            simp only [Act.put, zA, zB, zC, i64_w, i32_w]
            rfl
           refine one_ (i := 5) (N := some 58) #[true, true, true, true, true, true, false, false, false, false, false, false, false, false, false, false] rfl rfl (one_of HT_.out (by kernel_rfl)) (by decide) (fun K hK => ?_)
           refine goes_ Tryd.func36 (by kernel_rfl) rfl #[.agg #[.int .i64 t128, .slice Ao23 t129.length co23], .int .i64 x11_2] (by rfl) rfl rfl (by (try simp only [List.map_toArray, List.map_cons, List.map_nil]); first | done | rfl | (simp only [List.length_drop, List.length_take]; rfl)) ?_
           with_reducible refine (bitmap_Get.calls t128 _ _ t129 x11_2 t159 _ ?side1 ?side2 A74.out).mono ?_
           (case side1 => repeat (first | exact (Kd.R_reads' HO_141001.out).2.2 | (with_reducible refine Kd.C_alloc ?_ _) | (with_reducible refine Kd.C_drewN ?_ _) | (with_reducible refine Kd.C_drew ?_)))
           (case side2 => exact (Kd.R_reads' HO_141001.out).2.1)
           rintro e w89 ⟨rfl, hb⟩
           refine ⟨_, rfl, ?_⟩
           have n0_ := zS (zK (by (with_reducible repeat (first | apply zG | apply zH | apply zI)); exact HO_141001.out) hb)
           have n1_ := zS (zK (by (with_reducible repeat (first | apply zG | apply zH | apply zI)); exact HO_142001.out) hb)
           have n2_ := zS (zK (by (with_reducible repeat (first | apply zG | apply zH | apply zI)); exact HO_143001.out) hb)
           have n3_ := zS (zK (by (with_reducible repeat (first | apply zG | apply zH | apply zI)); exact HO_156001.out) hb)
           have n4_ := zS (zK (by (with_reducible repeat (first | apply zG | apply zH | apply zI)); exact HO_157001.out) hb)
           have n5_ := zS (zK (by (with_reducible repeat (first | apply zG | apply zH | apply zI)); exact HO_158001.out) hb)
           have n6_ := zS (zM (g := gb140) (o := .cells #[.int .i64 t128, .slice Ao23 t129.length co23] 38 (0, 0)) (by (with_reducible repeat (first | refine zD ?_ _ | refine zE ?_ | refine zF ?_ _)); exact BK140.out) hb)
           have n7_ := zS (zM (g := gb141) (o := .cells #[.int .i64 t132, .slice Ao26 t133.length co26] 38 (0, 0)) (by (with_reducible repeat (first | refine zD ?_ _ | refine zE ?_ | refine zF ?_ _)); exact BK141.out) hb)
           have n8_ := zS (zM (g := gb142) (o := .cells #[.int .i64 t136, .slice Ao28 t137.length co28] 38 (0, 0)) (by (with_reducible repeat (first | refine zD ?_ _ | refine zE ?_ | refine zF ?_ _)); exact BK142.out) hb)
           have n9_ := zS (zM (g := gb155) (o := .cells #[.int .i64 t143, .slice Ao41 t144.length co41] 38 (0, 0)) (by (with_reducible repeat (first | refine zD ?_ _ | refine zE ?_ | refine zF ?_ _)); exact BK155.out) hb)
           have n10_ := zS (zM (g := gb156) (o := .cells #[.int .i64 t147, .slice Ao47 t148.length co47] 38 (0, 0)) (by (with_reducible repeat (first | refine zD ?_ _ | refine zE ?_ | refine zF ?_ _)); exact BK156.out) hb)
           have n11_ := zS (zM (g := gb157) (o := .cells #[.int .i64 t151, .slice Ao52 t152.length co52] 38 (0, 0)) (by (with_reducible repeat (first | refine zD ?_ _ | refine zE ?_ | refine zF ?_ _)); exact BK157.out) hb)
           have n12_ := zS (below_step (by repeat (first | (with_reducible first | exact HB.out | apply zQ | apply zN | apply zO | refine zJ ?_ GE140.out | refine zJ ?_ GE141.out | refine zJ ?_ GE142.out | refine zJ ?_ GE155.out | refine zJ ?_ GE156.out | refine zJ ?_ GE157.out) | exact HB.out)) hb)
           clear HO_141001
           clear HO_142001
           clear HO_143001
           clear HO_156001
           clear HO_157001
           clear HO_158001
           clear BK140
           clear BK141
           clear BK142
           clear BK155
           clear BK156
           clear BK157
           clear HB
           have HO_141001 := n0_
           have HO_142001 := n1_
           have HO_143001 := n2_
           have HO_156001 := n3_
           have HO_157001 := n4_
           have HO_158001 := n5_
           have BK140 := n6_
           have BK141 := n7_
           have BK142 := n8_
           have BK155 := n9_
           have BK156 := n10_
           have BK157 := n11_
           have HB := n12_
           clear n0_ n1_ n2_ n3_ n4_ n5_ n6_ n7_ n8_ n9_ n10_ n11_ n12_
           (try clear hb)
           (try clear hb2)
           (try clear hk)
           (try clear hi)
           refine hK.out _ _ ⟨(zL BK142.out 0).trans rfl, (zL BK142.out 1).trans rfl, (zL BK140.out 0).trans rfl, (zL BK140.out 1).trans rfl, (zL BK157.out 0).trans rfl, (zL BK157.out 1).trans rfl, (zL BK155.out 0).trans rfl, (zL BK155.out 1).trans rfl⟩ (fun hHeld => ?_)
           clear hK K
           refine norm_ (a' := ?_) ?_ ?_
           rotate_left
           ·show Act.put _ (some 58) _ = _
            simp only [Act.put, zA, zB, zC, i64_w, i32_w]
            rfl
           refine pure_ (i := 6) (N := some 59) (v := ?_) (a' := ?_) #[true, true, true, true, true, true, true, false, false, false, false, false, false, false, false, false] rfl rfl (any_of HT_.out (by kernel_rfl)) (fun _ _ _ h => h) (Or.inl ⟨by rfl, ?_⟩) ?_ ?_
           rotate_left
           ·intro w'
            go_simp
            with_reducible rfl
           rotate_left
           ·simp only [Act.put, zA, zB, zC, i64_w, i32_w]
            rfl
           refine pure_ (i := 7) (N := some 60) (v := ?_) (a' := ?_) #[true, true, true, true, true, true, true, true, false, false, false, false, false, false, false, false] rfl rfl (any_of HT_.out (by kernel_rfl)) (fun _ _ _ h => h) (Or.inl ⟨by rfl, ?_⟩) ?_ ?_
           rotate_left
           ·intro w'
            go_simp
            with_reducible rfl
           rotate_left
           ·simp only [Act.put, zA, zB, zC, i64_w, i32_w]
            rfl
           refine pure_ (i := 9) (N := some 62) (v := ?_) (a' := ?_) #[true, true, true, true, true, true, true, true, false, true, false, false, false, false, false, false] rfl rfl (any_of HT_.out (by kernel_rfl)) (fun _ _ _ h => h) (Or.inl ⟨by rfl, ?_⟩) ?_ ?_
           rotate_left
           ·intro w'
            go_simp
            with_reducible rfl
           rotate_left
           ·simp only [Act.put, zA, zB, zC, i64_w, i32_w]
            rfl
           refine pure_ (i := 12) (N := some 65) (v := ?_) (a' := ?_) #[true, true, true, true, true, true, true, true, false, true, false, false, true, false, false, false] rfl rfl (any_of HT_.out (by kernel_rfl)) (fun _ _ _ h => h) (Or.inl ⟨by rfl, ?_⟩) ?_ ?_
           rotate_left
           ·intro w'
            go_simp
            with_reducible rfl
           rotate_left
           ·simp only [Act.put, zA, zB, zC, i64_w, i32_w]
            rfl
           refine take_ (i := 8) (N := some 61) (v := ?_) (a' := ?_) #[true, true, true, true, true, true, true, true, true, true, false, false, true, false, false, false] rfl rfl (take_ofW HT_.out HW_.out (by kernel_rfl)) (fun _ _ _ h => h) (Or.inl ⟨by rfl, ?_⟩) hHeld ?_ ?_
           rotate_left
           ·rintro w' ⟨s0, s1, s2, s3, s4, s5, s6, s7⟩
            go_simp
            with_reducible rfl
           rotate_left
           ·simp only [Act.put, zA, zB, zC, i64_w, i32_w]
            rfl
           refine take_ (i := 11) (N := some 64) (v := ?_) (a' := ?_) #[true, true, true, true, true, true, true, true, true, true, false, true, true, false, false, false] rfl rfl (take_ofW HT_.out HW_.out (by kernel_rfl)) (fun _ _ _ h => h) (Or.inl ⟨by rfl, ?_⟩) hHeld ?_ ?_
           rotate_left
           ·rintro w' ⟨s0, s1, s2, s3, s4, s5, s6, s7⟩
            go_simp
            with_reducible rfl
           rotate_left
           ·simp only [Act.put, zA, zB, zC, i64_w, i32_w]
            rfl
           refine one_ (i := 10) (N := some 63) #[true, true, true, true, true, true, true, true, true, true, true, true, true, false, false, false] rfl rfl (one_of HT_.out (by kernel_rfl)) (by decide) (fun K hK => ?_)
           refine goes_ Tryd.func36 (by kernel_rfl) rfl #[.agg #[.int .i64 t151, .slice Ao52 t152.length co52], .int .i64 x11_2] (by rfl) rfl rfl (by (try simp only [List.map_toArray, List.map_cons, List.map_nil]); first | done | rfl | (simp only [List.length_drop, List.length_take]; rfl)) ?_
           with_reducible refine (bitmap_Get.calls t151 _ _ t152 x11_2 t160 _ ?side1 ?side2 A79.out).mono ?_
           (case side1 => repeat (first | exact (Kd.R_reads' HO_158001.out).2.2 | (with_reducible refine Kd.C_alloc ?_ _) | (with_reducible refine Kd.C_drewN ?_ _) | (with_reducible refine Kd.C_drew ?_)))
           (case side2 => exact (Kd.R_reads' HO_158001.out).2.1)
           rintro e w90 ⟨rfl, hb⟩
           refine ⟨_, rfl, ?_⟩
           have n0_ := zS (zK (by (with_reducible repeat (first | apply zG | apply zH | apply zI)); exact HO_141001.out) hb)
           have n1_ := zS (zK (by (with_reducible repeat (first | apply zG | apply zH | apply zI)); exact HO_142001.out) hb)
           have n2_ := zS (zK (by (with_reducible repeat (first | apply zG | apply zH | apply zI)); exact HO_143001.out) hb)
           have n3_ := zS (zK (by (with_reducible repeat (first | apply zG | apply zH | apply zI)); exact HO_156001.out) hb)
           have n4_ := zS (zK (by (with_reducible repeat (first | apply zG | apply zH | apply zI)); exact HO_157001.out) hb)
           have n5_ := zS (zK (by (with_reducible repeat (first | apply zG | apply zH | apply zI)); exact HO_158001.out) hb)
           have n6_ := zS (zM (g := gb140) (o := .cells #[.int .i64 t128, .slice Ao23 t129.length co23] 38 (0, 0)) (by (with_reducible repeat (first | refine zD ?_ _ | refine zE ?_ | refine zF ?_ _)); exact BK140.out) hb)
           have n7_ := zS (zM (g := gb141) (o := .cells #[.int .i64 t132, .slice Ao26 t133.length co26] 38 (0, 0)) (by (with_reducible repeat (first | refine zD ?_ _ | refine zE ?_ | refine zF ?_ _)); exact BK141.out) hb)
           have n8_ := zS (zM (g := gb142) (o := .cells #[.int .i64 t136, .slice Ao28 t137.length co28] 38 (0, 0)) (by (with_reducible repeat (first | refine zD ?_ _ | refine zE ?_ | refine zF ?_ _)); exact BK142.out) hb)
           have n9_ := zS (zM (g := gb155) (o := .cells #[.int .i64 t143, .slice Ao41 t144.length co41] 38 (0, 0)) (by (with_reducible repeat (first | refine zD ?_ _ | refine zE ?_ | refine zF ?_ _)); exact BK155.out) hb)
           have n10_ := zS (zM (g := gb156) (o := .cells #[.int .i64 t147, .slice Ao47 t148.length co47] 38 (0, 0)) (by (with_reducible repeat (first | refine zD ?_ _ | refine zE ?_ | refine zF ?_ _)); exact BK156.out) hb)
           have n11_ := zS (zM (g := gb157) (o := .cells #[.int .i64 t151, .slice Ao52 t152.length co52] 38 (0, 0)) (by (with_reducible repeat (first | refine zD ?_ _ | refine zE ?_ | refine zF ?_ _)); exact BK157.out) hb)
           have n12_ := zS (below_step (by repeat (first | (with_reducible first | exact HB.out | apply zQ | apply zN | apply zO | refine zJ ?_ GE140.out | refine zJ ?_ GE141.out | refine zJ ?_ GE142.out | refine zJ ?_ GE155.out | refine zJ ?_ GE156.out | refine zJ ?_ GE157.out) | exact HB.out)) hb)
           clear HO_141001
           clear HO_142001
           clear HO_143001
           clear HO_156001
           clear HO_157001
           clear HO_158001
           clear BK140
           clear BK141
           clear BK142
           clear BK155
           clear BK156
           clear BK157
           clear HB
           have HO_141001 := n0_
           have HO_142001 := n1_
           have HO_143001 := n2_
           have HO_156001 := n3_
           have HO_157001 := n4_
           have HO_158001 := n5_
           have BK140 := n6_
           have BK141 := n7_
           have BK142 := n8_
           have BK155 := n9_
           have BK156 := n10_
           have BK157 := n11_
           have HB := n12_
           clear n0_ n1_ n2_ n3_ n4_ n5_ n6_ n7_ n8_ n9_ n10_ n11_ n12_
           (try clear hb)
           (try clear hb2)
           (try clear hk)
           (try clear hi)
           refine hK.out _ _ ⟨(zL BK142.out 0).trans rfl, (zL BK142.out 1).trans rfl, (zL BK140.out 0).trans rfl, (zL BK140.out 1).trans rfl, (zL BK157.out 0).trans rfl, (zL BK157.out 1).trans rfl, (zL BK155.out 0).trans rfl, (zL BK155.out 1).trans rfl⟩ (fun hHeld => ?_)
           clear hK K
           refine norm_ (a' := ?_) ?_ ?_
           rotate_left
           ·show Act.put _ (some 63) _ = _
            simp only [Act.put, zA, zB, zC, i64_w, i32_w]
            rfl
           refine one_ (i := 13) (N := some 66) #[true, true, true, true, true, true, true, true, true, true, true, true, true, true, false, false] rfl rfl (one_of HT_.out (by kernel_rfl)) (by decide) (fun K hK => ?_)
           refine goes_ Tryd.func36 (by kernel_rfl) rfl #[.agg #[.int .i64 t143, .slice Ao41 t144.length co41], .int .i64 x11_2] (by rfl) rfl rfl (by (try simp only [List.map_toArray, List.map_cons, List.map_nil]); first | done | rfl | (simp only [List.length_drop, List.length_take]; rfl)) ?_
           with_reducible refine (bitmap_Get.calls t143 _ _ t144 x11_2 t161 _ ?side1 ?side2 A80.out).mono ?_
           (case side1 => repeat (first | exact (Kd.R_reads' HO_156001.out).2.2 | (with_reducible refine Kd.C_alloc ?_ _) | (with_reducible refine Kd.C_drewN ?_ _) | (with_reducible refine Kd.C_drew ?_)))
           (case side2 => exact (Kd.R_reads' HO_156001.out).2.1)
           rintro e w91 ⟨rfl, hb⟩
           refine ⟨_, rfl, ?_⟩
           have n0_ := zS (zK (by (with_reducible repeat (first | apply zG | apply zH | apply zI)); exact HO_141001.out) hb)
           have n1_ := zS (zK (by (with_reducible repeat (first | apply zG | apply zH | apply zI)); exact HO_142001.out) hb)
           have n2_ := zS (zK (by (with_reducible repeat (first | apply zG | apply zH | apply zI)); exact HO_143001.out) hb)
           have n3_ := zS (zK (by (with_reducible repeat (first | apply zG | apply zH | apply zI)); exact HO_156001.out) hb)
           have n4_ := zS (zK (by (with_reducible repeat (first | apply zG | apply zH | apply zI)); exact HO_157001.out) hb)
           have n5_ := zS (zK (by (with_reducible repeat (first | apply zG | apply zH | apply zI)); exact HO_158001.out) hb)
           have n6_ := zS (zM (g := gb140) (o := .cells #[.int .i64 t128, .slice Ao23 t129.length co23] 38 (0, 0)) (by (with_reducible repeat (first | refine zD ?_ _ | refine zE ?_ | refine zF ?_ _)); exact BK140.out) hb)
           have n7_ := zS (zM (g := gb141) (o := .cells #[.int .i64 t132, .slice Ao26 t133.length co26] 38 (0, 0)) (by (with_reducible repeat (first | refine zD ?_ _ | refine zE ?_ | refine zF ?_ _)); exact BK141.out) hb)
           have n8_ := zS (zM (g := gb142) (o := .cells #[.int .i64 t136, .slice Ao28 t137.length co28] 38 (0, 0)) (by (with_reducible repeat (first | refine zD ?_ _ | refine zE ?_ | refine zF ?_ _)); exact BK142.out) hb)
           have n9_ := zS (zM (g := gb155) (o := .cells #[.int .i64 t143, .slice Ao41 t144.length co41] 38 (0, 0)) (by (with_reducible repeat (first | refine zD ?_ _ | refine zE ?_ | refine zF ?_ _)); exact BK155.out) hb)
           have n10_ := zS (zM (g := gb156) (o := .cells #[.int .i64 t147, .slice Ao47 t148.length co47] 38 (0, 0)) (by (with_reducible repeat (first | refine zD ?_ _ | refine zE ?_ | refine zF ?_ _)); exact BK156.out) hb)
           have n11_ := zS (zM (g := gb157) (o := .cells #[.int .i64 t151, .slice Ao52 t152.length co52] 38 (0, 0)) (by (with_reducible repeat (first | refine zD ?_ _ | refine zE ?_ | refine zF ?_ _)); exact BK157.out) hb)
           have n12_ := zS (below_step (by repeat (first | (with_reducible first | exact HB.out | apply zQ | apply zN | apply zO | refine zJ ?_ GE140.out | refine zJ ?_ GE141.out | refine zJ ?_ GE142.out | refine zJ ?_ GE155.out | refine zJ ?_ GE156.out | refine zJ ?_ GE157.out) | exact HB.out)) hb)
           clear HO_141001
           clear HO_142001
           clear HO_143001
           clear HO_156001
           clear HO_157001
           clear HO_158001
           clear BK140
           clear BK141
           clear BK142
           clear BK155
           clear BK156
           clear BK157
           clear HB
           have HO_141001 := n0_
           have HO_142001 := n1_
           have HO_143001 := n2_
           have HO_156001 := n3_
           have HO_157001 := n4_
           have HO_158001 := n5_
           have BK140 := n6_
           have BK141 := n7_
           have BK142 := n8_
           have BK155 := n9_
           have BK156 := n10_
           have BK157 := n11_
           have HB := n12_
           clear n0_ n1_ n2_ n3_ n4_ n5_ n6_ n7_ n8_ n9_ n10_ n11_ n12_
           (try clear hb)
           (try clear hb2)
           (try clear hk)
           (try clear hi)
           refine hK.out _ _ ⟨(zL BK142.out 0).trans rfl, (zL BK142.out 1).trans rfl, (zL BK140.out 0).trans rfl, (zL BK140.out 1).trans rfl, (zL BK157.out 0).trans rfl, (zL BK157.out 1).trans rfl, (zL BK155.out 0).trans rfl, (zL BK155.out 1).trans rfl⟩ (fun hHeld => ?_)
           clear hK K
           refine norm_ (a' := ?_) ?_ ?_
           rotate_left
           ·show Act.put _ (some 66) _ = _
            simp only [Act.put, zA, zB, zC, i64_w, i32_w]
            rfl
           refine pure_ (i := 14) (N := some 67) (v := ?_) (a' := ?_) #[true, true, true, true, true, true, true, true, true, true, true, true, true, true, true, false] rfl rfl (any_of HT_.out (by kernel_rfl)) (fun _ _ _ h => h) (Or.inl ⟨by rfl, ?_⟩) ?_ ?_
           rotate_left
           ·intro w'
            go_simp
            with_reducible rfl
           rotate_left
           ·simp only [Act.put, zA, zB, zC, i64_w, i32_w]
            rfl
           refine pure_ (i := 15) (N := some 68) (v := ?_) (a' := ?_) #[true, true, true, true, true, true, true, true, true, true, true, true, true, true, true, true] rfl rfl (any_of HT_.out (by kernel_rfl)) (fun _ _ _ h => h) (Or.inl ⟨by rfl, ?_⟩) ?_ ?_
           rotate_left
           ·intro w'
            go_simp
            with_reducible rfl
           rotate_left
           ·simp only [Act.put, zA, zB, zC, i64_w, i32_w]
            rfl
           refine done_ (done_of HT_.out (by kernel_rfl)) ?_
           try go_wp2
           go_roundg k2
           case measure => have := HJ11.out; have := HK2.out; omega
           case rel => exact ⟨(wrap64 (x11_2 + 1)), (by first | rfl | (simp; done) | (simp [*]; done)), H', ⟨by have := HJ11.out; have := HK2.out; omega⟩, ⟨by (with_reducible repeat (first | apply zG | apply zH | apply zI)); exact HO_141001.out⟩, ⟨by (with_reducible repeat (first | apply zG | apply zH | apply zI)); exact HO_142001.out⟩, ⟨by (with_reducible repeat (first | apply zG | apply zH | apply zI)); exact HO_143001.out⟩, ⟨by (with_reducible repeat (first | apply zG | apply zH | apply zI)); exact HO_156001.out⟩, ⟨by (with_reducible repeat (first | apply zG | apply zH | apply zI)); exact HO_157001.out⟩, ⟨by (with_reducible repeat (first | apply zG | apply zH | apply zI)); exact HO_158001.out⟩, ⟨by (with_reducible repeat (first | refine zD ?_ _ | refine zE ?_ | refine zF ?_ _)); exact BK140.out⟩, ⟨by (with_reducible repeat (first | refine zD ?_ _ | refine zE ?_ | refine zF ?_ _)); exact BK141.out⟩, ⟨by (with_reducible repeat (first | refine zD ?_ _ | refine zE ?_ | refine zF ?_ _)); exact BK142.out⟩, ⟨by (with_reducible repeat (first | refine zD ?_ _ | refine zE ?_ | refine zF ?_ _)); exact BK155.out⟩, ⟨by (with_reducible repeat (first | refine zD ?_ _ | refine zE ?_ | refine zF ?_ _)); exact BK156.out⟩, ⟨by (with_reducible repeat (first | refine zD ?_ _ | refine zE ?_ | refine zF ?_ _)); exact BK157.out⟩, ⟨by repeat (first | (with_reducible first | exact HB.out | apply zQ | apply zN | apply zO | refine zJ ?_ GE140.out | refine zJ ?_ GE141.out | refine zJ ?_ GE142.out | refine zJ ?_ GE155.out | refine zJ ?_ GE156.out | refine zJ ?_ GE157.out) | exact HB.out)⟩⟩
        ·rw [if_neg c72] at H
         have c72b0 : decide (x11_2 < (a0.size : Int)) = false := decide_eq_false c72
         clear c72
         replace H := Option.bind_eq_some_iff.mp H
         obtain ⟨t162, A920, H⟩ := H
         replace H : (if t162 = true then (if (a1.size : Int) = 0 then (some true) else ((bitmap_Get.f t136 t137 (a0.size : Int)).bind fun t163 => (some (!t163)))) else ((quotes_Open.f k2 a0).bind fun t164 => (quarrylaw07_QuotesBehind.l1 k2 a0 a1 t164 0 t132 t133 t136 t137 t147 t148 t151 t152))) = some r := H
         have A92 := zS A920
         clear A920
         by_cases c93 : t162 = true
         ·subst c93
          have H1 : (if (a1.size : Int) = 0 then (some true) else ((bitmap_Get.f t136 t137 (a0.size : Int)).bind fun t163 => (some (!t163)))) = some r := by rw [if_pos rfl] at H; exact H
          clear H
          have H := H1
          clear H1
          by_cases c94 : (a1.size : Int) = 0
          ·rw [if_pos c94] at H
           have c94b0 : ((a1.size : Int) == 0) = true := beq_iff_eq.mpr c94
           have c94b1 : ((a1.size : Int) != 0) = false := bne_eq_false_iff_eq.mpr c94
           clear c94
           obtain rfl := Option.some.inj H
           go_wp2_with (first | ((with_reducible refine gate_callee (f := 38) rfl ?_); refine goesL_ (some 70) rfl rfl Tryd.func38 (by kernel_rfl) rfl #[.string a0, .bool false] rfl (by (try simp only [List.map_toArray, List.map_cons, List.map_nil]); first | done | rfl | (simp only [List.length_drop, List.length_take]; rfl)) ?_; (with_reducible refine (escape_Behind.calls k2 a0 false true _ A92.out).mono ?_); rintro e w' ⟨rfl, ⟨nd, rfl⟩⟩; refine ⟨_, rfl, ?_⟩))
           go_ret
           exact ⟨by first | rfl | (simp [errW_none, errW_some] <;> rfl) | (simp [*, errW_none, errW_some] <;> rfl), by repeat (first | (with_reducible first | exact HB.out | apply zQ | apply zN | apply zO | refine zJ ?_ GE140.out | refine zJ ?_ GE141.out | refine zJ ?_ GE142.out | refine zJ ?_ GE155.out | refine zJ ?_ GE156.out | refine zJ ?_ GE157.out) | exact HB.out)⟩
          ·rw [if_neg c94] at H
           have c94b0 : ((a1.size : Int) == 0) = false := beq_eq_false_iff_ne.mpr c94
           have c94b1 : ((a1.size : Int) != 0) = true := bne_iff_ne.mpr c94
           replace H := Option.bind_eq_some_iff.mp H
           obtain ⟨t163, A950, H⟩ := H
           replace H : (some (!t163)) = some r := H
           have A95 := zS A950
           clear A950
           obtain rfl := Option.some.inj H
           go_wp2_with (first | ((with_reducible refine gate_callee (f := 38) rfl ?_); refine goesL_ (some 70) rfl rfl Tryd.func38 (by kernel_rfl) rfl #[.string a0, .bool false] rfl (by (try simp only [List.map_toArray, List.map_cons, List.map_nil]); first | done | rfl | (simp only [List.length_drop, List.length_take]; rfl)) ?_; (with_reducible refine (escape_Behind.calls k2 a0 false true _ A92.out).mono ?_); rintro e w' ⟨rfl, ⟨nd, rfl⟩⟩; refine ⟨_, rfl, ?_⟩; have hnb96 := NB142_140.out; have hnc96 := NB140_142.out; have hnb97 := NB142_141.out; have hnc97 := NB141_142.out; have hnb98 := NB142_155.out; have hnc98 := NB155_142.out; have hnb99 := NB142_156.out; have hnc99 := NB156_142.out; have hnb100 := NB142_157.out; have hnc100 := NB157_142.out; have hcz101_0 : wr.cell? ⟨gb142, 0, none⟩ = some (.int .i64 t136) := (zL BK142.out 0).trans rfl; have hcz101_1 : wr.cell? ⟨gb142, 1, none⟩ = some (.slice Ao28 t137.length co28) := (zL BK142.out 1).trans rfl; have hfz101_0 := blk_frozen BK142.out 0; have hfz101_1 := blk_frozen BK142.out 1) | (go_at_call 36; (with_reducible refine (bitmap_Get.calls t136 _ _ t137 (a0.size : Int) t163 _ ?side1 ?side2 A95.out).mono ?_); (case side1 => repeat (first | exact (Kd.R_reads' HO_143001.out).2.2 | (with_reducible refine Kd.C_alloc ?_ _) | (with_reducible refine Kd.C_drewN ?_ _) | (with_reducible refine Kd.C_drew ?_))); (case side2 => exact (Kd.R_reads' HO_143001.out).2.1); rintro e w102 ⟨rfl, hb⟩; have n0_ := zS (zK (by (with_reducible repeat (first | apply zG | apply zH | apply zI)); exact HO_141001.out) hb); have n1_ := zS (zK (by (with_reducible repeat (first | apply zG | apply zH | apply zI)); exact HO_142001.out) hb); have n2_ := zS (zK (by (with_reducible repeat (first | apply zG | apply zH | apply zI)); exact HO_143001.out) hb); have n3_ := zS (zK (by (with_reducible repeat (first | apply zG | apply zH | apply zI)); exact HO_156001.out) hb); have n4_ := zS (zK (by (with_reducible repeat (first | apply zG | apply zH | apply zI)); exact HO_157001.out) hb); have n5_ := zS (zK (by (with_reducible repeat (first | apply zG | apply zH | apply zI)); exact HO_158001.out) hb); have n6_ := zS (zM (g := gb140) (o := .cells #[.int .i64 t128, .slice Ao23 t129.length co23] 38 (0, 0)) (by (with_reducible repeat (first | refine zD ?_ _ | refine zE ?_ | refine zF ?_ _)); exact BK140.out) hb); have n7_ := zS (zM (g := gb141) (o := .cells #[.int .i64 t132, .slice Ao26 t133.length co26] 38 (0, 0)) (by (with_reducible repeat (first | refine zD ?_ _ | refine zE ?_ | refine zF ?_ _)); exact BK141.out) hb); have n8_ := zS (zM (g := gb142) (o := .cells #[.int .i64 t136, .slice Ao28 t137.length co28] 38 (0, 0)) (by (with_reducible repeat (first | refine zD ?_ _ | refine zE ?_ | refine zF ?_ _)); exact BK142.out) hb); have n9_ := zS (zM (g := gb155) (o := .cells #[.int .i64 t143, .slice Ao41 t144.length co41] 38 (0, 0)) (by (with_reducible repeat (first | refine zD ?_ _ | refine zE ?_ | refine zF ?_ _)); exact BK155.out) hb); have n10_ := zS (zM (g := gb156) (o := .cells #[.int .i64 t147, .slice Ao47 t148.length co47] 38 (0, 0)) (by (with_reducible repeat (first | refine zD ?_ _ | refine zE ?_ | refine zF ?_ _)); exact BK156.out) hb); have n11_ := zS (zM (g := gb157) (o := .cells #[.int .i64 t151, .slice Ao52 t152.length co52] 38 (0, 0)) (by (with_reducible repeat (first | refine zD ?_ _ | refine zE ?_ | refine zF ?_ _)); exact BK157.out) hb); have n12_ := zS (below_step (by repeat (first | (with_reducible first | exact HB.out | apply zQ | apply zN | apply zO | refine zJ ?_ GE140.out | refine zJ ?_ GE141.out | refine zJ ?_ GE142.out | refine zJ ?_ GE155.out | refine zJ ?_ GE156.out | refine zJ ?_ GE157.out) | exact HB.out)) hb); clear HO_141001; clear HO_142001; clear HO_143001; clear HO_156001; clear HO_157001; clear HO_158001; clear BK140; clear BK141; clear BK142; clear BK155; clear BK156; clear BK157; clear HB; have HO_141001 := n0_; have HO_142001 := n1_; have HO_143001 := n2_; have HO_156001 := n3_; have HO_157001 := n4_; have HO_158001 := n5_; have BK140 := n6_; have BK141 := n7_; have BK142 := n8_; have BK155 := n9_; have BK156 := n10_; have BK157 := n11_; have HB := n12_; clear n0_ n1_ n2_ n3_ n4_ n5_ n6_ n7_ n8_ n9_ n10_ n11_ n12_; (try clear hb); (try clear hb2); (try clear hk); (try clear hi)))
           go_ret
           exact ⟨by first | rfl | (simp [errW_none, errW_some] <;> rfl) | (simp [*, errW_none, errW_some] <;> rfl), by repeat (first | (with_reducible first | exact HB.out | apply zQ | apply zN | apply zO | refine zJ ?_ GE140.out | refine zJ ?_ GE141.out | refine zJ ?_ GE142.out | refine zJ ?_ GE155.out | refine zJ ?_ GE156.out | refine zJ ?_ GE157.out) | exact HB.out)⟩
         ·replace c93 := Bool.eq_false_iff.mpr c93
          subst c93
          have H1 : ((quotes_Open.f k2 a0).bind fun t164 => (quarrylaw07_QuotesBehind.l1 k2 a0 a1 t164 0 t132 t133 t136 t137 t147 t148 t151 t152)) = some r := by rw [if_neg (show ¬ (false = true) by decide)] at H; exact H
          clear H
          have H := H1
          clear H1
          replace H := Option.bind_eq_some_iff.mp H
          obtain ⟨t164, A1030, H⟩ := H
          replace H : (quarrylaw07_QuotesBehind.l1 k2 a0 a1 t164 0 t132 t133 t136 t137 t147 t148 t151 t152) = some r := H
          have A103 := zS A1030
          clear A1030
          have H' := zS H
          clear H
          go_wp2_with (first | ((with_reducible refine gate_callee (f := 38) rfl ?_); refine goesL_ (some 70) rfl rfl Tryd.func38 (by kernel_rfl) rfl #[.string a0, .bool false] rfl (by (try simp only [List.map_toArray, List.map_cons, List.map_nil]); first | done | rfl | (simp only [List.length_drop, List.length_take]; rfl)) ?_; (with_reducible refine (escape_Behind.calls k2 a0 false false _ A92.out).mono ?_); rintro e w' ⟨rfl, ⟨nd, rfl⟩⟩; refine ⟨_, rfl, ?_⟩) | ((with_reducible refine gate_callee (f := 26) rfl ?_); refine goesL_ (some 82) rfl rfl Tryd.func26 (by kernel_rfl) rfl #[.string a0] rfl (by (try simp only [List.map_toArray, List.map_cons, List.map_nil]); first | done | rfl | (simp only [List.length_drop, List.length_take]; rfl)) ?_; (with_reducible refine (quotes_Open.calls k2 a0 t164 _ A103.out).mono ?_); rintro e w104 ⟨rfl, hb⟩; refine ⟨_, rfl, ?_⟩; have n0_ := zS (zK (by (with_reducible repeat (first | apply zG | apply zH | apply zI)); exact HO_141001.out) hb); have n1_ := zS (zK (by (with_reducible repeat (first | apply zG | apply zH | apply zI)); exact HO_142001.out) hb); have n2_ := zS (zK (by (with_reducible repeat (first | apply zG | apply zH | apply zI)); exact HO_143001.out) hb); have n3_ := zS (zK (by (with_reducible repeat (first | apply zG | apply zH | apply zI)); exact HO_156001.out) hb); have n4_ := zS (zK (by (with_reducible repeat (first | apply zG | apply zH | apply zI)); exact HO_157001.out) hb); have n5_ := zS (zK (by (with_reducible repeat (first | apply zG | apply zH | apply zI)); exact HO_158001.out) hb); have n6_ := zS (zM (g := gb140) (o := .cells #[.int .i64 t128, .slice Ao23 t129.length co23] 38 (0, 0)) (by (with_reducible repeat (first | refine zD ?_ _ | refine zE ?_ | refine zF ?_ _)); exact BK140.out) hb); have n7_ := zS (zM (g := gb141) (o := .cells #[.int .i64 t132, .slice Ao26 t133.length co26] 38 (0, 0)) (by (with_reducible repeat (first | refine zD ?_ _ | refine zE ?_ | refine zF ?_ _)); exact BK141.out) hb); have n8_ := zS (zM (g := gb142) (o := .cells #[.int .i64 t136, .slice Ao28 t137.length co28] 38 (0, 0)) (by (with_reducible repeat (first | refine zD ?_ _ | refine zE ?_ | refine zF ?_ _)); exact BK142.out) hb); have n9_ := zS (zM (g := gb155) (o := .cells #[.int .i64 t143, .slice Ao41 t144.length co41] 38 (0, 0)) (by (with_reducible repeat (first | refine zD ?_ _ | refine zE ?_ | refine zF ?_ _)); exact BK155.out) hb); have n10_ := zS (zM (g := gb156) (o := .cells #[.int .i64 t147, .slice Ao47 t148.length co47] 38 (0, 0)) (by (with_reducible repeat (first | refine zD ?_ _ | refine zE ?_ | refine zF ?_ _)); exact BK156.out) hb); have n11_ := zS (zM (g := gb157) (o := .cells #[.int .i64 t151, .slice Ao52 t152.length co52] 38 (0, 0)) (by (with_reducible repeat (first | refine zD ?_ _ | refine zE ?_ | refine zF ?_ _)); exact BK157.out) hb); have n12_ := zS (below_step (by repeat (first | (with_reducible first | exact HB.out | apply zQ | apply zN | apply zO | refine zJ ?_ GE140.out | refine zJ ?_ GE141.out | refine zJ ?_ GE142.out | refine zJ ?_ GE155.out | refine zJ ?_ GE156.out | refine zJ ?_ GE157.out) | exact HB.out)) hb); clear HO_141001; clear HO_142001; clear HO_143001; clear HO_156001; clear HO_157001; clear HO_158001; clear BK140; clear BK141; clear BK142; clear BK155; clear BK156; clear BK157; clear HB; have HO_141001 := n0_; have HO_142001 := n1_; have HO_143001 := n2_; have HO_156001 := n3_; have HO_157001 := n4_; have HO_158001 := n5_; have BK140 := n6_; have BK141 := n7_; have BK142 := n8_; have BK155 := n9_; have BK156 := n10_; have BK157 := n11_; have HB := n12_; clear n0_ n1_ n2_ n3_ n4_ n5_ n6_ n7_ n8_ n9_ n10_ n11_ n12_; (try clear hb); (try clear hb2); (try clear hk); (try clear hi)))
          go_loopg [13] k2 (fun kq v13 w' => ∃ (x13_3 : Int), v13 = .int .i64 x13_3 ∧ Aside0 (quarrylaw07_QuotesBehind.l1 kq a0 a1 t164 x13_3 t132 t133 t136 t137 t147 t148 t151 t152 = some r) ∧ Aside0 (kq ≤ k2) ∧ Aside0 (Kd.R (Kd.int .u64) 64 w' w.heap.size (fun k_ => some k_ ≠ ((.slice Ao26 t133.length co26) : Value).ownBlock ∧ some k_ ≠ ((.slice Ao28 t137.length co28) : Value).ownBlock ∧ some k_ ≠ ((.slice Ao41 t144.length co41) : Value).ownBlock ∧ some k_ ≠ ((.slice Ao47 t148.length co47) : Value).ownBlock ∧ some k_ ≠ ((.slice Ao52 t152.length co52) : Value).ownBlock) (.slice Ao23 t129.length co23) t129) ∧ Aside0 (Kd.R (Kd.int .u64) 64 w' w.heap.size (fun k_ => some k_ ≠ ((.slice Ao23 t129.length co23) : Value).ownBlock ∧ some k_ ≠ ((.slice Ao28 t137.length co28) : Value).ownBlock ∧ some k_ ≠ ((.slice Ao41 t144.length co41) : Value).ownBlock ∧ some k_ ≠ ((.slice Ao47 t148.length co47) : Value).ownBlock ∧ some k_ ≠ ((.slice Ao52 t152.length co52) : Value).ownBlock) (.slice Ao26 t133.length co26) t133) ∧ Aside0 (Kd.R (Kd.int .u64) 64 w' w.heap.size (fun k_ => some k_ ≠ ((.slice Ao23 t129.length co23) : Value).ownBlock ∧ some k_ ≠ ((.slice Ao26 t133.length co26) : Value).ownBlock ∧ some k_ ≠ ((.slice Ao41 t144.length co41) : Value).ownBlock ∧ some k_ ≠ ((.slice Ao47 t148.length co47) : Value).ownBlock ∧ some k_ ≠ ((.slice Ao52 t152.length co52) : Value).ownBlock) (.slice Ao28 t137.length co28) t137) ∧ Aside0 (Kd.R (Kd.int .u64) 64 w' w.heap.size (fun k_ => some k_ ≠ ((.slice Ao23 t129.length co23) : Value).ownBlock ∧ some k_ ≠ ((.slice Ao26 t133.length co26) : Value).ownBlock ∧ some k_ ≠ ((.slice Ao28 t137.length co28) : Value).ownBlock ∧ some k_ ≠ ((.slice Ao47 t148.length co47) : Value).ownBlock ∧ some k_ ≠ ((.slice Ao52 t152.length co52) : Value).ownBlock) (.slice Ao41 t144.length co41) t144) ∧ Aside0 (Kd.R (Kd.int .u64) 64 w' w.heap.size (fun k_ => some k_ ≠ ((.slice Ao23 t129.length co23) : Value).ownBlock ∧ some k_ ≠ ((.slice Ao26 t133.length co26) : Value).ownBlock ∧ some k_ ≠ ((.slice Ao28 t137.length co28) : Value).ownBlock ∧ some k_ ≠ ((.slice Ao41 t144.length co41) : Value).ownBlock ∧ some k_ ≠ ((.slice Ao52 t152.length co52) : Value).ownBlock) (.slice Ao47 t148.length co47) t148) ∧ Aside0 (Kd.R (Kd.int .u64) 64 w' w.heap.size (fun k_ => some k_ ≠ ((.slice Ao23 t129.length co23) : Value).ownBlock ∧ some k_ ≠ ((.slice Ao26 t133.length co26) : Value).ownBlock ∧ some k_ ≠ ((.slice Ao28 t137.length co28) : Value).ownBlock ∧ some k_ ≠ ((.slice Ao41 t144.length co41) : Value).ownBlock ∧ some k_ ≠ ((.slice Ao47 t148.length co47) : Value).ownBlock) (.slice Ao52 t152.length co52) t152) ∧ Aside0 (w'.heap[gb140]? = some (.cells #[.int .i64 t128, (.slice Ao23 t129.length co23)] 38 (0, 0))) ∧ Aside0 (w'.heap[gb141]? = some (.cells #[.int .i64 t132, (.slice Ao26 t133.length co26)] 38 (0, 0))) ∧ Aside0 (w'.heap[gb142]? = some (.cells #[.int .i64 t136, (.slice Ao28 t137.length co28)] 38 (0, 0))) ∧ Aside0 (w'.heap[gb155]? = some (.cells #[.int .i64 t143, (.slice Ao41 t144.length co41)] 38 (0, 0))) ∧ Aside0 (w'.heap[gb156]? = some (.cells #[.int .i64 t147, (.slice Ao47 t148.length co47)] 38 (0, 0))) ∧ Aside0 (w'.heap[gb157]? = some (.cells #[.int .i64 t151, (.slice Ao52 t152.length co52)] 38 (0, 0))) ∧ Aside0 (Below w.heap.size w w'))
          case atStart => exact ⟨(0), (by first | rfl | (simp; done) | (simp [*]; done)), H', ⟨Nat.le_refl _⟩, ⟨by (with_reducible repeat (first | apply zG | apply zH | apply zI)); exact HO_141001.out⟩, ⟨by (with_reducible repeat (first | apply zG | apply zH | apply zI)); exact HO_142001.out⟩, ⟨by (with_reducible repeat (first | apply zG | apply zH | apply zI)); exact HO_143001.out⟩, ⟨by (with_reducible repeat (first | apply zG | apply zH | apply zI)); exact HO_156001.out⟩, ⟨by (with_reducible repeat (first | apply zG | apply zH | apply zI)); exact HO_157001.out⟩, ⟨by (with_reducible repeat (first | apply zG | apply zH | apply zI)); exact HO_158001.out⟩, ⟨by (with_reducible repeat (first | refine zD ?_ _ | refine zE ?_ | refine zF ?_ _)); exact BK140.out⟩, ⟨by (with_reducible repeat (first | refine zD ?_ _ | refine zE ?_ | refine zF ?_ _)); exact BK141.out⟩, ⟨by (with_reducible repeat (first | refine zD ?_ _ | refine zE ?_ | refine zF ?_ _)); exact BK142.out⟩, ⟨by (with_reducible repeat (first | refine zD ?_ _ | refine zE ?_ | refine zF ?_ _)); exact BK155.out⟩, ⟨by (with_reducible repeat (first | refine zD ?_ _ | refine zE ?_ | refine zF ?_ _)); exact BK156.out⟩, ⟨by (with_reducible repeat (first | refine zD ?_ _ | refine zE ?_ | refine zF ?_ _)); exact BK157.out⟩, ⟨by repeat (first | (with_reducible first | exact HB.out | apply zQ | apply zN | apply zO | refine zJ ?_ GE140.out | refine zJ ?_ GE141.out | refine zJ ?_ GE142.out | refine zJ ?_ GE155.out | refine zJ ?_ GE156.out | refine zJ ?_ GE157.out) | exact HB.out)⟩⟩
          case round =>
           clear H'
           try clear c1
           try clear c2
           try clear p2
           try clear c3
           try clear p6
           try clear c7
           try clear c8
           try clear c9
           try clear c10
           try clear c26
           try clear c36
           try clear c38
           try clear p64
           try clear c72
           try clear c72b0
           try clear c81
           try clear c81b0
           try clear c81b1
           try clear c81b2
           try clear c93
           try clear c94
           try clear c94b0
           try clear c94b1
           try clear c96
           try clear c97
           try clear c98
           try clear c99
           try clear c100
           try clear hcz101_0
           try clear hcz101_1
           try clear hfz101_0
           try clear hfz101_1
           obtain ⟨x13_3, rfl, HA, HK3, HO_141001, HO_142001, HO_143001, HO_156001, HO_157001, HO_158001, BK140, BK141, BK142, BK155, BK156, BK157, HB⟩ := hrel
           cases gk with
           | zero => exact absurd HA.out (by simp [quarrylaw07_QuotesBehind.l1])
           | succ k3 =>
            have H := HA.out
            clear HA
            simp only [quarrylaw07_QuotesBehind.l1] at H
            by_cases c105 : x13_3 < (a1.size : Int)
            ·rw [if_pos c105] at H
             have c105b0 : decide (x13_3 < (a1.size : Int)) = true := decide_eq_true c105
             clear c105
             replace H := Option.bind_eq_some_iff.mp H
             obtain ⟨t167, A1060, H⟩ := H
             replace H : ((bitmap_Get.f t132 t133 x13_3).bind fun t168 => (if (t167 != t168) = true then (some false) else ((bitmap_Get.f t151 t152 (wrap64 ((a0.size : Int) + x13_3))).bind fun t169 => ((bitmap_Get.f t147 t148 x13_3).bind fun t170 => (if (t169 != (t170 != t164)) = true then (some false) else (quarrylaw07_QuotesBehind.l1 k3 a0 a1 t164 (wrap64 (x13_3 + 1)) t132 t133 t136 t137 t147 t148 t151 t152)))))) = some r := H
             have A106 := zS A1060
             clear A1060
             replace H := Option.bind_eq_some_iff.mp H
             obtain ⟨t168, A1070, H⟩ := H
             replace H : (if (t167 != t168) = true then (some false) else ((bitmap_Get.f t151 t152 (wrap64 ((a0.size : Int) + x13_3))).bind fun t169 => ((bitmap_Get.f t147 t148 x13_3).bind fun t170 => (if (t169 != (t170 != t164)) = true then (some false) else (quarrylaw07_QuotesBehind.l1 k3 a0 a1 t164 (wrap64 (x13_3 + 1)) t132 t133 t136 t137 t147 t148 t151 t152))))) = some r := H
             have A107 := zS A1070
             clear A1070
             by_cases c108 : (t167 != t168) = true
             ·rw [if_pos c108] at H
              have c108b0 : (t167 != t168) = true := c108
              (try (have c108b1 : decide (t167 = t168) = false := by simpa using c108))
              (try (have c108b2 : (t167 == t168) = false := by simpa using c108))
              (try (have c108b3 : ¬ (t167 = t168) := by simpa using c108))
              clear c108
              obtain rfl := Option.some.inj H
              try go_wp2
              have n0_ := zS (zI HO_141001.out)
              have n1_ := zS (zI HO_142001.out)
              have n2_ := zS (zI HO_143001.out)
              have n3_ := zS (zI HO_156001.out)
              have n4_ := zS (zI HO_157001.out)
              have n5_ := zS (zI HO_158001.out)
              have n6_ := zS (zE BK140.out)
              have n7_ := zS (zE BK141.out)
              have n8_ := zS (zE BK142.out)
              have n9_ := zS (zE BK155.out)
              have n10_ := zS (zE BK156.out)
              have n11_ := zS (zE BK157.out)
              have n12_ := zS (zO HB.out)
              clear HO_141001
              clear HO_142001
              clear HO_143001
              clear HO_156001
              clear HO_157001
              clear HO_158001
              clear BK140
              clear BK141
              clear BK142
              clear BK155
              clear BK156
              clear BK157
              clear HB
              have HO_141001 := n0_
              have HO_142001 := n1_
              have HO_143001 := n2_
              have HO_156001 := n3_
              have HO_157001 := n4_
              have HO_158001 := n5_
              have BK140 := n6_
              have BK141 := n7_
              have BK142 := n8_
              have BK155 := n9_
              have BK156 := n10_
              have BK157 := n11_
              have HB := n12_
              clear n0_ n1_ n2_ n3_ n4_ n5_ n6_ n7_ n8_ n9_ n10_ n11_ n12_
              refine start_ (n := 24) (S := fun w' => w'.cell? ⟨gb142, 0, none⟩ = some (.int .i64 t136) ∧ w'.cell? ⟨gb142, 1, none⟩ = some (.slice Ao28 t137.length co28) ∧ w'.cell? ⟨gb141, 0, none⟩ = some (.int .i64 t132) ∧ w'.cell? ⟨gb141, 1, none⟩ = some (.slice Ao26 t133.length co26)) (ds := []) #[false, false, false, false, false, false, false, false, false, false, false, false, false, false, false, false, false, false, false, false, false, false, false, false] (by kernel_rfl) rfl rfl ⟨(zL BK142.out 0).trans rfl, (zL BK142.out 1).trans rfl, (zL BK141.out 0).trans rfl, (zL BK141.out 1).trans rfl⟩ (fun hHeld => ?_); refine with_tabW quarrylaw07_QuotesBehind.tab18 quarrylaw07_QuotesBehind.bits18 (fun HT_ HW_ => ?_)
              generalize wr.drew = w109 at HO_141001 HO_142001 HO_143001 HO_156001 HO_157001 HO_158001 BK140 BK141 BK142 BK155 BK156 BK157 HB hHeld ⊢
              refine pure_ (i := 1) (N := some 90) (v := ?_) (a' := ?_) #[false, true, false, false, false, false, false, false, false, false, false, false, false, false, false, false, false, false, false, false, false, false, false, false] rfl rfl (any_of HT_.out (by kernel_rfl)) (fun _ _ _ h => h) (Or.inl ⟨by rfl, ?_⟩) ?_ ?_
              rotate_left
              ·intro w'
               go_simp
               with_reducible rfl
              rotate_left
              ·simp only [Act.put, zA, zB, zC, i64_w, i32_w]
               rfl
              refine pure_ (i := 2) (N := some 91) (v := ?_) (a' := ?_) #[false, true, true, false, false, false, false, false, false, false, false, false, false, false, false, false, false, false, false, false, false, false, false, false] rfl rfl (any_of HT_.out (by kernel_rfl)) (fun _ _ _ h => h) (Or.inl ⟨by rfl, ?_⟩) ?_ ?_
              rotate_left
              ·intro w'
               go_simp
               with_reducible rfl
              rotate_left
              ·simp only [Act.put, zA, zB, zC, i64_w, i32_w]
               rfl
              refine pure_ (i := 3) (N := some 92) (v := ?_) (a' := ?_) #[false, true, true, true, false, false, false, false, false, false, false, false, false, false, false, false, false, false, false, false, false, false, false, false] rfl rfl (any_of HT_.out (by kernel_rfl)) (fun _ _ _ h => h) (Or.inl ⟨by rfl, ?_⟩) ?_ ?_
              rotate_left
              ·intro w'
               go_simp
               with_reducible rfl
              rotate_left
              ·simp only [Act.put, zA, zB, zC, i64_w, i32_w]
               rfl
              refine pure_ (i := 4) (N := some 93) (v := ?_) (a' := ?_) #[false, true, true, true, true, false, false, false, false, false, false, false, false, false, false, false, false, false, false, false, false, false, false, false] rfl rfl (any_of HT_.out (by kernel_rfl)) (fun _ _ _ h => h) (Or.inl ⟨by rfl, ?_⟩) ?_ ?_
              rotate_left
              ·intro w'
               go_simp
               with_reducible rfl
              rotate_left
              ·simp only [Act.put, zA, zB, zC, i64_w, i32_w]
               rfl
              refine pure_ (i := 7) (N := some 96) (v := ?_) (a' := ?_) #[false, true, true, true, true, false, false, true, false, false, false, false, false, false, false, false, false, false, false, false, false, false, false, false] rfl rfl (any_of HT_.out (by kernel_rfl)) (fun _ _ _ h => h) (Or.inl ⟨by rfl, ?_⟩) ?_ ?_
              rotate_left
              ·intro w'
               go_simp
               with_reducible rfl
              rotate_left
              ·simp only [Act.put, zA, zB, zC, i64_w, i32_w]
               rfl
              refine take_ (i := 0) (N := some 89) (v := ?_) (a' := ?_) #[true, true, true, true, true, false, false, true, false, false, false, false, false, false, false, false, false, false, false, false, false, false, false, false] rfl rfl (take_ofW HT_.out HW_.out (by kernel_rfl)) (fun _ _ _ h => h) (Or.inl ⟨by rfl, ?_⟩) hHeld ?_ ?_
              rotate_left
              ·rintro w' ⟨s0, s1, s2, s3⟩
               go_simp
               with_reducible rfl
              rotate_left
              ·simp only [Act.put, zA, zB, zC, i64_w, i32_w]
               rfl
              refine take_ (i := 6) (N := some 95) (v := ?_) (a' := ?_) #[true, true, true, true, true, false, true, true, false, false, false, false, false, false, false, false, false, false, false, false, false, false, false, false] rfl rfl (take_ofW HT_.out HW_.out (by kernel_rfl)) (fun _ _ _ h => h) (Or.inl ⟨by rfl, ?_⟩) hHeld ?_ ?_
              rotate_left
              ·rintro w' ⟨s0, s1, s2, s3⟩
               go_simp
               with_reducible rfl
              rotate_left
              ·simp only [Act.put, zA, zB, zC, i64_w, i32_w]
               rfl
              refine one_ (i := 5) (N := some 94) #[true, true, true, true, true, true, true, true, false, false, false, false, false, false, false, false, false, false, false, false, false, false, false, false] rfl rfl (one_of HT_.out (by kernel_rfl)) (by decide) (fun K hK => ?_)
              refine goes_ Tryd.func36 (by kernel_rfl) rfl #[.agg #[.int .i64 t136, .slice Ao28 t137.length co28], .int .i64 (wrap64 ((a0.size : Int) + x13_3))] (by rfl) rfl rfl (by (try simp only [List.map_toArray, List.map_cons, List.map_nil]); first | done | rfl | (simp only [List.length_drop, List.length_take]; rfl)) ?_
              with_reducible refine (bitmap_Get.calls t136 _ _ t137 (wrap64 ((a0.size : Int) + x13_3)) t167 _ ?side1 ?side2 A106.out).mono ?_
              (case side1 => repeat (first | exact (Kd.R_reads' HO_143001.out).2.2 | (with_reducible refine Kd.C_alloc ?_ _) | (with_reducible refine Kd.C_drewN ?_ _) | (with_reducible refine Kd.C_drew ?_)))
              (case side2 => exact (Kd.R_reads' HO_143001.out).2.1)
              rintro e w110 ⟨rfl, hb⟩
              refine ⟨_, rfl, ?_⟩
              have n0_ := zS (zK (by (with_reducible repeat (first | apply zG | apply zH | apply zI)); exact HO_141001.out) hb)
              have n1_ := zS (zK (by (with_reducible repeat (first | apply zG | apply zH | apply zI)); exact HO_142001.out) hb)
              have n2_ := zS (zK (by (with_reducible repeat (first | apply zG | apply zH | apply zI)); exact HO_143001.out) hb)
              have n3_ := zS (zK (by (with_reducible repeat (first | apply zG | apply zH | apply zI)); exact HO_156001.out) hb)
              have n4_ := zS (zK (by (with_reducible repeat (first | apply zG | apply zH | apply zI)); exact HO_157001.out) hb)
              have n5_ := zS (zK (by (with_reducible repeat (first | apply zG | apply zH | apply zI)); exact HO_158001.out) hb)
              have n6_ := zS (zM (g := gb140) (o := .cells #[.int .i64 t128, .slice Ao23 t129.length co23] 38 (0, 0)) (by (with_reducible repeat (first | refine zD ?_ _ | refine zE ?_ | refine zF ?_ _)); exact BK140.out) hb)
              have n7_ := zS (zM (g := gb141) (o := .cells #[.int .i64 t132, .slice Ao26 t133.length co26] 38 (0, 0)) (by (with_reducible repeat (first | refine zD ?_ _ | refine zE ?_ | refine zF ?_ _)); exact BK141.out) hb)
              have n8_ := zS (zM (g := gb142) (o := .cells #[.int .i64 t136, .slice Ao28 t137.length co28] 38 (0, 0)) (by (with_reducible repeat (first | refine zD ?_ _ | refine zE ?_ | refine zF ?_ _)); exact BK142.out) hb)
              have n9_ := zS (zM (g := gb155) (o := .cells #[.int .i64 t143, .slice Ao41 t144.length co41] 38 (0, 0)) (by (with_reducible repeat (first | refine zD ?_ _ | refine zE ?_ | refine zF ?_ _)); exact BK155.out) hb)
              have n10_ := zS (zM (g := gb156) (o := .cells #[.int .i64 t147, .slice Ao47 t148.length co47] 38 (0, 0)) (by (with_reducible repeat (first | refine zD ?_ _ | refine zE ?_ | refine zF ?_ _)); exact BK156.out) hb)
              have n11_ := zS (zM (g := gb157) (o := .cells #[.int .i64 t151, .slice Ao52 t152.length co52] 38 (0, 0)) (by (with_reducible repeat (first | refine zD ?_ _ | refine zE ?_ | refine zF ?_ _)); exact BK157.out) hb)
              have n12_ := zS (below_step (by repeat (first | (with_reducible first | exact HB.out | apply zQ | apply zN | apply zO | refine zJ ?_ GE140.out | refine zJ ?_ GE141.out | refine zJ ?_ GE142.out | refine zJ ?_ GE155.out | refine zJ ?_ GE156.out | refine zJ ?_ GE157.out) | exact HB.out)) hb)
              clear HO_141001
              clear HO_142001
              clear HO_143001
              clear HO_156001
              clear HO_157001
              clear HO_158001
              clear BK140
              clear BK141
              clear BK142
              clear BK155
              clear BK156
              clear BK157
              clear HB
              have HO_141001 := n0_
              have HO_142001 := n1_
              have HO_143001 := n2_
              have HO_156001 := n3_
              have HO_157001 := n4_
              have HO_158001 := n5_
              have BK140 := n6_
              have BK141 := n7_
              have BK142 := n8_
              have BK155 := n9_
              have BK156 := n10_
              have BK157 := n11_
              have HB := n12_
              clear n0_ n1_ n2_ n3_ n4_ n5_ n6_ n7_ n8_ n9_ n10_ n11_ n12_
              (try clear hb)
              (try clear hb2)
              (try clear hk)
              (try clear hi)
              refine hK.out _ _ ⟨(zL BK142.out 0).trans rfl, (zL BK142.out 1).trans rfl, (zL BK141.out 0).trans rfl, (zL BK141.out 1).trans rfl⟩ (fun hHeld => ?_)
              clear hK K
              refine norm_ (a' := ?_) ?_ ?_
              rotate_left
              ·show Act.put _ (some 94) _ = _
               simp only [Act.put, zA, zB, zC, i64_w, i32_w]
               rfl
              refine one_ (i := 8) (N := some 97) #[true, true, true, true, true, true, true, true, true, false, false, false, false, false, false, false, false, false, false, false, false, false, false, false] rfl rfl (one_of HT_.out (by kernel_rfl)) (by decide) (fun K hK => ?_)
              refine goes_ Tryd.func36 (by kernel_rfl) rfl #[.agg #[.int .i64 t132, .slice Ao26 t133.length co26], .int .i64 x13_3] (by rfl) rfl rfl (by (try simp only [List.map_toArray, List.map_cons, List.map_nil]); first | done | rfl | (simp only [List.length_drop, List.length_take]; rfl)) ?_
              with_reducible refine (bitmap_Get.calls t132 _ _ t133 x13_3 t168 _ ?side1 ?side2 A107.out).mono ?_
              (case side1 => repeat (first | exact (Kd.R_reads' HO_142001.out).2.2 | (with_reducible refine Kd.C_alloc ?_ _) | (with_reducible refine Kd.C_drewN ?_ _) | (with_reducible refine Kd.C_drew ?_)))
              (case side2 => exact (Kd.R_reads' HO_142001.out).2.1)
              rintro e w111 ⟨rfl, hb⟩
              refine ⟨_, rfl, ?_⟩
              have n0_ := zS (zK (by (with_reducible repeat (first | apply zG | apply zH | apply zI)); exact HO_141001.out) hb)
              have n1_ := zS (zK (by (with_reducible repeat (first | apply zG | apply zH | apply zI)); exact HO_142001.out) hb)
              have n2_ := zS (zK (by (with_reducible repeat (first | apply zG | apply zH | apply zI)); exact HO_143001.out) hb)
              have n3_ := zS (zK (by (with_reducible repeat (first | apply zG | apply zH | apply zI)); exact HO_156001.out) hb)
              have n4_ := zS (zK (by (with_reducible repeat (first | apply zG | apply zH | apply zI)); exact HO_157001.out) hb)
              have n5_ := zS (zK (by (with_reducible repeat (first | apply zG | apply zH | apply zI)); exact HO_158001.out) hb)
              have n6_ := zS (zM (g := gb140) (o := .cells #[.int .i64 t128, .slice Ao23 t129.length co23] 38 (0, 0)) (by (with_reducible repeat (first | refine zD ?_ _ | refine zE ?_ | refine zF ?_ _)); exact BK140.out) hb)
              have n7_ := zS (zM (g := gb141) (o := .cells #[.int .i64 t132, .slice Ao26 t133.length co26] 38 (0, 0)) (by (with_reducible repeat (first | refine zD ?_ _ | refine zE ?_ | refine zF ?_ _)); exact BK141.out) hb)
              have n8_ := zS (zM (g := gb142) (o := .cells #[.int .i64 t136, .slice Ao28 t137.length co28] 38 (0, 0)) (by (with_reducible repeat (first | refine zD ?_ _ | refine zE ?_ | refine zF ?_ _)); exact BK142.out) hb)
              have n9_ := zS (zM (g := gb155) (o := .cells #[.int .i64 t143, .slice Ao41 t144.length co41] 38 (0, 0)) (by (with_reducible repeat (first | refine zD ?_ _ | refine zE ?_ | refine zF ?_ _)); exact BK155.out) hb)
              have n10_ := zS (zM (g := gb156) (o := .cells #[.int .i64 t147, .slice Ao47 t148.length co47] 38 (0, 0)) (by (with_reducible repeat (first | refine zD ?_ _ | refine zE ?_ | refine zF ?_ _)); exact BK156.out) hb)
              have n11_ := zS (zM (g := gb157) (o := .cells #[.int .i64 t151, .slice Ao52 t152.length co52] 38 (0, 0)) (by (with_reducible repeat (first | refine zD ?_ _ | refine zE ?_ | refine zF ?_ _)); exact BK157.out) hb)
              have n12_ := zS (below_step (by repeat (first | (with_reducible first | exact HB.out | apply zQ | apply zN | apply zO | refine zJ ?_ GE140.out | refine zJ ?_ GE141.out | refine zJ ?_ GE142.out | refine zJ ?_ GE155.out | refine zJ ?_ GE156.out | refine zJ ?_ GE157.out) | exact HB.out)) hb)
              clear HO_141001
              clear HO_142001
              clear HO_143001
              clear HO_156001
              clear HO_157001
              clear HO_158001
              clear BK140
              clear BK141
              clear BK142
              clear BK155
              clear BK156
              clear BK157
              clear HB
              have HO_141001 := n0_
              have HO_142001 := n1_
              have HO_143001 := n2_
              have HO_156001 := n3_
              have HO_157001 := n4_
              have HO_158001 := n5_
              have BK140 := n6_
              have BK141 := n7_
              have BK142 := n8_
              have BK155 := n9_
              have BK156 := n10_
              have BK157 := n11_
              have HB := n12_
              clear n0_ n1_ n2_ n3_ n4_ n5_ n6_ n7_ n8_ n9_ n10_ n11_ n12_
              (try clear hb)
              (try clear hb2)
              (try clear hk)
              (try clear hi)
              refine hK.out _ _ ⟨(zL BK142.out 0).trans rfl, (zL BK142.out 1).trans rfl, (zL BK141.out 0).trans rfl, (zL BK141.out 1).trans rfl⟩ (fun hHeld => ?_)
              clear hK K
              refine norm_ (a' := ?_) ?_ ?_
              rotate_left
              ·show Act.put _ (some 97) _ = _
               simp only [Act.put, zA, zB, zC, i64_w, i32_w]
               rfl
              refine pure_ (i := 9) (N := some 98) (v := ?_) (a' := ?_) #[true, true, true, true, true, true, true, true, true, true, false, false, false, false, false, false, false, false, false, false, false, false, false, false] rfl rfl (any_of HT_.out (by kernel_rfl)) (fun _ _ _ h => h) (Or.inl ⟨by rfl, ?_⟩) ?_ ?_
              rotate_left
              ·intro w'
               go_simp
               with_reducible rfl
              rotate_left
              ·simp only [Act.put, zA, zB, zC, i64_w, i32_w]
               rfl
              refine pure_ (i := 10) (N := some 99) (v := ?_) (a' := ?_) #[true, true, true, true, true, true, true, true, true, true, true, false, false, false, false, false, false, false, false, false, false, false, false, false] rfl rfl (any_of HT_.out (by kernel_rfl)) (fun _ _ _ h => h) (Or.inl ⟨by rfl, ?_⟩) ?_ ?_
              rotate_left
              ·intro w'
               go_simp
               with_reducible rfl
              rotate_left
              ·simp only [Act.put, zA, zB, zC, i64_w, i32_w]
               rfl
              refine pure_ (i := 11) (N := some 100) (v := undef) (a' := ?_) #[true, true, true, true, true, true, true, true, true, true, true, true, false, false, false, false, false, false, false, false, false, false, false, false] rfl rfl (any_of HT_.out (by kernel_rfl)) (fun _ _ _ h => h) (Or.inr ⟨by rfl, rfl⟩) ?_ ?_
              rotate_left
              ·simp only [Act.put, zA, zB, zC, i64_w, i32_w]
               rfl
              refine pure_ (i := 12) (N := some 101) (v := undef) (a' := ?_) #[true, true, true, true, true, true, true, true, true, true, true, true, true, false, false, false, false, false, false, false, false, false, false, false] rfl rfl (any_of HT_.out (by kernel_rfl)) (fun _ _ _ h => h) (Or.inr ⟨by rfl, rfl⟩) ?_ ?_
              rotate_left
              ·simp only [Act.put, zA, zB, zC, i64_w, i32_w]
               rfl
              refine pure_ (i := 13) (N := some 102) (v := undef) (a' := ?_) #[true, true, true, true, true, true, true, true, true, true, true, true, true, true, false, false, false, false, false, false, false, false, false, false] rfl rfl (any_of HT_.out (by kernel_rfl)) (fun _ _ _ h => h) (Or.inr ⟨by rfl, rfl⟩) ?_ ?_
              rotate_left
              ·simp only [Act.put, zA, zB, zC, i64_w, i32_w]
               rfl
              refine pure_ (i := 14) (N := some 103) (v := undef) (a' := ?_) #[true, true, true, true, true, true, true, true, true, true, true, true, true, true, true, false, false, false, false, false, false, false, false, false] rfl rfl (any_of HT_.out (by kernel_rfl)) (fun _ _ _ h => h) (Or.inr ⟨by rfl, rfl⟩) ?_ ?_
              rotate_left
              ·simp only [Act.put, zA, zB, zC, i64_w, i32_w]
               rfl
              refine pure_ (i := 15) (N := some 104) (v := undef) (a' := ?_) #[true, true, true, true, true, true, true, true, true, true, true, true, true, true, true, true, false, false, false, false, false, false, false, false] rfl rfl (any_of HT_.out (by kernel_rfl)) (fun _ _ _ h => h) (Or.inr ⟨by rfl, rfl⟩) ?_ ?_
              rotate_left
              ·simp only [Act.put, zA, zB, zC, i64_w, i32_w]
               rfl
              refine pure_ (i := 16) (N := some 105) (v := undef) (a' := ?_) #[true, true, true, true, true, true, true, true, true, true, true, true, true, true, true, true, true, false, false, false, false, false, false, false] rfl rfl (any_of HT_.out (by kernel_rfl)) (fun _ _ _ h => h) (Or.inr ⟨by rfl, rfl⟩) ?_ ?_
              rotate_left
              ·simp only [Act.put, zA, zB, zC, i64_w, i32_w]
               rfl
              refine pure_ (i := 17) (N := some 106) (v := undef) (a' := ?_) #[true, true, true, true, true, true, true, true, true, true, true, true, true, true, true, true, true, true, false, false, false, false, false, false] rfl rfl (any_of HT_.out (by kernel_rfl)) (fun _ _ _ h => h) (Or.inr ⟨by rfl, rfl⟩) ?_ ?_
              rotate_left
              ·simp only [Act.put, zA, zB, zC, i64_w, i32_w]
               rfl
              refine pure_ (i := 18) (N := some 107) (v := undef) (a' := ?_) #[true, true, true, true, true, true, true, true, true, true, true, true, true, true, true, true, true, true, true, false, false, false, false, false] rfl rfl (any_of HT_.out (by kernel_rfl)) (fun _ _ _ h => h) (Or.inr ⟨by rfl, rfl⟩) ?_ ?_
              rotate_left
              ·simp only [Act.put, zA, zB, zC, i64_w, i32_w]
               rfl
              refine pure_ (i := 19) (N := some 108) (v := undef) (a' := ?_) #[true, true, true, true, true, true, true, true, true, true, true, true, true, true, true, true, true, true, true, true, false, false, false, false] rfl rfl (any_of HT_.out (by kernel_rfl)) (fun _ _ _ h => h) (Or.inr ⟨by rfl, rfl⟩) ?_ ?_
              rotate_left
              ·simp only [Act.put, zA, zB, zC, i64_w, i32_w]
               rfl
              refine pure_ (i := 20) (N := some 109) (v := undef) (a' := ?_) #[true, true, true, true, true, true, true, true, true, true, true, true, true, true, true, true, true, true, true, true, true, false, false, false] rfl rfl (any_of HT_.out (by kernel_rfl)) (fun _ _ _ h => h) (Or.inr ⟨by rfl, rfl⟩) ?_ ?_
              rotate_left
              ·simp only [Act.put, zA, zB, zC, i64_w, i32_w]
               rfl
              refine pure_ (i := 21) (N := some 110) (v := undef) (a' := ?_) #[true, true, true, true, true, true, true, true, true, true, true, true, true, true, true, true, true, true, true, true, true, true, false, false] rfl rfl (any_of HT_.out (by kernel_rfl)) (fun _ _ _ h => h) (Or.inr ⟨by rfl, rfl⟩) ?_ ?_
              rotate_left
              ·simp only [Act.put, zA, zB, zC, i64_w, i32_w]
               rfl
              refine pure_ (i := 22) (N := some 111) (v := undef) (a' := ?_) #[true, true, true, true, true, true, true, true, true, true, true, true, true, true, true, true, true, true, true, true, true, true, true, false] rfl rfl (any_of HT_.out (by kernel_rfl)) (fun _ _ _ h => h) (Or.inr ⟨by rfl, rfl⟩) ?_ ?_
              rotate_left
              ·simp only [Act.put, zA, zB, zC, i64_w, i32_w]
               rfl
              refine pure_ (i := 23) (N := some 112) (v := ?_) (a' := ?_) #[true, true, true, true, true, true, true, true, true, true, true, true, true, true, true, true, true, true, true, true, true, true, true, true] rfl rfl (any_of HT_.out (by kernel_rfl)) (fun _ _ _ h => h) (Or.inl ⟨by rfl, ?_⟩) ?_ ?_
              rotate_left
              ·intro w'
               go_simp
               with_reducible rfl
              rotate_left
              ·simp only [Act.put, zA, zB, zC, i64_w, i32_w]
               rfl
              refine done_ (done_of HT_.out (by kernel_rfl)) ?_
              try go_wp2
              go_ret
              exact ⟨by first | rfl | (simp [errW_none, errW_some] <;> rfl) | (simp [*, errW_none, errW_some] <;> rfl), by repeat (first | (with_reducible first | exact HB.out | apply zQ | apply zN | apply zO | refine zJ ?_ GE140.out | refine zJ ?_ GE141.out | refine zJ ?_ GE142.out | refine zJ ?_ GE155.out | refine zJ ?_ GE156.out | refine zJ ?_ GE157.out) | exact HB.out)⟩
             ·rw [if_neg c108] at H
              have c108b0 : (t167 != t168) = false := by simpa using c108
              (try (have c108b1 : decide (t167 = t168) = true := by simpa using c108))
              (try (have c108b2 : (t167 == t168) = true := by simpa using c108))
              clear c108
              replace H := Option.bind_eq_some_iff.mp H
              obtain ⟨t169, A1120, H⟩ := H
              replace H : ((bitmap_Get.f t147 t148 x13_3).bind fun t170 => (if (t169 != (t170 != t164)) = true then (some false) else (quarrylaw07_QuotesBehind.l1 k3 a0 a1 t164 (wrap64 (x13_3 + 1)) t132 t133 t136 t137 t147 t148 t151 t152))) = some r := H
              have A112 := zS A1120
              clear A1120
              replace H := Option.bind_eq_some_iff.mp H
              obtain ⟨t170, A1130, H⟩ := H
              replace H : (if (t169 != (t170 != t164)) = true then (some false) else (quarrylaw07_QuotesBehind.l1 k3 a0 a1 t164 (wrap64 (x13_3 + 1)) t132 t133 t136 t137 t147 t148 t151 t152)) = some r := H
              have A113 := zS A1130
              clear A1130
              by_cases c114 : (t169 != (t170 != t164)) = true
              ·rw [if_pos c114] at H
               have c114b0 : (t169 != (t170 != t164)) = true := c114
               have c114x : (!(t169 == !(t170 == t164))) = true := by revert c114b0; cases t169 <;> cases t170 <;> cases t164 <;> decide
               have c114y : (t169 == !(t170 == t164)) = false := by revert c114b0; cases t169 <;> cases t170 <;> cases t164 <;> decide
               (try (have c114b1 : decide (t169 = (t170 != t164)) = false := by simpa using c114))
               (try (have c114b2 : (t169 == (t170 != t164)) = false := by simpa using c114))
               (try (have c114b3 : ¬ (t169 = (t170 != t164)) := by simpa using c114))
               clear c114
               obtain rfl := Option.some.inj H
               try go_wp2
               have n0_ := zS (zI HO_141001.out)
               have n1_ := zS (zI HO_142001.out)
               have n2_ := zS (zI HO_143001.out)
               have n3_ := zS (zI HO_156001.out)
               have n4_ := zS (zI HO_157001.out)
               have n5_ := zS (zI HO_158001.out)
               have n6_ := zS (zE BK140.out)
               have n7_ := zS (zE BK141.out)
               have n8_ := zS (zE BK142.out)
               have n9_ := zS (zE BK155.out)
               have n10_ := zS (zE BK156.out)
               have n11_ := zS (zE BK157.out)
               have n12_ := zS (zO HB.out)
               clear HO_141001
               clear HO_142001
               clear HO_143001
               clear HO_156001
               clear HO_157001
               clear HO_158001
               clear BK140
               clear BK141
               clear BK142
               clear BK155
               clear BK156
               clear BK157
               clear HB
               have HO_141001 := n0_
               have HO_142001 := n1_
               have HO_143001 := n2_
               have HO_156001 := n3_
               have HO_157001 := n4_
               have HO_158001 := n5_
               have BK140 := n6_
               have BK141 := n7_
               have BK142 := n8_
               have BK155 := n9_
               have BK156 := n10_
               have BK157 := n11_
               have HB := n12_
               clear n0_ n1_ n2_ n3_ n4_ n5_ n6_ n7_ n8_ n9_ n10_ n11_ n12_
               refine start_ (n := 24) (S := fun w' => w'.cell? ⟨gb142, 0, none⟩ = some (.int .i64 t136) ∧ w'.cell? ⟨gb142, 1, none⟩ = some (.slice Ao28 t137.length co28) ∧ w'.cell? ⟨gb141, 0, none⟩ = some (.int .i64 t132) ∧ w'.cell? ⟨gb141, 1, none⟩ = some (.slice Ao26 t133.length co26) ∧ w'.cell? ⟨gb157, 0, none⟩ = some (.int .i64 t151) ∧ w'.cell? ⟨gb157, 1, none⟩ = some (.slice Ao52 t152.length co52) ∧ w'.cell? ⟨gb156, 0, none⟩ = some (.int .i64 t147) ∧ w'.cell? ⟨gb156, 1, none⟩ = some (.slice Ao47 t148.length co47)) (ds := []) #[false, false, false, false, false, false, false, false, false, false, false, false, false, false, false, false, false, false, false, false, false, false, false, false] (by kernel_rfl) rfl rfl ⟨(zL BK142.out 0).trans rfl, (zL BK142.out 1).trans rfl, (zL BK141.out 0).trans rfl, (zL BK141.out 1).trans rfl, (zL BK157.out 0).trans rfl, (zL BK157.out 1).trans rfl, (zL BK156.out 0).trans rfl, (zL BK156.out 1).trans rfl⟩ (fun hHeld => ?_); refine with_tabW quarrylaw07_QuotesBehind.tab18 quarrylaw07_QuotesBehind.bits18 (fun HT_ HW_ => ?_)
               generalize wr.drew = w115 at HO_141001 HO_142001 HO_143001 HO_156001 HO_157001 HO_158001 BK140 BK141 BK142 BK155 BK156 BK157 HB hHeld ⊢
               refine pure_ (i := 1) (N := some 90) (v := ?_) (a' := ?_) #[false, true, false, false, false, false, false, false, false, false, false, false, false, false, false, false, false, false, false, false, false, false, false, false] rfl rfl (any_of HT_.out (by kernel_rfl)) (fun _ _ _ h => h) (Or.inl ⟨by rfl, ?_⟩) ?_ ?_
               rotate_left
               ·intro w'
                go_simp
                with_reducible rfl
               rotate_left
               ·simp only [Act.put, zA, zB, zC, i64_w, i32_w]
                rfl
               refine pure_ (i := 2) (N := some 91) (v := ?_) (a' := ?_) #[false, true, true, false, false, false, false, false, false, false, false, false, false, false, false, false, false, false, false, false, false, false, false, false] rfl rfl (any_of HT_.out (by kernel_rfl)) (fun _ _ _ h => h) (Or.inl ⟨by rfl, ?_⟩) ?_ ?_
               rotate_left
               ·intro w'
                go_simp
                with_reducible rfl
               rotate_left
               ·simp only [Act.put, zA, zB, zC, i64_w, i32_w]
                rfl
               refine pure_ (i := 3) (N := some 92) (v := ?_) (a' := ?_) #[false, true, true, true, false, false, false, false, false, false, false, false, false, false, false, false, false, false, false, false, false, false, false, false] rfl rfl (any_of HT_.out (by kernel_rfl)) (fun _ _ _ h => h) (Or.inl ⟨by rfl, ?_⟩) ?_ ?_
               rotate_left
               ·intro w'
                go_simp
                with_reducible rfl
               rotate_left
               ·simp only [Act.put, zA, zB, zC, i64_w, i32_w]
                rfl
               refine pure_ (i := 4) (N := some 93) (v := ?_) (a' := ?_) #[false, true, true, true, true, false, false, false, false, false, false, false, false, false, false, false, false, false, false, false, false, false, false, false] rfl rfl (any_of HT_.out (by kernel_rfl)) (fun _ _ _ h => h) (Or.inl ⟨by rfl, ?_⟩) ?_ ?_
               rotate_left
               ·intro w'
                go_simp
                with_reducible rfl
               rotate_left
               ·simp only [Act.put, zA, zB, zC, i64_w, i32_w]
                rfl
               refine pure_ (i := 7) (N := some 96) (v := ?_) (a' := ?_) #[false, true, true, true, true, false, false, true, false, false, false, false, false, false, false, false, false, false, false, false, false, false, false, false] rfl rfl (any_of HT_.out (by kernel_rfl)) (fun _ _ _ h => h) (Or.inl ⟨by rfl, ?_⟩) ?_ ?_
               rotate_left
               ·intro w'
                go_simp
                with_reducible rfl
               rotate_left
               ·simp only [Act.put, zA, zB, zC, i64_w, i32_w]
                rfl
               refine take_ (i := 0) (N := some 89) (v := ?_) (a' := ?_) #[true, true, true, true, true, false, false, true, false, false, false, false, false, false, false, false, false, false, false, false, false, false, false, false] rfl rfl (take_ofW HT_.out HW_.out (by kernel_rfl)) (fun _ _ _ h => h) (Or.inl ⟨by rfl, ?_⟩) hHeld ?_ ?_
               rotate_left
               ·rintro w' ⟨s0, s1, s2, s3, s4, s5, s6, s7⟩
                go_simp
                with_reducible rfl
               rotate_left
               ·simp only [Act.put, zA, zB, zC, i64_w, i32_w]
                rfl
               refine take_ (i := 6) (N := some 95) (v := ?_) (a' := ?_) #[true, true, true, true, true, false, true, true, false, false, false, false, false, false, false, false, false, false, false, false, false, false, false, false] rfl rfl (take_ofW HT_.out HW_.out (by kernel_rfl)) (fun _ _ _ h => h) (Or.inl ⟨by rfl, ?_⟩) hHeld ?_ ?_
               rotate_left
               ·rintro w' ⟨s0, s1, s2, s3, s4, s5, s6, s7⟩
                go_simp
                with_reducible rfl
               rotate_left
               ·simp only [Act.put, zA, zB, zC, i64_w, i32_w]
                rfl
               refine one_ (i := 5) (N := some 94) #[true, true, true, true, true, true, true, true, false, false, false, false, false, false, false, false, false, false, false, false, false, false, false, false] rfl rfl (one_of HT_.out (by kernel_rfl)) (by decide) (fun K hK => ?_)
               refine goes_ Tryd.func36 (by kernel_rfl) rfl #[.agg #[.int .i64 t136, .slice Ao28 t137.length co28], .int .i64 (wrap64 ((a0.size : Int) + x13_3))] (by rfl) rfl rfl (by (try simp only [List.map_toArray, List.map_cons, List.map_nil]); first | done | rfl | (simp only [List.length_drop, List.length_take]; rfl)) ?_
               with_reducible refine (bitmap_Get.calls t136 _ _ t137 (wrap64 ((a0.size : Int) + x13_3)) t167 _ ?side1 ?side2 A106.out).mono ?_
               (case side1 => repeat (first | exact (Kd.R_reads' HO_143001.out).2.2 | (with_reducible refine Kd.C_alloc ?_ _) | (with_reducible refine Kd.C_drewN ?_ _) | (with_reducible refine Kd.C_drew ?_)))
               (case side2 => exact (Kd.R_reads' HO_143001.out).2.1)
               rintro e w116 ⟨rfl, hb⟩
               refine ⟨_, rfl, ?_⟩
               have n0_ := zS (zK (by (with_reducible repeat (first | apply zG | apply zH | apply zI)); exact HO_141001.out) hb)
               have n1_ := zS (zK (by (with_reducible repeat (first | apply zG | apply zH | apply zI)); exact HO_142001.out) hb)
               have n2_ := zS (zK (by (with_reducible repeat (first | apply zG | apply zH | apply zI)); exact HO_143001.out) hb)
               have n3_ := zS (zK (by (with_reducible repeat (first | apply zG | apply zH | apply zI)); exact HO_156001.out) hb)
               have n4_ := zS (zK (by (with_reducible repeat (first | apply zG | apply zH | apply zI)); exact HO_157001.out) hb)
               have n5_ := zS (zK (by (with_reducible repeat (first | apply zG | apply zH | apply zI)); exact HO_158001.out) hb)
               have n6_ := zS (zM (g := gb140) (o := .cells #[.int .i64 t128, .slice Ao23 t129.length co23] 38 (0, 0)) (by (with_reducible repeat (first | refine zD ?_ _ | refine zE ?_ | refine zF ?_ _)); exact BK140.out) hb)
               have n7_ := zS (zM (g := gb141) (o := .cells #[.int .i64 t132, .slice Ao26 t133.length co26] 38 (0, 0)) (by (with_reducible repeat (first | refine zD ?_ _ | refine zE ?_ | refine zF ?_ _)); exact BK141.out) hb)
               have n8_ := zS (zM (g := gb142) (o := .cells #[.int .i64 t136, .slice Ao28 t137.length co28] 38 (0, 0)) (by (with_reducible repeat (first | refine zD ?_ _ | refine zE ?_ | refine zF ?_ _)); exact BK142.out) hb)
               have n9_ := zS (zM (g := gb155) (o := .cells #[.int .i64 t143, .slice Ao41 t144.length co41] 38 (0, 0)) (by (with_reducible repeat (first | refine zD ?_ _ | refine zE ?_ | refine zF ?_ _)); exact BK155.out) hb)
               have n10_ := zS (zM (g := gb156) (o := .cells #[.int .i64 t147, .slice Ao47 t148.length co47] 38 (0, 0)) (by (with_reducible repeat (first | refine zD ?_ _ | refine zE ?_ | refine zF ?_ _)); exact BK156.out) hb)
               have n11_ := zS (zM (g := gb157) (o := .cells #[.int .i64 t151, .slice Ao52 t152.length co52] 38 (0, 0)) (by (with_reducible repeat (first | refine zD ?_ _ | refine zE ?_ | refine zF ?_ _)); exact BK157.out) hb)
               have n12_ := zS (below_step (by repeat (first | (with_reducible first | exact HB.out | apply zQ | apply zN | apply zO | refine zJ ?_ GE140.out | refine zJ ?_ GE141.out | refine zJ ?_ GE142.out | refine zJ ?_ GE155.out | refine zJ ?_ GE156.out | refine zJ ?_ GE157.out) | exact HB.out)) hb)
               clear HO_141001
               clear HO_142001
               clear HO_143001
               clear HO_156001
               clear HO_157001
               clear HO_158001
               clear BK140
               clear BK141
               clear BK142
               clear BK155
               clear BK156
               clear BK157
               clear HB
               have HO_141001 := n0_
               have HO_142001 := n1_
               have HO_143001 := n2_
               have HO_156001 := n3_
               have HO_157001 := n4_
               have HO_158001 := n5_
               have BK140 := n6_
               have BK141 := n7_
               have BK142 := n8_
               have BK155 := n9_
               have BK156 := n10_
               have BK157 := n11_
               have HB := n12_
               clear n0_ n1_ n2_ n3_ n4_ n5_ n6_ n7_ n8_ n9_ n10_ n11_ n12_
               (try clear hb)
               (try clear hb2)
               (try clear hk)
               (try clear hi)
               refine hK.out _ _ ⟨(zL BK142.out 0).trans rfl, (zL BK142.out 1).trans rfl, (zL BK141.out 0).trans rfl, (zL BK141.out 1).trans rfl, (zL BK157.out 0).trans rfl, (zL BK157.out 1).trans rfl, (zL BK156.out 0).trans rfl, (zL BK156.out 1).trans rfl⟩ (fun hHeld => ?_)
               clear hK K
               refine norm_ (a' := ?_) ?_ ?_
               rotate_left
               ·show Act.put _ (some 94) _ = _
                simp only [Act.put, zA, zB, zC, i64_w, i32_w]
                rfl
               refine one_ (i := 8) (N := some 97) #[true, true, true, true, true, true, true, true, true, false, false, false, false, false, false, false, false, false, false, false, false, false, false, false] rfl rfl (one_of HT_.out (by kernel_rfl)) (by decide) (fun K hK => ?_)
               refine goes_ Tryd.func36 (by kernel_rfl) rfl #[.agg #[.int .i64 t132, .slice Ao26 t133.length co26], .int .i64 x13_3] (by rfl) rfl rfl (by (try simp only [List.map_toArray, List.map_cons, List.map_nil]); first | done | rfl | (simp only [List.length_drop, List.length_take]; rfl)) ?_
               with_reducible refine (bitmap_Get.calls t132 _ _ t133 x13_3 t168 _ ?side1 ?side2 A107.out).mono ?_
               (case side1 => repeat (first | exact (Kd.R_reads' HO_142001.out).2.2 | (with_reducible refine Kd.C_alloc ?_ _) | (with_reducible refine Kd.C_drewN ?_ _) | (with_reducible refine Kd.C_drew ?_)))
               (case side2 => exact (Kd.R_reads' HO_142001.out).2.1)
               rintro e w117 ⟨rfl, hb⟩
               refine ⟨_, rfl, ?_⟩
               have n0_ := zS (zK (by (with_reducible repeat (first | apply zG | apply zH | apply zI)); exact HO_141001.out) hb)
               have n1_ := zS (zK (by (with_reducible repeat (first | apply zG | apply zH | apply zI)); exact HO_142001.out) hb)
               have n2_ := zS (zK (by (with_reducible repeat (first | apply zG | apply zH | apply zI)); exact HO_143001.out) hb)
               have n3_ := zS (zK (by (with_reducible repeat (first | apply zG | apply zH | apply zI)); exact HO_156001.out) hb)
               have n4_ := zS (zK (by (with_reducible repeat (first | apply zG | apply zH | apply zI)); exact HO_157001.out) hb)
               have n5_ := zS (zK (by (with_reducible repeat (first | apply zG | apply zH | apply zI)); exact HO_158001.out) hb)
               have n6_ := zS (zM (g := gb140) (o := .cells #[.int .i64 t128, .slice Ao23 t129.length co23] 38 (0, 0)) (by (with_reducible repeat (first | refine zD ?_ _ | refine zE ?_ | refine zF ?_ _)); exact BK140.out) hb)
               have n7_ := zS (zM (g := gb141) (o := .cells #[.int .i64 t132, .slice Ao26 t133.length co26] 38 (0, 0)) (by (with_reducible repeat (first | refine zD ?_ _ | refine zE ?_ | refine zF ?_ _)); exact BK141.out) hb)
               have n8_ := zS (zM (g := gb142) (o := .cells #[.int .i64 t136, .slice Ao28 t137.length co28] 38 (0, 0)) (by (with_reducible repeat (first | refine zD ?_ _ | refine zE ?_ | refine zF ?_ _)); exact BK142.out) hb)
               have n9_ := zS (zM (g := gb155) (o := .cells #[.int .i64 t143, .slice Ao41 t144.length co41] 38 (0, 0)) (by (with_reducible repeat (first | refine zD ?_ _ | refine zE ?_ | refine zF ?_ _)); exact BK155.out) hb)
               have n10_ := zS (zM (g := gb156) (o := .cells #[.int .i64 t147, .slice Ao47 t148.length co47] 38 (0, 0)) (by (with_reducible repeat (first | refine zD ?_ _ | refine zE ?_ | refine zF ?_ _)); exact BK156.out) hb)
               have n11_ := zS (zM (g := gb157) (o := .cells #[.int .i64 t151, .slice Ao52 t152.length co52] 38 (0, 0)) (by (with_reducible repeat (first | refine zD ?_ _ | refine zE ?_ | refine zF ?_ _)); exact BK157.out) hb)
               have n12_ := zS (below_step (by repeat (first | (with_reducible first | exact HB.out | apply zQ | apply zN | apply zO | refine zJ ?_ GE140.out | refine zJ ?_ GE141.out | refine zJ ?_ GE142.out | refine zJ ?_ GE155.out | refine zJ ?_ GE156.out | refine zJ ?_ GE157.out) | exact HB.out)) hb)
               clear HO_141001
               clear HO_142001
               clear HO_143001
               clear HO_156001
               clear HO_157001
               clear HO_158001
               clear BK140
               clear BK141
               clear BK142
               clear BK155
               clear BK156
               clear BK157
               clear HB
               have HO_141001 := n0_
               have HO_142001 := n1_
               have HO_143001 := n2_
               have HO_156001 := n3_
               have HO_157001 := n4_
               have HO_158001 := n5_
               have BK140 := n6_
               have BK141 := n7_
               have BK142 := n8_
               have BK155 := n9_
               have BK156 := n10_
               have BK157 := n11_
               have HB := n12_
               clear n0_ n1_ n2_ n3_ n4_ n5_ n6_ n7_ n8_ n9_ n10_ n11_ n12_
               (try clear hb)
               (try clear hb2)
               (try clear hk)
               (try clear hi)
               refine hK.out _ _ ⟨(zL BK142.out 0).trans rfl, (zL BK142.out 1).trans rfl, (zL BK141.out 0).trans rfl, (zL BK141.out 1).trans rfl, (zL BK157.out 0).trans rfl, (zL BK157.out 1).trans rfl, (zL BK156.out 0).trans rfl, (zL BK156.out 1).trans rfl⟩ (fun hHeld => ?_)
               clear hK K
               refine norm_ (a' := ?_) ?_ ?_
               rotate_left
               ·show Act.put _ (some 97) _ = _
                simp only [Act.put, zA, zB, zC, i64_w, i32_w]
                rfl
               refine pure_ (i := 9) (N := some 98) (v := ?_) (a' := ?_) #[true, true, true, true, true, true, true, true, true, true, false, false, false, false, false, false, false, false, false, false, false, false, false, false] rfl rfl (any_of HT_.out (by kernel_rfl)) (fun _ _ _ h => h) (Or.inl ⟨by rfl, ?_⟩) ?_ ?_
               rotate_left
               ·intro w'
                go_simp
                with_reducible rfl
               rotate_left
               ·simp only [Act.put, zA, zB, zC, i64_w, i32_w]
                rfl
               refine pure_ (i := 10) (N := some 99) (v := ?_) (a' := ?_) #[true, true, true, true, true, true, true, true, true, true, true, false, false, false, false, false, false, false, false, false, false, false, false, false] rfl rfl (any_of HT_.out (by kernel_rfl)) (fun _ _ _ h => h) (Or.inl ⟨by rfl, ?_⟩) ?_ ?_
               rotate_left
               ·intro w'
                go_simp
                with_reducible rfl
               rotate_left
               ·simp only [Act.put, zA, zB, zC, i64_w, i32_w]
                rfl
               refine pure_ (i := 12) (N := some 101) (v := ?_) (a' := ?_) #[true, true, true, true, true, true, true, true, true, true, true, false, true, false, false, false, false, false, false, false, false, false, false, false] rfl rfl (any_of HT_.out (by kernel_rfl)) (fun _ _ _ h => h) (Or.inl ⟨by rfl, ?_⟩) ?_ ?_
               rotate_left
               ·intro w'
                go_simp
                with_reducible rfl
               rotate_left
               ·simp only [Act.put, zA, zB, zC, i64_w, i32_w]
                rfl
               refine pure_ (i := 13) (N := some 102) (v := ?_) (a' := ?_) #[true, true, true, true, true, true, true, true, true, true, true, false, true, true, false, false, false, false, false, false, false, false, false, false] rfl rfl (any_of HT_.out (by kernel_rfl)) (fun _ _ _ h => h) (Or.inl ⟨by rfl, ?_⟩) ?_ ?_
               rotate_left
               ·intro w'
                go_simp
                with_reducible rfl
               rotate_left
               ·simp only [Act.put, zA, zB, zC, i64_w, i32_w]
                rfl
               refine pure_ (i := 14) (N := some 103) (v := ?_) (a' := ?_) #[true, true, true, true, true, true, true, true, true, true, true, false, true, true, true, false, false, false, false, false, false, false, false, false] rfl rfl (any_of HT_.out (by kernel_rfl)) (fun _ _ _ h => h) (Or.inl ⟨by rfl, ?_⟩) ?_ ?_
               rotate_left
               ·intro w'
                go_simp
                with_reducible rfl
               rotate_left
               ·simp only [Act.put, zA, zB, zC, i64_w, i32_w]
                rfl
               refine pure_ (i := 15) (N := some 104) (v := ?_) (a' := ?_) #[true, true, true, true, true, true, true, true, true, true, true, false, true, true, true, true, false, false, false, false, false, false, false, false] rfl rfl (any_of HT_.out (by kernel_rfl)) (fun _ _ _ h => h) (Or.inl ⟨by rfl, ?_⟩) ?_ ?_
               rotate_left
               ·intro w'
                go_simp
                with_reducible rfl
               rotate_left
               ·simp only [Act.put, zA, zB, zC, i64_w, i32_w]
                rfl
               refine pure_ (i := 18) (N := some 107) (v := ?_) (a' := ?_) #[true, true, true, true, true, true, true, true, true, true, true, false, true, true, true, true, false, false, true, false, false, false, false, false] rfl rfl (any_of HT_.out (by kernel_rfl)) (fun _ _ _ h => h) (Or.inl ⟨by rfl, ?_⟩) ?_ ?_
               rotate_left
               ·intro w'
                go_simp
                with_reducible rfl
               rotate_left
               ·simp only [Act.put, zA, zB, zC, i64_w, i32_w]
                rfl
               refine pure_ (i := 20) (N := some 109) (v := ?_) (a' := ?_) #[true, true, true, true, true, true, true, true, true, true, true, false, true, true, true, true, false, false, true, false, true, false, false, false] rfl rfl (any_of HT_.out (by kernel_rfl)) (fun _ _ _ h => h) (Or.inl ⟨by rfl, ?_⟩) ?_ ?_
               rotate_left
               ·intro w'
                go_simp
                with_reducible rfl
               rotate_left
               ·simp only [Act.put, zA, zB, zC, i64_w, i32_w]
                rfl
               refine take_ (i := 11) (N := some 100) (v := ?_) (a' := ?_) #[true, true, true, true, true, true, true, true, true, true, true, true, true, true, true, true, false, false, true, false, true, false, false, false] rfl rfl (take_ofW HT_.out HW_.out (by kernel_rfl)) (fun _ _ _ h => h) (Or.inl ⟨by rfl, ?_⟩) hHeld ?_ ?_
               rotate_left
               ·rintro w' ⟨s0, s1, s2, s3, s4, s5, s6, s7⟩
                go_simp
                with_reducible rfl
               rotate_left
               ·simp only [Act.put, zA, zB, zC, i64_w, i32_w]
                rfl
               refine take_ (i := 17) (N := some 106) (v := ?_) (a' := ?_) #[true, true, true, true, true, true, true, true, true, true, true, true, true, true, true, true, false, true, true, false, true, false, false, false] rfl rfl (take_ofW HT_.out HW_.out (by kernel_rfl)) (fun _ _ _ h => h) (Or.inl ⟨by rfl, ?_⟩) hHeld ?_ ?_
               rotate_left
               ·rintro w' ⟨s0, s1, s2, s3, s4, s5, s6, s7⟩
                go_simp
                with_reducible rfl
               rotate_left
               ·simp only [Act.put, zA, zB, zC, i64_w, i32_w]
                rfl
               refine one_ (i := 16) (N := some 105) #[true, true, true, true, true, true, true, true, true, true, true, true, true, true, true, true, true, true, true, false, true, false, false, false] rfl rfl (one_of HT_.out (by kernel_rfl)) (by decide) (fun K hK => ?_)
               refine goes_ Tryd.func36 (by kernel_rfl) rfl #[.agg #[.int .i64 t151, .slice Ao52 t152.length co52], .int .i64 (wrap64 ((a0.size : Int) + x13_3))] (by rfl) rfl rfl (by (try simp only [List.map_toArray, List.map_cons, List.map_nil]); first | done | rfl | (simp only [List.length_drop, List.length_take]; rfl)) ?_
               with_reducible refine (bitmap_Get.calls t151 _ _ t152 (wrap64 ((a0.size : Int) + x13_3)) t169 _ ?side1 ?side2 A112.out).mono ?_
               (case side1 => repeat (first | exact (Kd.R_reads' HO_158001.out).2.2 | (with_reducible refine Kd.C_alloc ?_ _) | (with_reducible refine Kd.C_drewN ?_ _) | (with_reducible refine Kd.C_drew ?_)))
               (case side2 => exact (Kd.R_reads' HO_158001.out).2.1)
               rintro e w118 ⟨rfl, hb⟩
               refine ⟨_, rfl, ?_⟩
               have n0_ := zS (zK (by (with_reducible repeat (first | apply zG | apply zH | apply zI)); exact HO_141001.out) hb)
               have n1_ := zS (zK (by (with_reducible repeat (first | apply zG | apply zH | apply zI)); exact HO_142001.out) hb)
               have n2_ := zS (zK (by (with_reducible repeat (first | apply zG | apply zH | apply zI)); exact HO_143001.out) hb)
               have n3_ := zS (zK (by (with_reducible repeat (first | apply zG | apply zH | apply zI)); exact HO_156001.out) hb)
               have n4_ := zS (zK (by (with_reducible repeat (first | apply zG | apply zH | apply zI)); exact HO_157001.out) hb)
               have n5_ := zS (zK (by (with_reducible repeat (first | apply zG | apply zH | apply zI)); exact HO_158001.out) hb)
               have n6_ := zS (zM (g := gb140) (o := .cells #[.int .i64 t128, .slice Ao23 t129.length co23] 38 (0, 0)) (by (with_reducible repeat (first | refine zD ?_ _ | refine zE ?_ | refine zF ?_ _)); exact BK140.out) hb)
               have n7_ := zS (zM (g := gb141) (o := .cells #[.int .i64 t132, .slice Ao26 t133.length co26] 38 (0, 0)) (by (with_reducible repeat (first | refine zD ?_ _ | refine zE ?_ | refine zF ?_ _)); exact BK141.out) hb)
               have n8_ := zS (zM (g := gb142) (o := .cells #[.int .i64 t136, .slice Ao28 t137.length co28] 38 (0, 0)) (by (with_reducible repeat (first | refine zD ?_ _ | refine zE ?_ | refine zF ?_ _)); exact BK142.out) hb)
               have n9_ := zS (zM (g := gb155) (o := .cells #[.int .i64 t143, .slice Ao41 t144.length co41] 38 (0, 0)) (by (with_reducible repeat (first | refine zD ?_ _ | refine zE ?_ | refine zF ?_ _)); exact BK155.out) hb)
               have n10_ := zS (zM (g := gb156) (o := .cells #[.int .i64 t147, .slice Ao47 t148.length co47] 38 (0, 0)) (by (with_reducible repeat (first | refine zD ?_ _ | refine zE ?_ | refine zF ?_ _)); exact BK156.out) hb)
               have n11_ := zS (zM (g := gb157) (o := .cells #[.int .i64 t151, .slice Ao52 t152.length co52] 38 (0, 0)) (by (with_reducible repeat (first | refine zD ?_ _ | refine zE ?_ | refine zF ?_ _)); exact BK157.out) hb)
               have n12_ := zS (below_step (by repeat (first | (with_reducible first | exact HB.out | apply zQ | apply zN | apply zO | refine zJ ?_ GE140.out | refine zJ ?_ GE141.out | refine zJ ?_ GE142.out | refine zJ ?_ GE155.out | refine zJ ?_ GE156.out | refine zJ ?_ GE157.out) | exact HB.out)) hb)
               clear HO_141001
               clear HO_142001
               clear HO_143001
               clear HO_156001
               clear HO_157001
               clear HO_158001
               clear BK140
               clear BK141
               clear BK142
               clear BK155
               clear BK156
               clear BK157
               clear HB
               have HO_141001 := n0_
               have HO_142001 := n1_
               have HO_143001 := n2_
               have HO_156001 := n3_
               have HO_157001 := n4_
               have HO_158001 := n5_
               have BK140 := n6_
               have BK141 := n7_
               have BK142 := n8_
               have BK155 := n9_
               have BK156 := n10_
               have BK157 := n11_
               have HB := n12_
               clear n0_ n1_ n2_ n3_ n4_ n5_ n6_ n7_ n8_ n9_ n10_ n11_ n12_
               (try clear hb)
               (try clear hb2)
               (try clear hk)
               (try clear hi)
               refine hK.out _ _ ⟨(zL BK142.out 0).trans rfl, (zL BK142.out 1).trans rfl, (zL BK141.out 0).trans rfl, (zL BK141.out 1).trans rfl, (zL BK157.out 0).trans rfl, (zL BK157.out 1).trans rfl, (zL BK156.out 0).trans rfl, (zL BK156.out 1).trans rfl⟩ (fun hHeld => ?_)
               clear hK K
               refine norm_ (a' := ?_) ?_ ?_
               rotate_left
               ·show Act.put _ (some 105) _ = _
                simp only [Act.put, zA, zB, zC, i64_w, i32_w]
                rfl
               refine one_ (i := 19) (N := some 108) #[true, true, true, true, true, true, true, true, true, true, true, true, true, true, true, true, true, true, true, true, true, false, false, false] rfl rfl (one_of HT_.out (by kernel_rfl)) (by decide) (fun K hK => ?_)
               refine goes_ Tryd.func36 (by kernel_rfl) rfl #[.agg #[.int .i64 t147, .slice Ao47 t148.length co47], .int .i64 x13_3] (by rfl) rfl rfl (by (try simp only [List.map_toArray, List.map_cons, List.map_nil]); first | done | rfl | (simp only [List.length_drop, List.length_take]; rfl)) ?_
               with_reducible refine (bitmap_Get.calls t147 _ _ t148 x13_3 t170 _ ?side1 ?side2 A113.out).mono ?_
               (case side1 => repeat (first | exact (Kd.R_reads' HO_157001.out).2.2 | (with_reducible refine Kd.C_alloc ?_ _) | (with_reducible refine Kd.C_drewN ?_ _) | (with_reducible refine Kd.C_drew ?_)))
               (case side2 => exact (Kd.R_reads' HO_157001.out).2.1)
               rintro e w119 ⟨rfl, hb⟩
               refine ⟨_, rfl, ?_⟩
               have n0_ := zS (zK (by (with_reducible repeat (first | apply zG | apply zH | apply zI)); exact HO_141001.out) hb)
               have n1_ := zS (zK (by (with_reducible repeat (first | apply zG | apply zH | apply zI)); exact HO_142001.out) hb)
               have n2_ := zS (zK (by (with_reducible repeat (first | apply zG | apply zH | apply zI)); exact HO_143001.out) hb)
               have n3_ := zS (zK (by (with_reducible repeat (first | apply zG | apply zH | apply zI)); exact HO_156001.out) hb)
               have n4_ := zS (zK (by (with_reducible repeat (first | apply zG | apply zH | apply zI)); exact HO_157001.out) hb)
               have n5_ := zS (zK (by (with_reducible repeat (first | apply zG | apply zH | apply zI)); exact HO_158001.out) hb)
               have n6_ := zS (zM (g := gb140) (o := .cells #[.int .i64 t128, .slice Ao23 t129.length co23] 38 (0, 0)) (by (with_reducible repeat (first | refine zD ?_ _ | refine zE ?_ | refine zF ?_ _)); exact BK140.out) hb)
               have n7_ := zS (zM (g := gb141) (o := .cells #[.int .i64 t132, .slice Ao26 t133.length co26] 38 (0, 0)) (by (with_reducible repeat (first | refine zD ?_ _ | refine zE ?_ | refine zF ?_ _)); exact BK141.out) hb)
               have n8_ := zS (zM (g := gb142) (o := .cells #[.int .i64 t136, .slice Ao28 t137.length co28] 38 (0, 0)) (by (with_reducible repeat (first | refine zD ?_ _ | refine zE ?_ | refine zF ?_ _)); exact BK142.out) hb)
               have n9_ := zS (zM (g := gb155) (o := .cells #[.int .i64 t143, .slice Ao41 t144.length co41] 38 (0, 0)) (by (with_reducible repeat (first | refine zD ?_ _ | refine zE ?_ | refine zF ?_ _)); exact BK155.out) hb)
               have n10_ := zS (zM (g := gb156) (o := .cells #[.int .i64 t147, .slice Ao47 t148.length co47] 38 (0, 0)) (by (with_reducible repeat (first | refine zD ?_ _ | refine zE ?_ | refine zF ?_ _)); exact BK156.out) hb)
               have n11_ := zS (zM (g := gb157) (o := .cells #[.int .i64 t151, .slice Ao52 t152.length co52] 38 (0, 0)) (by (with_reducible repeat (first | refine zD ?_ _ | refine zE ?_ | refine zF ?_ _)); exact BK157.out) hb)
               have n12_ := zS (below_step (by repeat (first | (with_reducible first | exact HB.out | apply zQ | apply zN | apply zO | refine zJ ?_ GE140.out | refine zJ ?_ GE141.out | refine zJ ?_ GE142.out | refine zJ ?_ GE155.out | refine zJ ?_ GE156.out | refine zJ ?_ GE157.out) | exact HB.out)) hb)
               clear HO_141001
               clear HO_142001
               clear HO_143001
               clear HO_156001
               clear HO_157001
               clear HO_158001
               clear BK140
               clear BK141
               clear BK142
               clear BK155
               clear BK156
               clear BK157
               clear HB
               have HO_141001 := n0_
               have HO_142001 := n1_
               have HO_143001 := n2_
               have HO_156001 := n3_
               have HO_157001 := n4_
               have HO_158001 := n5_
               have BK140 := n6_
               have BK141 := n7_
               have BK142 := n8_
               have BK155 := n9_
               have BK156 := n10_
               have BK157 := n11_
               have HB := n12_
               clear n0_ n1_ n2_ n3_ n4_ n5_ n6_ n7_ n8_ n9_ n10_ n11_ n12_
               (try clear hb)
               (try clear hb2)
               (try clear hk)
               (try clear hi)
               refine hK.out _ _ ⟨(zL BK142.out 0).trans rfl, (zL BK142.out 1).trans rfl, (zL BK141.out 0).trans rfl, (zL BK141.out 1).trans rfl, (zL BK157.out 0).trans rfl, (zL BK157.out 1).trans rfl, (zL BK156.out 0).trans rfl, (zL BK156.out 1).trans rfl⟩ (fun hHeld => ?_)
               clear hK K
               refine norm_ (a' := ?_) ?_ ?_
               rotate_left
               ·show Act.put _ (some 108) _ = _
                simp only [Act.put, zA, zB, zC, i64_w, i32_w]
                rfl
               refine pure_ (i := 21) (N := some 110) (v := ?_) (a' := ?_) #[true, true, true, true, true, true, true, true, true, true, true, true, true, true, true, true, true, true, true, true, true, true, false, false] rfl rfl (any_of HT_.out (by kernel_rfl)) (fun _ _ _ h => h) (Or.inl ⟨by rfl, ?_⟩) ?_ ?_
               rotate_left
               ·intro w'
                go_simp
                with_reducible rfl
               rotate_left
               ·simp only [Act.put, zA, zB, zC, i64_w, i32_w]
                rfl
               refine pure_ (i := 22) (N := some 111) (v := ?_) (a' := ?_) #[true, true, true, true, true, true, true, true, true, true, true, true, true, true, true, true, true, true, true, true, true, true, true, false] rfl rfl (any_of HT_.out (by kernel_rfl)) (fun _ _ _ h => h) (Or.inl ⟨by rfl, ?_⟩) ?_ ?_
               rotate_left
               ·intro w'
                go_simp
                with_reducible rfl
               rotate_left
               ·simp only [Act.put, zA, zB, zC, i64_w, i32_w]
                rfl
               refine pure_ (i := 23) (N := some 112) (v := ?_) (a' := ?_) #[true, true, true, true, true, true, true, true, true, true, true, true, true, true, true, true, true, true, true, true, true, true, true, true] rfl rfl (any_of HT_.out (by kernel_rfl)) (fun _ _ _ h => h) (Or.inl ⟨by rfl, ?_⟩) ?_ ?_
               rotate_left
               ·intro w'
                go_simp
                with_reducible rfl
               rotate_left
               ·simp only [Act.put, zA, zB, zC, i64_w, i32_w]
                rfl
               refine done_ (done_of HT_.out (by kernel_rfl)) ?_
               try go_wp2
               go_ret
               exact ⟨by first | rfl | (simp [errW_none, errW_some] <;> rfl) | (simp [*, errW_none, errW_some] <;> rfl), by repeat (first | (with_reducible first | exact HB.out | apply zQ | apply zN | apply zO | refine zJ ?_ GE140.out | refine zJ ?_ GE141.out | refine zJ ?_ GE142.out | refine zJ ?_ GE155.out | refine zJ ?_ GE156.out | refine zJ ?_ GE157.out) | exact HB.out)⟩
              ·rw [if_neg c114] at H
               have c114b0 : (t169 != (t170 != t164)) = false := by simpa using c114
               have c114x : (!(t169 == !(t170 == t164))) = false := by revert c114b0; cases t169 <;> cases t170 <;> cases t164 <;> decide
               have c114y : (t169 == !(t170 == t164)) = true := by revert c114b0; cases t169 <;> cases t170 <;> cases t164 <;> decide
               (try (have c114b1 : decide (t169 = (t170 != t164)) = true := by simpa using c114))
               (try (have c114b2 : (t169 == (t170 != t164)) = true := by simpa using c114))
               clear c114
               have H' := zS H
               clear H
               try go_wp2
               have n0_ := zS (zI HO_141001.out)
               have n1_ := zS (zI HO_142001.out)
               have n2_ := zS (zI HO_143001.out)
               have n3_ := zS (zI HO_156001.out)
               have n4_ := zS (zI HO_157001.out)
               have n5_ := zS (zI HO_158001.out)
               have n6_ := zS (zE BK140.out)
               have n7_ := zS (zE BK141.out)
               have n8_ := zS (zE BK142.out)
               have n9_ := zS (zE BK155.out)
               have n10_ := zS (zE BK156.out)
               have n11_ := zS (zE BK157.out)
               have n12_ := zS (zO HB.out)
               clear HO_141001
               clear HO_142001
               clear HO_143001
               clear HO_156001
               clear HO_157001
               clear HO_158001
               clear BK140
               clear BK141
               clear BK142
               clear BK155
               clear BK156
               clear BK157
               clear HB
               have HO_141001 := n0_
               have HO_142001 := n1_
               have HO_143001 := n2_
               have HO_156001 := n3_
               have HO_157001 := n4_
               have HO_158001 := n5_
               have BK140 := n6_
               have BK141 := n7_
               have BK142 := n8_
               have BK155 := n9_
               have BK156 := n10_
               have BK157 := n11_
               have HB := n12_
               clear n0_ n1_ n2_ n3_ n4_ n5_ n6_ n7_ n8_ n9_ n10_ n11_ n12_
               refine start_ (n := 24) (S := fun w' => w'.cell? ⟨gb142, 0, none⟩ = some (.int .i64 t136) ∧ w'.cell? ⟨gb142, 1, none⟩ = some (.slice Ao28 t137.length co28) ∧ w'.cell? ⟨gb141, 0, none⟩ = some (.int .i64 t132) ∧ w'.cell? ⟨gb141, 1, none⟩ = some (.slice Ao26 t133.length co26) ∧ w'.cell? ⟨gb157, 0, none⟩ = some (.int .i64 t151) ∧ w'.cell? ⟨gb157, 1, none⟩ = some (.slice Ao52 t152.length co52) ∧ w'.cell? ⟨gb156, 0, none⟩ = some (.int .i64 t147) ∧ w'.cell? ⟨gb156, 1, none⟩ = some (.slice Ao47 t148.length co47)) (ds := []) #[false, false, false, false, false, false, false, false, false, false, false, false, false, false, false, false, false, false, false, false, false, false, false, false] (by kernel_rfl) rfl rfl ⟨(zL BK142.out 0).trans rfl, (zL BK142.out 1).trans rfl, (zL BK141.out 0).trans rfl, (zL BK141.out 1).trans rfl, (zL BK157.out 0).trans rfl, (zL BK157.out 1).trans rfl, (zL BK156.out 0).trans rfl, (zL BK156.out 1).trans rfl⟩ (fun hHeld => ?_); refine with_tabW quarrylaw07_QuotesBehind.tab18 quarrylaw07_QuotesBehind.bits18 (fun HT_ HW_ => ?_)
               generalize wr.drew = w120 at HO_141001 HO_142001 HO_143001 HO_156001 HO_157001 HO_158001 BK140 BK141 BK142 BK155 BK156 BK157 HB hHeld ⊢
               refine pure_ (i := 1) (N := some 90) (v := ?_) (a' := ?_) #[false, true, false, false, false, false, false, false, false, false, false, false, false, false, false, false, false, false, false, false, false, false, false, false] rfl rfl (any_of HT_.out (by kernel_rfl)) (fun _ _ _ h => h) (Or.inl ⟨by rfl, ?_⟩) ?_ ?_
               rotate_left
               ·intro w'
                go_simp
                with_reducible rfl
               rotate_left
               ·simp only [Act.put, zA, zB, zC, i64_w, i32_w]
                rfl
               refine pure_ (i := 2) (N := some 91) (v := ?_) (a' := ?_) #[false, true, true, false, false, false, false, false, false, false, false, false, false, false, false, false, false, false, false, false, false, false, false, false] rfl rfl (any_of HT_.out (by kernel_rfl)) (fun _ _ _ h => h) (Or.inl ⟨by rfl, ?_⟩) ?_ ?_
               rotate_left
               ·intro w'
                go_simp
                with_reducible rfl
               rotate_left
               ·simp only [Act.put, zA, zB, zC, i64_w, i32_w]
                rfl
               refine pure_ (i := 3) (N := some 92) (v := ?_) (a' := ?_) #[false, true, true, true, false, false, false, false, false, false, false, false, false, false, false, false, false, false, false, false, false, false, false, false] rfl rfl (any_of HT_.out (by kernel_rfl)) (fun _ _ _ h => h) (Or.inl ⟨by rfl, ?_⟩) ?_ ?_
               rotate_left
               ·intro w'
                go_simp
                with_reducible rfl
               rotate_left
               ·simp only [Act.put, zA, zB, zC, i64_w, i32_w]
                rfl
               refine pure_ (i := 4) (N := some 93) (v := ?_) (a' := ?_) #[false, true, true, true, true, false, false, false, false, false, false, false, false, false, false, false, false, false, false, false, false, false, false, false] rfl rfl (any_of HT_.out (by kernel_rfl)) (fun _ _ _ h => h) (Or.inl ⟨by rfl, ?_⟩) ?_ ?_
               rotate_left
               ·intro w'
                go_simp
                with_reducible rfl
               rotate_left
               ·simp only [Act.put, zA, zB, zC, i64_w, i32_w]
                rfl
               refine pure_ (i := 7) (N := some 96) (v := ?_) (a' := ?_) #[false, true, true, true, true, false, false, true, false, false, false, false, false, false, false, false, false, false, false, false, false, false, false, false] rfl rfl (any_of HT_.out (by kernel_rfl)) (fun _ _ _ h => h) (Or.inl ⟨by rfl, ?_⟩) ?_ ?_
               rotate_left
               ·intro w'
                go_simp
                with_reducible rfl
               rotate_left
               ·simp only [Act.put, zA, zB, zC, i64_w, i32_w]
                rfl
               refine take_ (i := 0) (N := some 89) (v := ?_) (a' := ?_) #[true, true, true, true, true, false, false, true, false, false, false, false, false, false, false, false, false, false, false, false, false, false, false, false] rfl rfl (take_ofW HT_.out HW_.out (by kernel_rfl)) (fun _ _ _ h => h) (Or.inl ⟨by rfl, ?_⟩) hHeld ?_ ?_
               rotate_left
               ·rintro w' ⟨s0, s1, s2, s3, s4, s5, s6, s7⟩
                go_simp
                with_reducible rfl
               rotate_left
               ·simp only [Act.put, zA, zB, zC, i64_w, i32_w]
                rfl
               refine take_ (i := 6) (N := some 95) (v := ?_) (a' := ?_) #[true, true, true, true, true, false, true, true, false, false, false, false, false, false, false, false, false, false, false, false, false, false, false, false] rfl rfl (take_ofW HT_.out HW_.out (by kernel_rfl)) (fun _ _ _ h => h) (Or.inl ⟨by rfl, ?_⟩) hHeld ?_ ?_
               rotate_left
               ·rintro w' ⟨s0, s1, s2, s3, s4, s5, s6, s7⟩
                go_simp
                with_reducible rfl
               rotate_left
               ·simp only [Act.put, zA, zB, zC, i64_w, i32_w]
                rfl
               refine one_ (i := 5) (N := some 94) #[true, true, true, true, true, true, true, true, false, false, false, false, false, false, false, false, false, false, false, false, false, false, false, false] rfl rfl (one_of HT_.out (by kernel_rfl)) (by decide) (fun K hK => ?_)
               refine goes_ Tryd.func36 (by kernel_rfl) rfl #[.agg #[.int .i64 t136, .slice Ao28 t137.length co28], .int .i64 (wrap64 ((a0.size : Int) + x13_3))] (by rfl) rfl rfl (by (try simp only [List.map_toArray, List.map_cons, List.map_nil]); first | done | rfl | (simp only [List.length_drop, List.length_take]; rfl)) ?_
               with_reducible refine (bitmap_Get.calls t136 _ _ t137 (wrap64 ((a0.size : Int) + x13_3)) t167 _ ?side1 ?side2 A106.out).mono ?_
               (case side1 => repeat (first | exact (Kd.R_reads' HO_143001.out).2.2 | (with_reducible refine Kd.C_alloc ?_ _) | (with_reducible refine Kd.C_drewN ?_ _) | (with_reducible refine Kd.C_drew ?_)))
               (case side2 => exact (Kd.R_reads' HO_143001.out).2.1)
               rintro e w121 ⟨rfl, hb⟩
               refine ⟨_, rfl, ?_⟩
               have n0_ := zS (zK (by (with_reducible repeat (first | apply zG | apply zH | apply zI)); exact HO_141001.out) hb)
               have n1_ := zS (zK (by (with_reducible repeat (first | apply zG | apply zH | apply zI)); exact HO_142001.out) hb)
               have n2_ := zS (zK (by (with_reducible repeat (first | apply zG | apply zH | apply zI)); exact HO_143001.out) hb)
               have n3_ := zS (zK (by (with_reducible repeat (first | apply zG | apply zH | apply zI)); exact HO_156001.out) hb)
               have n4_ := zS (zK (by (with_reducible repeat (first | apply zG | apply zH | apply zI)); exact HO_157001.out) hb)
               have n5_ := zS (zK (by (with_reducible repeat (first | apply zG | apply zH | apply zI)); exact HO_158001.out) hb)
               have n6_ := zS (zM (g := gb140) (o := .cells #[.int .i64 t128, .slice Ao23 t129.length co23] 38 (0, 0)) (by (with_reducible repeat (first | refine zD ?_ _ | refine zE ?_ | refine zF ?_ _)); exact BK140.out) hb)
               have n7_ := zS (zM (g := gb141) (o := .cells #[.int .i64 t132, .slice Ao26 t133.length co26] 38 (0, 0)) (by (with_reducible repeat (first | refine zD ?_ _ | refine zE ?_ | refine zF ?_ _)); exact BK141.out) hb)
               have n8_ := zS (zM (g := gb142) (o := .cells #[.int .i64 t136, .slice Ao28 t137.length co28] 38 (0, 0)) (by (with_reducible repeat (first | refine zD ?_ _ | refine zE ?_ | refine zF ?_ _)); exact BK142.out) hb)
               have n9_ := zS (zM (g := gb155) (o := .cells #[.int .i64 t143, .slice Ao41 t144.length co41] 38 (0, 0)) (by (with_reducible repeat (first | refine zD ?_ _ | refine zE ?_ | refine zF ?_ _)); exact BK155.out) hb)
               have n10_ := zS (zM (g := gb156) (o := .cells #[.int .i64 t147, .slice Ao47 t148.length co47] 38 (0, 0)) (by (with_reducible repeat (first | refine zD ?_ _ | refine zE ?_ | refine zF ?_ _)); exact BK156.out) hb)
               have n11_ := zS (zM (g := gb157) (o := .cells #[.int .i64 t151, .slice Ao52 t152.length co52] 38 (0, 0)) (by (with_reducible repeat (first | refine zD ?_ _ | refine zE ?_ | refine zF ?_ _)); exact BK157.out) hb)
               have n12_ := zS (below_step (by repeat (first | (with_reducible first | exact HB.out | apply zQ | apply zN | apply zO | refine zJ ?_ GE140.out | refine zJ ?_ GE141.out | refine zJ ?_ GE142.out | refine zJ ?_ GE155.out | refine zJ ?_ GE156.out | refine zJ ?_ GE157.out) | exact HB.out)) hb)
               clear HO_141001
               clear HO_142001
               clear HO_143001
               clear HO_156001
               clear HO_157001
               clear HO_158001
               clear BK140
               clear BK141
               clear BK142
               clear BK155
               clear BK156
               clear BK157
               clear HB
               have HO_141001 := n0_
               have HO_142001 := n1_
               have HO_143001 := n2_
               have HO_156001 := n3_
               have HO_157001 := n4_
               have HO_158001 := n5_
               have BK140 := n6_
               have BK141 := n7_
               have BK142 := n8_
               have BK155 := n9_
               have BK156 := n10_
               have BK157 := n11_
               have HB := n12_
               clear n0_ n1_ n2_ n3_ n4_ n5_ n6_ n7_ n8_ n9_ n10_ n11_ n12_
               (try clear hb)
               (try clear hb2)
               (try clear hk)
               (try clear hi)
               refine hK.out _ _ ⟨(zL BK142.out 0).trans rfl, (zL BK142.out 1).trans rfl, (zL BK141.out 0).trans rfl, (zL BK141.out 1).trans rfl, (zL BK157.out 0).trans rfl, (zL BK157.out 1).trans rfl, (zL BK156.out 0).trans rfl, (zL BK156.out 1).trans rfl⟩ (fun hHeld => ?_)
               clear hK K
               refine norm_ (a' := ?_) ?_ ?_
               rotate_left
               ·show Act.put _ (some 94) _ = _
                simp only [Act.put, zA, zB, zC, i64_w, i32_w]
                rfl
               refine one_ (i := 8) (N := some 97) #[true, true, true, true, true, true, true, true, true, false, false, false, false, false, false, false, false, false, false, false, false, false, false, false] rfl rfl (one_of HT_.out (by kernel_rfl)) (by decide) (fun K hK => ?_)
               refine goes_ Tryd.func36 (by kernel_rfl) rfl #[.agg #[.int .i64 t132, .slice Ao26 t133.length co26], .int .i64 x13_3] (by rfl) rfl rfl (by (try simp only [List.map_toArray, List.map_cons, List.map_nil]); first | done | rfl | (simp only [List.length_drop, List.length_take]; rfl)) ?_
               with_reducible refine (bitmap_Get.calls t132 _ _ t133 x13_3 t168 _ ?side1 ?side2 A107.out).mono ?_
               (case side1 => repeat (first | exact (Kd.R_reads' HO_142001.out).2.2 | (with_reducible refine Kd.C_alloc ?_ _) | (with_reducible refine Kd.C_drewN ?_ _) | (with_reducible refine Kd.C_drew ?_)))
               (case side2 => exact (Kd.R_reads' HO_142001.out).2.1)
               rintro e w122 ⟨rfl, hb⟩
               refine ⟨_, rfl, ?_⟩
               have n0_ := zS (zK (by (with_reducible repeat (first | apply zG | apply zH | apply zI)); exact HO_141001.out) hb)
               have n1_ := zS (zK (by (with_reducible repeat (first | apply zG | apply zH | apply zI)); exact HO_142001.out) hb)
               have n2_ := zS (zK (by (with_reducible repeat (first | apply zG | apply zH | apply zI)); exact HO_143001.out) hb)
               have n3_ := zS (zK (by (with_reducible repeat (first | apply zG | apply zH | apply zI)); exact HO_156001.out) hb)
               have n4_ := zS (zK (by (with_reducible repeat (first | apply zG | apply zH | apply zI)); exact HO_157001.out) hb)
               have n5_ := zS (zK (by (with_reducible repeat (first | apply zG | apply zH | apply zI)); exact HO_158001.out) hb)
               have n6_ := zS (zM (g := gb140) (o := .cells #[.int .i64 t128, .slice Ao23 t129.length co23] 38 (0, 0)) (by (with_reducible repeat (first | refine zD ?_ _ | refine zE ?_ | refine zF ?_ _)); exact BK140.out) hb)
               have n7_ := zS (zM (g := gb141) (o := .cells #[.int .i64 t132, .slice Ao26 t133.length co26] 38 (0, 0)) (by (with_reducible repeat (first | refine zD ?_ _ | refine zE ?_ | refine zF ?_ _)); exact BK141.out) hb)
               have n8_ := zS (zM (g := gb142) (o := .cells #[.int .i64 t136, .slice Ao28 t137.length co28] 38 (0, 0)) (by (with_reducible repeat (first | refine zD ?_ _ | refine zE ?_ | refine zF ?_ _)); exact BK142.out) hb)
               have n9_ := zS (zM (g := gb155) (o := .cells #[.int .i64 t143, .slice Ao41 t144.length co41] 38 (0, 0)) (by (with_reducible repeat (first | refine zD ?_ _ | refine zE ?_ | refine zF ?_ _)); exact BK155.out) hb)
               have n10_ := zS (zM (g := gb156) (o := .cells #[.int .i64 t147, .slice Ao47 t148.length co47] 38 (0, 0)) (by (with_reducible repeat (first | refine zD ?_ _ | refine zE ?_ | refine zF ?_ _)); exact BK156.out) hb)
               have n11_ := zS (zM (g := gb157) (o := .cells #[.int .i64 t151, .slice Ao52 t152.length co52] 38 (0, 0)) (by (with_reducible repeat (first | refine zD ?_ _ | refine zE ?_ | refine zF ?_ _)); exact BK157.out) hb)
               have n12_ := zS (below_step (by repeat (first | (with_reducible first | exact HB.out | apply zQ | apply zN | apply zO | refine zJ ?_ GE140.out | refine zJ ?_ GE141.out | refine zJ ?_ GE142.out | refine zJ ?_ GE155.out | refine zJ ?_ GE156.out | refine zJ ?_ GE157.out) | exact HB.out)) hb)
               clear HO_141001
               clear HO_142001
               clear HO_143001
               clear HO_156001
               clear HO_157001
               clear HO_158001
               clear BK140
               clear BK141
               clear BK142
               clear BK155
               clear BK156
               clear BK157
               clear HB
               have HO_141001 := n0_
               have HO_142001 := n1_
               have HO_143001 := n2_
               have HO_156001 := n3_
               have HO_157001 := n4_
               have HO_158001 := n5_
               have BK140 := n6_
               have BK141 := n7_
               have BK142 := n8_
               have BK155 := n9_
               have BK156 := n10_
               have BK157 := n11_
               have HB := n12_
               clear n0_ n1_ n2_ n3_ n4_ n5_ n6_ n7_ n8_ n9_ n10_ n11_ n12_
               (try clear hb)
               (try clear hb2)
               (try clear hk)
               (try clear hi)
               refine hK.out _ _ ⟨(zL BK142.out 0).trans rfl, (zL BK142.out 1).trans rfl, (zL BK141.out 0).trans rfl, (zL BK141.out 1).trans rfl, (zL BK157.out 0).trans rfl, (zL BK157.out 1).trans rfl, (zL BK156.out 0).trans rfl, (zL BK156.out 1).trans rfl⟩ (fun hHeld => ?_)
               clear hK K
               refine norm_ (a' := ?_) ?_ ?_
               rotate_left
               ·show Act.put _ (some 97) _ = _
                simp only [Act.put, zA, zB, zC, i64_w, i32_w]
                rfl
               refine pure_ (i := 9) (N := some 98) (v := ?_) (a' := ?_) #[true, true, true, true, true, true, true, true, true, true, false, false, false, false, false, false, false, false, false, false, false, false, false, false] rfl rfl (any_of HT_.out (by kernel_rfl)) (fun _ _ _ h => h) (Or.inl ⟨by rfl, ?_⟩) ?_ ?_
               rotate_left
               ·intro w'
                go_simp
                with_reducible rfl
               rotate_left
               ·simp only [Act.put, zA, zB, zC, i64_w, i32_w]
                rfl
               refine pure_ (i := 10) (N := some 99) (v := ?_) (a' := ?_) #[true, true, true, true, true, true, true, true, true, true, true, false, false, false, false, false, false, false, false, false, false, false, false, false] rfl rfl (any_of HT_.out (by kernel_rfl)) (fun _ _ _ h => h) (Or.inl ⟨by rfl, ?_⟩) ?_ ?_
               rotate_left
               ·intro w'
                go_simp
                with_reducible rfl
               rotate_left
               ·simp only [Act.put, zA, zB, zC, i64_w, i32_w]
                rfl
               refine pure_ (i := 12) (N := some 101) (v := ?_) (a' := ?_) #[true, true, true, true, true, true, true, true, true, true, true, false, true, false, false, false, false, false, false, false, false, false, false, false] rfl rfl (any_of HT_.out (by kernel_rfl)) (fun _ _ _ h => h) (Or.inl ⟨by rfl, ?_⟩) ?_ ?_
               rotate_left
               ·intro w'
                go_simp
                with_reducible rfl
               rotate_left
               ·simp only [Act.put, zA, zB, zC, i64_w, i32_w]
                rfl
               refine pure_ (i := 13) (N := some 102) (v := ?_) (a' := ?_) #[true, true, true, true, true, true, true, true, true, true, true, false, true, true, false, false, false, false, false, false, false, false, false, false] rfl rfl (any_of HT_.out (by kernel_rfl)) (fun _ _ _ h => h) (Or.inl ⟨by rfl, ?_⟩) ?_ ?_
               rotate_left
               ·intro w'
                go_simp
                with_reducible rfl
               rotate_left
               ·simp only [Act.put, zA, zB, zC, i64_w, i32_w]
                rfl
               refine pure_ (i := 14) (N := some 103) (v := ?_) (a' := ?_) #[true, true, true, true, true, true, true, true, true, true, true, false, true, true, true, false, false, false, false, false, false, false, false, false] rfl rfl (any_of HT_.out (by kernel_rfl)) (fun _ _ _ h => h) (Or.inl ⟨by rfl, ?_⟩) ?_ ?_
               rotate_left
               ·intro w'
                go_simp
                with_reducible rfl
               rotate_left
               ·simp only [Act.put, zA, zB, zC, i64_w, i32_w]
                rfl
               refine pure_ (i := 15) (N := some 104) (v := ?_) (a' := ?_) #[true, true, true, true, true, true, true, true, true, true, true, false, true, true, true, true, false, false, false, false, false, false, false, false] rfl rfl (any_of HT_.out (by kernel_rfl)) (fun _ _ _ h => h) (Or.inl ⟨by rfl, ?_⟩) ?_ ?_
               rotate_left
               ·intro w'
                go_simp
                with_reducible rfl
               rotate_left
               ·simp only [Act.put, zA, zB, zC, i64_w, i32_w]
                rfl
               refine pure_ (i := 18) (N := some 107) (v := ?_) (a' := ?_) #[true, true, true, true, true, true, true, true, true, true, true, false, true, true, true, true, false, false, true, false, false, false, false, false] rfl rfl (any_of HT_.out (by kernel_rfl)) (fun _ _ _ h => h) (Or.inl ⟨by rfl, ?_⟩) ?_ ?_
               rotate_left
               ·intro w'
                go_simp
                with_reducible rfl
               rotate_left
               ·simp only [Act.put, zA, zB, zC, i64_w, i32_w]
                rfl
               refine pure_ (i := 20) (N := some 109) (v := ?_) (a' := ?_) #[true, true, true, true, true, true, true, true, true, true, true, false, true, true, true, true, false, false, true, false, true, false, false, false] rfl rfl (any_of HT_.out (by kernel_rfl)) (fun _ _ _ h => h) (Or.inl ⟨by rfl, ?_⟩) ?_ ?_
               rotate_left
               ·intro w'
                go_simp
                with_reducible rfl
               rotate_left
               ·simp only [Act.put, zA, zB, zC, i64_w, i32_w]
                rfl
               refine take_ (i := 11) (N := some 100) (v := ?_) (a' := ?_) #[true, true, true, true, true, true, true, true, true, true, true, true, true, true, true, true, false, false, true, false, true, false, false, false] rfl rfl (take_ofW HT_.out HW_.out (by kernel_rfl)) (fun _ _ _ h => h) (Or.inl ⟨by rfl, ?_⟩) hHeld ?_ ?_
               rotate_left
               ·rintro w' ⟨s0, s1, s2, s3, s4, s5, s6, s7⟩
                go_simp
                with_reducible rfl
               rotate_left
               ·simp only [Act.put, zA, zB, zC, i64_w, i32_w]
                rfl
               refine take_ (i := 17) (N := some 106) (v := ?_) (a' := ?_) #[true, true, true, true, true, true, true, true, true, true, true, true, true, true, true, true, false, true, true, false, true, false, false, false] rfl rfl (take_ofW HT_.out HW_.out (by kernel_rfl)) (fun _ _ _ h => h) (Or.inl ⟨by rfl, ?_⟩) hHeld ?_ ?_
               rotate_left
               ·rintro w' ⟨s0, s1, s2, s3, s4, s5, s6, s7⟩
                go_simp
                with_reducible rfl
               rotate_left
               ·simp only [Act.put, zA, zB, zC, i64_w, i32_w]
                rfl
               refine one_ (i := 16) (N := some 105) #[true, true, true, true, true, true, true, true, true, true, true, true, true, true, true, true, true, true, true, false, true, false, false, false] rfl rfl (one_of HT_.out (by kernel_rfl)) (by decide) (fun K hK => ?_)
               refine goes_ Tryd.func36 (by kernel_rfl) rfl #[.agg #[.int .i64 t151, .slice Ao52 t152.length co52], .int .i64 (wrap64 ((a0.size : Int) + x13_3))] (by rfl) rfl rfl (by (try simp only [List.map_toArray, List.map_cons, List.map_nil]); first | done | rfl | (simp only [List.length_drop, List.length_take]; rfl)) ?_
               with_reducible refine (bitmap_Get.calls t151 _ _ t152 (wrap64 ((a0.size : Int) + x13_3)) t169 _ ?side1 ?side2 A112.out).mono ?_
               (case side1 => repeat (first | exact (Kd.R_reads' HO_158001.out).2.2 | (with_reducible refine Kd.C_alloc ?_ _) | (with_reducible refine Kd.C_drewN ?_ _) | (with_reducible refine Kd.C_drew ?_)))
               (case side2 => exact (Kd.R_reads' HO_158001.out).2.1)
               rintro e w123 ⟨rfl, hb⟩
               refine ⟨_, rfl, ?_⟩
               have n0_ := zS (zK (by (with_reducible repeat (first | apply zG | apply zH | apply zI)); exact HO_141001.out) hb)
               have n1_ := zS (zK (by (with_reducible repeat (first | apply zG | apply zH | apply zI)); exact HO_142001.out) hb)
               have n2_ := zS (zK (by (with_reducible repeat (first | apply zG | apply zH | apply zI)); exact HO_143001.out) hb)
               have n3_ := zS (zK (by (with_reducible repeat (first | apply zG | apply zH | apply zI)); exact HO_156001.out) hb)
               have n4_ := zS (zK (by (with_reducible repeat (first | apply zG | apply zH | apply zI)); exact HO_157001.out) hb)
               have n5_ := zS (zK (by (with_reducible repeat (first | apply zG | apply zH | apply zI)); exact HO_158001.out) hb)
               have n6_ := zS (zM (g := gb140) (o := .cells #[.int .i64 t128, .slice Ao23 t129.length co23] 38 (0, 0)) (by (with_reducible repeat (first | refine zD ?_ _ | refine zE ?_ | refine zF ?_ _)); exact BK140.out) hb)
               have n7_ := zS (zM (g := gb141) (o := .cells #[.int .i64 t132, .slice Ao26 t133.length co26] 38 (0, 0)) (by (with_reducible repeat (first | refine zD ?_ _ | refine zE ?_ | refine zF ?_ _)); exact BK141.out) hb)
               have n8_ := zS (zM (g := gb142) (o := .cells #[.int .i64 t136, .slice Ao28 t137.length co28] 38 (0, 0)) (by (with_reducible repeat (first | refine zD ?_ _ | refine zE ?_ | refine zF ?_ _)); exact BK142.out) hb)
               have n9_ := zS (zM (g := gb155) (o := .cells #[.int .i64 t143, .slice Ao41 t144.length co41] 38 (0, 0)) (by (with_reducible repeat (first | refine zD ?_ _ | refine zE ?_ | refine zF ?_ _)); exact BK155.out) hb)
               have n10_ := zS (zM (g := gb156) (o := .cells #[.int .i64 t147, .slice Ao47 t148.length co47] 38 (0, 0)) (by (with_reducible repeat (first | refine zD ?_ _ | refine zE ?_ | refine zF ?_ _)); exact BK156.out) hb)
               have n11_ := zS (zM (g := gb157) (o := .cells #[.int .i64 t151, .slice Ao52 t152.length co52] 38 (0, 0)) (by (with_reducible repeat (first | refine zD ?_ _ | refine zE ?_ | refine zF ?_ _)); exact BK157.out) hb)
               have n12_ := zS (below_step (by repeat (first | (with_reducible first | exact HB.out | apply zQ | apply zN | apply zO | refine zJ ?_ GE140.out | refine zJ ?_ GE141.out | refine zJ ?_ GE142.out | refine zJ ?_ GE155.out | refine zJ ?_ GE156.out | refine zJ ?_ GE157.out) | exact HB.out)) hb)
               clear HO_141001
               clear HO_142001
               clear HO_143001
               clear HO_156001
               clear HO_157001
               clear HO_158001
               clear BK140
               clear BK141
               clear BK142
               clear BK155
               clear BK156
               clear BK157
               clear HB
               have HO_141001 := n0_
               have HO_142001 := n1_
               have HO_143001 := n2_
               have HO_156001 := n3_
               have HO_157001 := n4_
               have HO_158001 := n5_
               have BK140 := n6_
               have BK141 := n7_
               have BK142 := n8_
               have BK155 := n9_
               have BK156 := n10_
               have BK157 := n11_
               have HB := n12_
               clear n0_ n1_ n2_ n3_ n4_ n5_ n6_ n7_ n8_ n9_ n10_ n11_ n12_
               (try clear hb)
               (try clear hb2)
               (try clear hk)
               (try clear hi)
               refine hK.out _ _ ⟨(zL BK142.out 0).trans rfl, (zL BK142.out 1).trans rfl, (zL BK141.out 0).trans rfl, (zL BK141.out 1).trans rfl, (zL BK157.out 0).trans rfl, (zL BK157.out 1).trans rfl, (zL BK156.out 0).trans rfl, (zL BK156.out 1).trans rfl⟩ (fun hHeld => ?_)
               clear hK K
               refine norm_ (a' := ?_) ?_ ?_
               rotate_left
               ·show Act.put _ (some 105) _ = _
                simp only [Act.put, zA, zB, zC, i64_w, i32_w]
                rfl
               refine one_ (i := 19) (N := some 108) #[true, true, true, true, true, true, true, true, true, true, true, true, true, true, true, true, true, true, true, true, true, false, false, false] rfl rfl (one_of HT_.out (by kernel_rfl)) (by decide) (fun K hK => ?_)
               refine goes_ Tryd.func36 (by kernel_rfl) rfl #[.agg #[.int .i64 t147, .slice Ao47 t148.length co47], .int .i64 x13_3] (by rfl) rfl rfl (by (try simp only [List.map_toArray, List.map_cons, List.map_nil]); first | done | rfl | (simp only [List.length_drop, List.length_take]; rfl)) ?_
               with_reducible refine (bitmap_Get.calls t147 _ _ t148 x13_3 t170 _ ?side1 ?side2 A113.out).mono ?_
               (case side1 => repeat (first | exact (Kd.R_reads' HO_157001.out).2.2 | (with_reducible refine Kd.C_alloc ?_ _) | (with_reducible refine Kd.C_drewN ?_ _) | (with_reducible refine Kd.C_drew ?_)))
               (case side2 => exact (Kd.R_reads' HO_157001.out).2.1)
               rintro e w124 ⟨rfl, hb⟩
               refine ⟨_, rfl, ?_⟩
               have n0_ := zS (zK (by (with_reducible repeat (first | apply zG | apply zH | apply zI)); exact HO_141001.out) hb)
               have n1_ := zS (zK (by (with_reducible repeat (first | apply zG | apply zH | apply zI)); exact HO_142001.out) hb)
               have n2_ := zS (zK (by (with_reducible repeat (first | apply zG | apply zH | apply zI)); exact HO_143001.out) hb)
               have n3_ := zS (zK (by (with_reducible repeat (first | apply zG | apply zH | apply zI)); exact HO_156001.out) hb)
               have n4_ := zS (zK (by (with_reducible repeat (first | apply zG | apply zH | apply zI)); exact HO_157001.out) hb)
               have n5_ := zS (zK (by (with_reducible repeat (first | apply zG | apply zH | apply zI)); exact HO_158001.out) hb)
               have n6_ := zS (zM (g := gb140) (o := .cells #[.int .i64 t128, .slice Ao23 t129.length co23] 38 (0, 0)) (by (with_reducible repeat (first | refine zD ?_ _ | refine zE ?_ | refine zF ?_ _)); exact BK140.out) hb)
               have n7_ := zS (zM (g := gb141) (o := .cells #[.int .i64 t132, .slice Ao26 t133.length co26] 38 (0, 0)) (by (with_reducible repeat (first | refine zD ?_ _ | refine zE ?_ | refine zF ?_ _)); exact BK141.out) hb)
               have n8_ := zS (zM (g := gb142) (o := .cells #[.int .i64 t136, .slice Ao28 t137.length co28] 38 (0, 0)) (by (with_reducible repeat (first | refine zD ?_ _ | refine zE ?_ | refine zF ?_ _)); exact BK142.out) hb)
               have n9_ := zS (zM (g := gb155) (o := .cells #[.int .i64 t143, .slice Ao41 t144.length co41] 38 (0, 0)) (by (with_reducible repeat (first | refine zD ?_ _ | refine zE ?_ | refine zF ?_ _)); exact BK155.out) hb)
               have n10_ := zS (zM (g := gb156) (o := .cells #[.int .i64 t147, .slice Ao47 t148.length co47] 38 (0, 0)) (by (with_reducible repeat (first | refine zD ?_ _ | refine zE ?_ | refine zF ?_ _)); exact BK156.out) hb)
               have n11_ := zS (zM (g := gb157) (o := .cells #[.int .i64 t151, .slice Ao52 t152.length co52] 38 (0, 0)) (by (with_reducible repeat (first | refine zD ?_ _ | refine zE ?_ | refine zF ?_ _)); exact BK157.out) hb)
               have n12_ := zS (below_step (by repeat (first | (with_reducible first | exact HB.out | apply zQ | apply zN | apply zO | refine zJ ?_ GE140.out | refine zJ ?_ GE141.out | refine zJ ?_ GE142.out | refine zJ ?_ GE155.out | refine zJ ?_ GE156.out | refine zJ ?_ GE157.out) | exact HB.out)) hb)
               clear HO_141001
               clear HO_142001
               clear HO_143001
               clear HO_156001
               clear HO_157001
               clear HO_158001
               clear BK140
               clear BK141
               clear BK142
               clear BK155
               clear BK156
               clear BK157
               clear HB
               have HO_141001 := n0_
               have HO_142001 := n1_
               have HO_143001 := n2_
               have HO_156001 := n3_
               have HO_157001 := n4_
               have HO_158001 := n5_
               have BK140 := n6_
               have BK141 := n7_
               have BK142 := n8_
               have BK155 := n9_
               have BK156 := n10_
               have BK157 := n11_
               have HB := n12_
               clear n0_ n1_ n2_ n3_ n4_ n5_ n6_ n7_ n8_ n9_ n10_ n11_ n12_
               (try clear hb)
               (try clear hb2)
               (try clear hk)
               (try clear hi)
               refine hK.out _ _ ⟨(zL BK142.out 0).trans rfl, (zL BK142.out 1).trans rfl, (zL BK141.out 0).trans rfl, (zL BK141.out 1).trans rfl, (zL BK157.out 0).trans rfl, (zL BK157.out 1).trans rfl, (zL BK156.out 0).trans rfl, (zL BK156.out 1).trans rfl⟩ (fun hHeld => ?_)
               clear hK K
               refine norm_ (a' := ?_) ?_ ?_
               rotate_left
               ·show Act.put _ (some 108) _ = _
                simp only [Act.put, zA, zB, zC, i64_w, i32_w]
                rfl
               refine pure_ (i := 21) (N := some 110) (v := ?_) (a' := ?_) #[true, true, true, true, true, true, true, true, true, true, true, true, true, true, true, true, true, true, true, true, true, true, false, false] rfl rfl (any_of HT_.out (by kernel_rfl)) (fun _ _ _ h => h) (Or.inl ⟨by rfl, ?_⟩) ?_ ?_
               rotate_left
               ·intro w'
                go_simp
                with_reducible rfl
               rotate_left
               ·simp only [Act.put, zA, zB, zC, i64_w, i32_w]
                rfl
               refine pure_ (i := 22) (N := some 111) (v := ?_) (a' := ?_) #[true, true, true, true, true, true, true, true, true, true, true, true, true, true, true, true, true, true, true, true, true, true, true, false] rfl rfl (any_of HT_.out (by kernel_rfl)) (fun _ _ _ h => h) (Or.inl ⟨by rfl, ?_⟩) ?_ ?_
               rotate_left
               ·intro w'
                go_simp
                with_reducible rfl
               rotate_left
               ·simp only [Act.put, zA, zB, zC, i64_w, i32_w]
                rfl
               refine pure_ (i := 23) (N := some 112) (v := ?_) (a' := ?_) #[true, true, true, true, true, true, true, true, true, true, true, true, true, true, true, true, true, true, true, true, true, true, true, true] rfl rfl (any_of HT_.out (by kernel_rfl)) (fun _ _ _ h => h) (Or.inl ⟨by rfl, ?_⟩) ?_ ?_
               rotate_left
               ·intro w'
                go_simp
                with_reducible rfl
               rotate_left
               ·simp only [Act.put, zA, zB, zC, i64_w, i32_w]
                rfl
               refine done_ (done_of HT_.out (by kernel_rfl)) ?_
               try go_wp2
               go_roundg k3
               case measure => have := HJ11.out; have := HK2.out; have := HK3.out; omega
               case rel => exact ⟨(wrap64 (x13_3 + 1)), (by first | rfl | (simp; done) | (simp [*]; done)), H', ⟨by have := HJ11.out; have := HK2.out; have := HK3.out; omega⟩, ⟨by (with_reducible repeat (first | apply zG | apply zH | apply zI)); exact HO_141001.out⟩, ⟨by (with_reducible repeat (first | apply zG | apply zH | apply zI)); exact HO_142001.out⟩, ⟨by (with_reducible repeat (first | apply zG | apply zH | apply zI)); exact HO_143001.out⟩, ⟨by (with_reducible repeat (first | apply zG | apply zH | apply zI)); exact HO_156001.out⟩, ⟨by (with_reducible repeat (first | apply zG | apply zH | apply zI)); exact HO_157001.out⟩, ⟨by (with_reducible repeat (first | apply zG | apply zH | apply zI)); exact HO_158001.out⟩, ⟨by (with_reducible repeat (first | refine zD ?_ _ | refine zE ?_ | refine zF ?_ _)); exact BK140.out⟩, ⟨by (with_reducible repeat (first | refine zD ?_ _ | refine zE ?_ | refine zF ?_ _)); exact BK141.out⟩, ⟨by (with_reducible repeat (first | refine zD ?_ _ | refine zE ?_ | refine zF ?_ _)); exact BK142.out⟩, ⟨by (with_reducible repeat (first | refine zD ?_ _ | refine zE ?_ | refine zF ?_ _)); exact BK155.out⟩, ⟨by (with_reducible repeat (first | refine zD ?_ _ | refine zE ?_ | refine zF ?_ _)); exact BK156.out⟩, ⟨by (with_reducible repeat (first | refine zD ?_ _ | refine zE ?_ | refine zF ?_ _)); exact BK157.out⟩, ⟨by repeat (first | (with_reducible first | exact HB.out | apply zQ | apply zN | apply zO | refine zJ ?_ GE140.out | refine zJ ?_ GE141.out | refine zJ ?_ GE142.out | refine zJ ?_ GE155.out | refine zJ ?_ GE156.out | refine zJ ?_ GE157.out) | exact HB.out)⟩⟩
            ·rw [if_neg c105] at H
             have c105b0 : decide (x13_3 < (a1.size : Int)) = false := decide_eq_false c105
             clear c105
             by_cases c125 : a0.size + a1.size ≤ 9223372036854775807
             ·rw [if_pos c125] at H
              have c125b0 := eq_true c125
              have c125b1 : decide (a0.size + a1.size ≤ 9223372036854775807) = true := decide_eq_true c125
              try have c125b2 : (9223372036854775807 < a0.size + a1.size) = False := eq_false (Nat.not_lt.2 c125)
              replace H := Option.bind_eq_some_iff.mp H
              obtain ⟨t165, A1260, H⟩ := H
              replace H : ((quotes_Open.f k3 a1).bind fun t166 => (some (t165 == (t164 != t166)))) = some r := H
              have A126 := zS A1260
              clear A1260
              replace H := Option.bind_eq_some_iff.mp H
              obtain ⟨t166, A1270, H⟩ := H
              replace H : (some (t165 == (t164 != t166))) = some r := H
              have A127 := zS A1270
              clear A1270
              obtain rfl := Option.some.inj H
              go_wp2_with (first | ((with_reducible refine gate_callee (f := 26) rfl ?_); refine goesL_ (some 116) rfl rfl Tryd.func26 (by kernel_rfl) rfl #[.string (a0 ++ a1)] rfl (by (try simp only [List.map_toArray, List.map_cons, List.map_nil]); first | done | rfl | (simp only [List.length_drop, List.length_take]; rfl)) ?_; (with_reducible refine (quotes_Open.calls k3 (a0 ++ a1) t165 _ A126.out).mono ?_); rintro e w128 ⟨rfl, hb⟩; refine ⟨_, rfl, ?_⟩; have n0_ := zS (zK (by (with_reducible repeat (first | apply zG | apply zH | apply zI)); exact HO_141001.out) hb); have n1_ := zS (zK (by (with_reducible repeat (first | apply zG | apply zH | apply zI)); exact HO_142001.out) hb); have n2_ := zS (zK (by (with_reducible repeat (first | apply zG | apply zH | apply zI)); exact HO_143001.out) hb); have n3_ := zS (zK (by (with_reducible repeat (first | apply zG | apply zH | apply zI)); exact HO_156001.out) hb); have n4_ := zS (zK (by (with_reducible repeat (first | apply zG | apply zH | apply zI)); exact HO_157001.out) hb); have n5_ := zS (zK (by (with_reducible repeat (first | apply zG | apply zH | apply zI)); exact HO_158001.out) hb); have n6_ := zS (zM (g := gb140) (o := .cells #[.int .i64 t128, .slice Ao23 t129.length co23] 38 (0, 0)) (by (with_reducible repeat (first | refine zD ?_ _ | refine zE ?_ | refine zF ?_ _)); exact BK140.out) hb); have n7_ := zS (zM (g := gb141) (o := .cells #[.int .i64 t132, .slice Ao26 t133.length co26] 38 (0, 0)) (by (with_reducible repeat (first | refine zD ?_ _ | refine zE ?_ | refine zF ?_ _)); exact BK141.out) hb); have n8_ := zS (zM (g := gb142) (o := .cells #[.int .i64 t136, .slice Ao28 t137.length co28] 38 (0, 0)) (by (with_reducible repeat (first | refine zD ?_ _ | refine zE ?_ | refine zF ?_ _)); exact BK142.out) hb); have n9_ := zS (zM (g := gb155) (o := .cells #[.int .i64 t143, .slice Ao41 t144.length co41] 38 (0, 0)) (by (with_reducible repeat (first | refine zD ?_ _ | refine zE ?_ | refine zF ?_ _)); exact BK155.out) hb); have n10_ := zS (zM (g := gb156) (o := .cells #[.int .i64 t147, .slice Ao47 t148.length co47] 38 (0, 0)) (by (with_reducible repeat (first | refine zD ?_ _ | refine zE ?_ | refine zF ?_ _)); exact BK156.out) hb); have n11_ := zS (zM (g := gb157) (o := .cells #[.int .i64 t151, .slice Ao52 t152.length co52] 38 (0, 0)) (by (with_reducible repeat (first | refine zD ?_ _ | refine zE ?_ | refine zF ?_ _)); exact BK157.out) hb); have n12_ := zS (below_step (by repeat (first | (with_reducible first | exact HB.out | apply zQ | apply zN | apply zO | refine zJ ?_ GE140.out | refine zJ ?_ GE141.out | refine zJ ?_ GE142.out | refine zJ ?_ GE155.out | refine zJ ?_ GE156.out | refine zJ ?_ GE157.out) | exact HB.out)) hb); clear HO_141001; clear HO_142001; clear HO_143001; clear HO_156001; clear HO_157001; clear HO_158001; clear BK140; clear BK141; clear BK142; clear BK155; clear BK156; clear BK157; clear HB; have HO_141001 := n0_; have HO_142001 := n1_; have HO_143001 := n2_; have HO_156001 := n3_; have HO_157001 := n4_; have HO_158001 := n5_; have BK140 := n6_; have BK141 := n7_; have BK142 := n8_; have BK155 := n9_; have BK156 := n10_; have BK157 := n11_; have HB := n12_; clear n0_ n1_ n2_ n3_ n4_ n5_ n6_ n7_ n8_ n9_ n10_ n11_ n12_; (try clear hb); (try clear hb2); (try clear hk); (try clear hi)) | ((with_reducible refine gate_callee (f := 26) rfl ?_); refine goesL_ (some 119) rfl rfl Tryd.func26 (by kernel_rfl) rfl #[.string a1] rfl (by (try simp only [List.map_toArray, List.map_cons, List.map_nil]); first | done | rfl | (simp only [List.length_drop, List.length_take]; rfl)) ?_; (with_reducible refine (quotes_Open.calls k3 a1 t166 _ A127.out).mono ?_); rintro e w129 ⟨rfl, hb⟩; refine ⟨_, rfl, ?_⟩; have n0_ := zS (zK (by (with_reducible repeat (first | apply zG | apply zH | apply zI)); exact HO_141001.out) hb); have n1_ := zS (zK (by (with_reducible repeat (first | apply zG | apply zH | apply zI)); exact HO_142001.out) hb); have n2_ := zS (zK (by (with_reducible repeat (first | apply zG | apply zH | apply zI)); exact HO_143001.out) hb); have n3_ := zS (zK (by (with_reducible repeat (first | apply zG | apply zH | apply zI)); exact HO_156001.out) hb); have n4_ := zS (zK (by (with_reducible repeat (first | apply zG | apply zH | apply zI)); exact HO_157001.out) hb); have n5_ := zS (zK (by (with_reducible repeat (first | apply zG | apply zH | apply zI)); exact HO_158001.out) hb); have n6_ := zS (zM (g := gb140) (o := .cells #[.int .i64 t128, .slice Ao23 t129.length co23] 38 (0, 0)) (by (with_reducible repeat (first | refine zD ?_ _ | refine zE ?_ | refine zF ?_ _)); exact BK140.out) hb); have n7_ := zS (zM (g := gb141) (o := .cells #[.int .i64 t132, .slice Ao26 t133.length co26] 38 (0, 0)) (by (with_reducible repeat (first | refine zD ?_ _ | refine zE ?_ | refine zF ?_ _)); exact BK141.out) hb); have n8_ := zS (zM (g := gb142) (o := .cells #[.int .i64 t136, .slice Ao28 t137.length co28] 38 (0, 0)) (by (with_reducible repeat (first | refine zD ?_ _ | refine zE ?_ | refine zF ?_ _)); exact BK142.out) hb); have n9_ := zS (zM (g := gb155) (o := .cells #[.int .i64 t143, .slice Ao41 t144.length co41] 38 (0, 0)) (by (with_reducible repeat (first | refine zD ?_ _ | refine zE ?_ | refine zF ?_ _)); exact BK155.out) hb); have n10_ := zS (zM (g := gb156) (o := .cells #[.int .i64 t147, .slice Ao47 t148.length co47] 38 (0, 0)) (by (with_reducible repeat (first | refine zD ?_ _ | refine zE ?_ | refine zF ?_ _)); exact BK156.out) hb); have n11_ := zS (zM (g := gb157) (o := .cells #[.int .i64 t151, .slice Ao52 t152.length co52] 38 (0, 0)) (by (with_reducible repeat (first | refine zD ?_ _ | refine zE ?_ | refine zF ?_ _)); exact BK157.out) hb); have n12_ := zS (below_step (by repeat (first | (with_reducible first | exact HB.out | apply zQ | apply zN | apply zO | refine zJ ?_ GE140.out | refine zJ ?_ GE141.out | refine zJ ?_ GE142.out | refine zJ ?_ GE155.out | refine zJ ?_ GE156.out | refine zJ ?_ GE157.out) | exact HB.out)) hb); clear HO_141001; clear HO_142001; clear HO_143001; clear HO_156001; clear HO_157001; clear HO_158001; clear BK140; clear BK141; clear BK142; clear BK155; clear BK156; clear BK157; clear HB; have HO_141001 := n0_; have HO_142001 := n1_; have HO_143001 := n2_; have HO_156001 := n3_; have HO_157001 := n4_; have HO_158001 := n5_; have BK140 := n6_; have BK141 := n7_; have BK142 := n8_; have BK155 := n9_; have BK156 := n10_; have BK157 := n11_; have HB := n12_; clear n0_ n1_ n2_ n3_ n4_ n5_ n6_ n7_ n8_ n9_ n10_ n11_ n12_; (try clear hb); (try clear hb2); (try clear hk); (try clear hi)))
              go_ret
              exact ⟨by first | rfl | (simp [errW_none, errW_some] <;> rfl) | (simp [*, errW_none, errW_some] <;> rfl), by repeat (first | (with_reducible first | exact HB.out | apply zQ | apply zN | apply zO | refine zJ ?_ GE140.out | refine zJ ?_ GE141.out | refine zJ ?_ GE142.out | refine zJ ?_ GE155.out | refine zJ ?_ GE156.out | refine zJ ?_ GE157.out) | exact HB.out)⟩
             ·rw [if_neg c125] at H
              exact absurd H (by simp)
  ·rw [if_neg c7] at H
   exact absurd H (by simp)
 ·replace c4 := Bool.eq_false_iff.mpr c4
  subst c4
  have H1 : (some false) = some r := by rw [if_neg (show ¬ (false = true) by decide)] at H; exact H
  clear H
  have H := H1
  clear H1
  obtain rfl := Option.some.inj H
  go_enter Tryd.func10, Tryd.ntmps10
  go_wp2_with (first | ((with_reducible refine gate_callee (f := 28) rfl ?_); refine goesL_ (some 14) rfl rfl Tryd.func28 (by kernel_rfl) rfl #[] rfl (by (try simp only [List.map_toArray, List.map_cons, List.map_nil]); first | done | rfl | (simp only [List.length_drop, List.length_take]; rfl)) ?_; (with_reducible refine (quarrylaw07_awake.calls  false _ ?tabk A3.out).mono ?_); (case tabk => exact TK_.out.step (by repeat (first | (with_reducible first | exact HB.out | apply zQ | apply zN | apply zO) | exact HB.out))); rintro e w130 ⟨rfl, hb⟩; refine ⟨_, rfl, ?_⟩; have n0_ := zS (below_step (by repeat (first | (with_reducible first | exact HB.out | apply zQ | apply zN | apply zO) | exact HB.out)) hb); clear HB; have HB := n0_; clear n0_; (try clear hb); (try clear hb2); (try clear hk); (try clear hi)))
  go_ret
  exact ⟨by first | rfl | (simp [errW_none, errW_some] <;> rfl) | (simp [*, errW_none, errW_some] <;> rfl), by repeat (first | (with_reducible first | exact HB.out | apply zQ | apply zN | apply zO) | exact HB.out)⟩

/-- THE ONE PURE STATEMENT of quarrylaw07_QuotesBehind: yours. -/
def quarrylaw07_QuotesBehind.Pure : Prop := ∀ (a0 : ByteArray) (a1 : ByteArray), a0.size ≤ 140737488351232 → a1.size ≤ 140737488351232 → ∃ k, quarrylaw07_QuotesBehind.f k a0 a1 = some true
theorem quarrylaw07_QuotesBehind.walk (P : quarrylaw07_QuotesBehind.Pure) (a0 : ByteArray) (a1 : ByteArray) (w : World) (hT : TabOk w) (w0 : a0.size ≤ 140737488351232) (w1 : a1.size ≤ 140737488351232) :
  Calls Tryd.prog 10 #[.string a0, .string a1] w fun e w' => e = .returned (.bool true) ∧ Below w.heap.size w w' := by
 obtain ⟨k, h⟩ := P a0 a1 w0 w1
 refine (quarrylaw07_QuotesBehind.calls k a0 a1 true w hT h).mono ?_
 rintro e w' ⟨rfl, hd⟩
 exact ⟨rfl, hd⟩

end Go.Proofs.YtadcgjmhhodnoaaDoor.PB
