/- Parts of a claim (TB), packed by a program (pack.py) out of the texts that it names. -/
import Derived.Test.YtgddljealeklkaaDoorCards
import Derived.Test.YtgddljealeklkaaDoorTie
import Derived.WalkKit
import Derived.ProofKit
import Derived.OpenShut
import Derived.ShutString
import Derived.ChangeOld
import Derived.Below
import Derived.SizedLaws
import Derived.Deep.DeepHandedRow
import Derived.Lib.LaidTab
import Derived.Test.YtgddljealeklkaaDoorTB5
-- PLx11
section
namespace Go.Proofs.YtgddljealeklkaaDoor.PL
attribute [local go_sem] Go.Proofs.YtgddljealeklkaaDoorM.fieldBits0 Go.Proofs.YtgddljealeklkaaDoorM.fieldBits1
open Go.Proofs.YtgddljealeklkaaDoorM (TabOk)
open Go.RowKit Go.Proofs.YtgddljealeklkaaDoorW.PrintWords Go.Proofs.YtgddljealeklkaaDoorW.PrintLast Go.Proofs.YtgddljealeklkaaDoorW.PrintMore
attribute [local go_sem] max2_int min2_int max_two min_two max_three min_three max_four min_four   -- for this text's walks alone
set_option linter.unusedVariables false
set_option linter.unusedSimpArgs false

def quarrylaw10_LevelsBuild.f (k : Nat) (a0 : ByteArray) (a1 : Int) : Option (Bool) := (levels_Build.f a0 a1).bind fun bt311 => ((quarryref10_Build.f k a0 a1).bind fun bt319 => (if bt311.2.2 = bt319.2.2 then ((quarryref00_SameLevels.f k bt311.1 bt311.2.1 bt319.1 bt319.2.1).bind fun t327 => (if t327 = true then ((quarrylaw10_awake.f k).bind fun t328 => (some t328)) else (some false))) else (some false)))
set_option maxHeartbeats 8000000 in
set_option maxRecDepth 100000 in
theorem quarrylaw10_LevelsBuild.calls (k : Nat) (a0 : ByteArray) (a1 : Int) (r : Bool) (w : World) (hT : TabOk w) (h : quarrylaw10_LevelsBuild.f k a0 a1 = some r) :
  Calls Tryd.prog 6 #[.string a0, .int .i64 a1] w fun e w' => e = .returned (.bool r) ∧ Below w.heap.size w w' := by
 have TK_ := zA hT
 clear hT
 have hu48 := Tryd.underlying48
 have HB := zA (Below.refl w.heap.size w)
 have H : ((levels_Build.f a0 a1).bind fun bt311 => ((quarryref10_Build.f k a0 a1).bind fun bt319 => (if bt311.2.2 = bt319.2.2 then ((quarryref00_SameLevels.f k bt311.1 bt311.2.1 bt319.1 bt319.2.1).bind fun t327 => (if t327 = true then ((quarrylaw10_awake.f k).bind fun t328 => (some t328)) else (some false))) else (some false)))) = some r := h
 clear h
 replace H := Option.bind_eq_some_iff.mp H
 obtain ⟨⟨t311, t314, t317⟩, A30, H⟩ := H
 replace H : ((quarryref10_Build.f k a0 a1).bind fun bt319 => (if t317 = bt319.2.2 then ((quarryref00_SameLevels.f k t311 t314 bt319.1 bt319.2.1).bind fun t327 => (if t327 = true then ((quarrylaw10_awake.f k).bind fun t328 => (some t328)) else (some false))) else (some false))) = some r := H
 have A3 := zA A30
 clear A30
 replace H := Option.bind_eq_some_iff.mp H
 obtain ⟨⟨t319, t322, t325⟩, A40, H⟩ := H
 replace H : (if t317 = t325 then ((quarryref00_SameLevels.f k t311 t314 t319 t322).bind fun t327 => (if t327 = true then ((quarrylaw10_awake.f k).bind fun t328 => (some t328)) else (some false))) else (some false)) = some r := H
 have A4 := zA A40
 clear A40
 by_cases c5 : t317 = t325
 ·rw [if_pos c5] at H
  have c5b0 : (t317 == t325) = true := beq_iff_eq.mpr c5
  have c5b1 : (t317 != t325) = false := bne_eq_false_iff_eq.mpr c5
  clear c5
  replace H := Option.bind_eq_some_iff.mp H
  obtain ⟨t327, A60, H⟩ := H
  replace H : (if t327 = true then ((quarrylaw10_awake.f k).bind fun t328 => (some t328)) else (some false)) = some r := H
  have A6 := zA A60
  clear A60
  by_cases c7 : t327 = true
  ·subst c7
   have H1 : ((quarrylaw10_awake.f k).bind fun t328 => (some t328)) = some r := by rw [if_pos rfl] at H;exact H
   clear H
   have H := H1
   clear H1
   replace H := Option.bind_eq_some_iff.mp H
   obtain ⟨t328, A80, H⟩ := H
   replace H : (some t328) = some r := H
   have A8 := zA A80
   clear A80
   obtain rfl := Option.some.inj H
   go_enter Tryd.func6, Tryd.ntmps6
   go_wp2_with (first|((with_reducible refine gate_callee (f := 28) rfl ?_);refine goesL_ (some 12) rfl rfl Tryd.func28 (by kernel_rfl) rfl #[.string a0, .int .i64 a1] rfl (by (try simp only [List.map_toArray, List.map_cons, List.map_nil]);first|done|rfl|(simp only [List.length_drop, List.length_take];rfl)) ?_;(with_reducible refine (levels_Build.calls a0 a1 t311 t314 t317 _ ?tabk A3.out).mono ?_);(case tabk => exact TK_.out.step (by repeat (first|(with_reducible first|exact HB.out|apply zG|apply zF|apply zH)|exact HB.out)));rintro e w9 ⟨v312, v315, rfl, ho0, ho1, hb⟩;refine ⟨_, rfl, ?_⟩;have n0_ := zA (Kd.S_lower ho0 (zO (by repeat (first|(with_reducible first|exact HB.out|apply zG|apply zF|apply zH)|exact HB.out))));have n1_ := zA (Kd.S_lower ho1 (zO (by repeat (first|(with_reducible first|exact HB.out|apply zG|apply zF|apply zH)|exact HB.out))));have n2_ := zA (zN (by repeat (first|(with_reducible first|exact HB.out|apply zG|apply zF|apply zH)|exact HB.out)) hb);clear HB;have HO313 := n0_;have HO316 := n1_;have HB := n2_;clear n0_ n1_ n2_;(try clear hb);(try clear hb2);(try clear hk);(try clear hi);(try clear ho0);(try clear ho1))|((with_reducible refine gate_dst (N := 5) rfl ?_);refine box_event ?hg (N := 5) ?hd (cs := #[.slice none 0 0, .slice none 0 0]) (t := 48) ?hr ?_;(case hd => rfl);(case hg => rfl);(case hr => first|(go_simp;done)|(go_simp;rfl));intro gb318 hg w10 hbox hb;have n0_ := zA (yy10 (by (with_reducible repeat (first|apply yy4|apply yy5|apply yy6));exact HO313.out) hb);have n1_ := zA (yy10 (by (with_reducible repeat (first|apply yy4|apply yy5|apply yy6));exact HO316.out) hb);have n2_ := zA (zN (by repeat (first|(with_reducible first|exact HB.out|apply zG|apply zF|apply zH)|exact HB.out)) hb);have n3_ := zA (hbox);have n4_ := zA ((by rw [hg];exact (zO (by repeat (first|(with_reducible first|exact HB.out|apply zG|apply zF|apply zH)|exact HB.out))) : w.heap.size ≤ gb318));have n5_ := zA ((by rw [hg];exact (zO (by repeat (first|(with_reducible first|exact HB.out|apply zG|apply zF|apply zH)|exact HB.out))) : w.heap.size ≤ gb318));clear HO313;clear HO316;clear HB;have HO313 := n0_;have HO316 := n1_;have HB := n2_;have BK318 := n3_;have GW318 := n4_;have GE318 := n5_;clear n0_ n1_ n2_ n3_ n4_ n5_;clear hb hbox hg;obtain ⟨Ao11, co11, eo11⟩ := Kd.S_slice HO313.out;subst eo11;have hcz12_0 : w10.cell? ⟨gb318, 0, none⟩ = some (.slice none 0 0) := (zP BK318.out 0).trans rfl;have hcz12_1 : w10.cell? ⟨gb318, 1, none⟩ = some (.slice none 0 0) := (zP BK318.out 1).trans rfl;have hfz12_0 := zR BK318.out 0;have hfz12_1 := zR BK318.out 1;obtain ⟨Ao13, co13, eo13⟩ := Kd.S_slice HO316.out;subst eo13)|((with_reducible refine gate_callee (f := 30) rfl ?_);refine goesL_ (some 18) rfl rfl Tryd.func30 (by kernel_rfl) rfl #[.string a0, .int .i64 a1] rfl (by (try simp only [List.map_toArray, List.map_cons, List.map_nil]);first|done|rfl|(simp only [List.length_drop, List.length_take];rfl)) ?_;(with_reducible refine (quarryref10_Build.calls k a0 a1 t319 t322 t325 _ A4.out).mono ?_);rintro e w14 ⟨v320, v323, rfl, ho0, ho1, hb⟩;refine ⟨_, rfl, ?_⟩;have n0_ := zA (Kd.S_mono (Kd.S_told (Kd.S_told (Kd.S_old (by (with_reducible repeat (first|apply yy4|apply yy5|apply yy6));exact (Kd.S_mono (Kd.S_far (p := ⟨gb318, 1, none⟩) (Kd.S_far (p := ⟨gb318, 0, none⟩) (Kd.S_types HO313.out BK318.out (by decide)) (fun _ hk => hk.2) (.slice Ao11 t311.length co11)) (fun _ hk => hk.2) (.slice Ao13 t314.length co13)) (fun _ h_ => h_.1))) hb) (Kd.S_base ho0)) (Kd.S_base ho1)) (fun _ h_ => h_.1));have n1_ := zA (Kd.S_mono (Kd.S_told (Kd.S_told (Kd.S_old (by (with_reducible repeat (first|apply yy4|apply yy5|apply yy6));exact (Kd.S_mono (Kd.S_far (p := ⟨gb318, 1, none⟩) (Kd.S_far (p := ⟨gb318, 0, none⟩) (Kd.S_types HO316.out BK318.out (by decide)) (fun _ hk => hk.2) (.slice Ao11 t311.length co11)) (fun _ hk => hk.2) (.slice Ao13 t314.length co13)) (fun _ h_ => h_.1))) hb) (Kd.S_base ho0)) (Kd.S_base ho1)) (fun _ h_ => h_.1));have n2_ := zA (Kd.S_lower (Kd.S_new' (Kd.S_new' ho0 (Kd.S_lt (by (with_reducible repeat (first|apply yy4|apply yy5|apply yy6));exact (Kd.S_mono (Kd.S_far (p := ⟨gb318, 1, none⟩) (Kd.S_far (p := ⟨gb318, 0, none⟩) (Kd.S_types HO313.out BK318.out (by decide)) (fun _ hk => hk.2) (.slice Ao11 t311.length co11)) (fun _ hk => hk.2) (.slice Ao13 t314.length co13)) (fun _ h_ => h_.1))))) (Kd.S_lt (by (with_reducible repeat (first|apply yy4|apply yy5|apply yy6));exact (Kd.S_mono (Kd.S_far (p := ⟨gb318, 1, none⟩) (Kd.S_far (p := ⟨gb318, 0, none⟩) (Kd.S_types HO316.out BK318.out (by decide)) (fun _ hk => hk.2) (.slice Ao11 t311.length co11)) (fun _ hk => hk.2) (.slice Ao13 t314.length co13)) (fun _ h_ => h_.1))))) (zO (by repeat (first|(with_reducible first|exact HB.out|apply zG|apply zF|apply zH|refine zI ?_ GE318.out)|exact HB.out))));have n3_ := zA (Kd.S_lower (Kd.S_new' (Kd.S_new' ho1 (Kd.S_lt (by (with_reducible repeat (first|apply yy4|apply yy5|apply yy6));exact (Kd.S_mono (Kd.S_far (p := ⟨gb318, 1, none⟩) (Kd.S_far (p := ⟨gb318, 0, none⟩) (Kd.S_types HO313.out BK318.out (by decide)) (fun _ hk => hk.2) (.slice Ao11 t311.length co11)) (fun _ hk => hk.2) (.slice Ao13 t314.length co13)) (fun _ h_ => h_.1))))) (Kd.S_lt (by (with_reducible repeat (first|apply yy4|apply yy5|apply yy6));exact (Kd.S_mono (Kd.S_far (p := ⟨gb318, 1, none⟩) (Kd.S_far (p := ⟨gb318, 0, none⟩) (Kd.S_types HO316.out BK318.out (by decide)) (fun _ hk => hk.2) (.slice Ao11 t311.length co11)) (fun _ hk => hk.2) (.slice Ao13 t314.length co13)) (fun _ h_ => h_.1))))) (zO (by repeat (first|(with_reducible first|exact HB.out|apply zG|apply zF|apply zH|refine zI ?_ GE318.out)|exact HB.out))));have n4_ := zA (zQ (g := gb318) (o := .cells #[.slice Ao11 t311.length co11, .slice Ao13 t314.length co13] 48 (0, 0)) (by (with_reducible repeat (first|refine zJ ?_ _|refine zK ?_|refine zL ?_ _));refine blk_put (cs := #[.slice Ao11 t311.length co11, .slice none 0 0]) ?_ 1 _ rfl;(with_reducible repeat (first|refine zJ ?_ _|refine zK ?_|refine zL ?_ _));refine blk_put (cs := #[.slice none 0 0, .slice none 0 0]) ?_ 0 _ rfl;(with_reducible repeat (first|refine zJ ?_ _|refine zK ?_|refine zL ?_ _));exact BK318.out) hb);have n5_ := zA (zN (by repeat (first|(with_reducible first|exact HB.out|apply zG|apply zF|apply zH|refine zI ?_ GE318.out)|exact HB.out)) hb);clear HO313;clear HO316;clear BK318;clear HB;have HO313 := n0_;have HO316 := n1_;have HO321 := n2_;have HO324 := n3_;have BK318 := n4_;have HB := n5_;clear n0_ n1_ n2_ n3_ n4_ n5_;(try clear hb);(try clear hb2);(try clear hk);(try clear hi);(try clear ho0);(try clear ho1))|((with_reducible refine gate_dst (N := 7) rfl ?_);refine box_event ?hg (N := 7) ?hd (cs := #[.slice none 0 0, .slice none 0 0]) (t := 48) ?hr ?_;(case hd => rfl);(case hg => rfl);(case hr => first|(go_simp;done)|(go_simp;rfl));intro gb326 hg w15 hbox hb;have n0_ := zA (yy10 (by (with_reducible repeat (first|apply yy4|apply yy5|apply yy6));exact HO313.out) hb);have n1_ := zA (yy10 (by (with_reducible repeat (first|apply yy4|apply yy5|apply yy6));exact HO316.out) hb);have n2_ := zA (yy10 (by (with_reducible repeat (first|apply yy4|apply yy5|apply yy6));exact HO321.out) hb);have n3_ := zA (yy10 (by (with_reducible repeat (first|apply yy4|apply yy5|apply yy6));exact HO324.out) hb);have n4_ := zA (zQ (g := gb318) (o := .cells #[.slice Ao11 t311.length co11, .slice Ao13 t314.length co13] 48 (0, 0)) (by (with_reducible repeat (first|refine zJ ?_ _|refine zK ?_|refine zL ?_ _));exact BK318.out) hb);have n5_ := zA (zN (by repeat (first|(with_reducible first|exact HB.out|apply zG|apply zF|apply zH|refine zI ?_ GE318.out)|exact HB.out)) hb);have n6_ := zA (hbox);have n7_ := zA ((by rw [hg];exact (zO (by repeat (first|(with_reducible first|exact HB.out|apply zG|apply zF|apply zH|refine zI ?_ GE318.out)|exact HB.out))) : w.heap.size ≤ gb326));have n8_ := zA ((by rw [hg];exact (zO (by repeat (first|(with_reducible first|exact HB.out|apply zG|apply zF|apply zH|refine zI ?_ GE318.out)|exact HB.out))) : w.heap.size ≤ gb326));have n9_ := zA ((by rw [hg];exact Nat.ne_of_lt (blk_lt (g := gb318) (o := .cells #[.slice Ao11 t311.length co11, .slice Ao13 t314.length co13] 48 (0, 0)) (by (with_reducible repeat (first|refine zJ ?_ _|refine zK ?_|refine zL ?_ _));exact BK318.out)) : gb318 ≠ gb326));have n10_ := zA ((by rw [hg];exact Nat.ne_of_gt (blk_lt (g := gb318) (o := .cells #[.slice Ao11 t311.length co11, .slice Ao13 t314.length co13] 48 (0, 0)) (by (with_reducible repeat (first|refine zJ ?_ _|refine zK ?_|refine zL ?_ _));exact BK318.out)) : gb326 ≠ gb318));clear HO313;clear HO316;clear HO321;clear HO324;clear BK318;clear HB;have HO313 := n0_;have HO316 := n1_;have HO321 := n2_;have HO324 := n3_;have BK318 := n4_;have HB := n5_;have BK326 := n6_;have GW326 := n7_;have GE326 := n8_;have NB318_326 := n9_;have NB326_318 := n10_;clear n0_ n1_ n2_ n3_ n4_ n5_ n6_ n7_ n8_ n9_ n10_;clear hb hbox hg;obtain ⟨Ao16, co16, eo16⟩ := Kd.S_slice HO321.out;subst eo16;have hnb17 := NB326_318.out;have hnc17 := NB318_326.out;have hcz18_0 : w15.cell? ⟨gb326, 0, none⟩ = some (.slice none 0 0) := (zP BK326.out 0).trans rfl;have hcz18_1 : w15.cell? ⟨gb326, 1, none⟩ = some (.slice none 0 0) := (zP BK326.out 1).trans rfl;have hfz18_0 := zR BK326.out 0;have hfz18_1 := zR BK326.out 1;obtain ⟨Ao19, co19, eo19⟩ := Kd.S_slice HO324.out;subst eo19;have hcz20_0 : w15.cell? ⟨gb318, 0, none⟩ = some (.slice Ao11 t311.length co11) := (zP BK318.out 0).trans rfl;have hcz20_1 : w15.cell? ⟨gb318, 1, none⟩ = some (.slice Ao13 t314.length co13) := (zP BK318.out 1).trans rfl;have hfz20_0 := zR BK318.out 0;have hfz20_1 := zR BK318.out 1)|(go_at_call 31;(with_reducible refine (quarryref00_SameLevels.calls k _ _ t311 _ _ t314 _ _ t319 _ _ t322 true _ ?side1 ?side2 ?side3 ?side4 ?side5 ?side6 ?side7 ?side8 A6.out).mono ?_);(case side1 => refine (Kd.S_reads' (e := 34) (base := w.heap.size) (ok := fun k_ => ((some k_ ≠ (.slice Ao13 t314.length co13 : Value).ownBlock ∧ some k_ ≠ (.slice Ao16 t319.length co16 : Value).ownBlock) ∧ some k_ ≠ (.slice Ao19 t322.length co19 : Value).ownBlock)) (n := t311.length) (c := co11) ?_).2.2;exact (by (with_reducible repeat (first|apply yy4|apply yy5|apply yy6));exact (Kd.S_mono (Kd.S_far (p := ⟨gb326, 1, none⟩) (Kd.S_far (p := ⟨gb326, 0, none⟩) (Kd.S_types HO313.out BK326.out (by decide)) (fun _ hk => hk.2) (.slice Ao16 t319.length co16)) (fun _ hk => hk.2) (.slice Ao19 t322.length co19)) (fun _ h_ => h_.1))));(case side2 => exact (Kd.S_reads' HO313.out).2.1);(case side3 => refine (Kd.S_reads' (e := 34) (base := w.heap.size) (ok := fun k_ => ((some k_ ≠ (.slice Ao11 t311.length co11 : Value).ownBlock ∧ some k_ ≠ (.slice Ao16 t319.length co16 : Value).ownBlock) ∧ some k_ ≠ (.slice Ao19 t322.length co19 : Value).ownBlock)) (n := t314.length) (c := co13) ?_).2.2;exact (by (with_reducible repeat (first|apply yy4|apply yy5|apply yy6));exact (Kd.S_mono (Kd.S_far (p := ⟨gb326, 1, none⟩) (Kd.S_far (p := ⟨gb326, 0, none⟩) (Kd.S_types HO316.out BK326.out (by decide)) (fun _ hk => hk.2) (.slice Ao16 t319.length co16)) (fun _ hk => hk.2) (.slice Ao19 t322.length co19)) (fun _ h_ => h_.1))));(case side4 => exact (Kd.S_reads' HO316.out).2.1);(case side5 => refine (Kd.S_reads' (e := 34) (base := w.heap.size) (ok := fun k_ => ((some k_ ≠ (.slice Ao19 t322.length co19 : Value).ownBlock ∧ some k_ ≠ (.slice Ao11 t311.length co11 : Value).ownBlock) ∧ some k_ ≠ (.slice Ao13 t314.length co13 : Value).ownBlock)) (n := t319.length) (c := co16) ?_).2.2;exact (by (with_reducible repeat (first|apply yy4|apply yy5|apply yy6));exact (Kd.S_mono (Kd.S_far (p := ⟨gb326, 1, none⟩) (Kd.S_far (p := ⟨gb326, 0, none⟩) (Kd.S_types HO321.out BK326.out (by decide)) (fun _ hk => hk.2) (.slice Ao16 t319.length co16)) (fun _ hk => hk.2) (.slice Ao19 t322.length co19)) (fun _ h_ => h_.1))));(case side6 => exact (Kd.S_reads' HO321.out).2.1);(case side7 => refine (Kd.S_reads' (e := 34) (base := w.heap.size) (ok := fun k_ => ((some k_ ≠ (.slice Ao16 t319.length co16 : Value).ownBlock ∧ some k_ ≠ (.slice Ao11 t311.length co11 : Value).ownBlock) ∧ some k_ ≠ (.slice Ao13 t314.length co13 : Value).ownBlock)) (n := t322.length) (c := co19) ?_).2.2;exact (by (with_reducible repeat (first|apply yy4|apply yy5|apply yy6));exact (Kd.S_mono (Kd.S_far (p := ⟨gb326, 1, none⟩) (Kd.S_far (p := ⟨gb326, 0, none⟩) (Kd.S_types HO324.out BK326.out (by decide)) (fun _ hk => hk.2) (.slice Ao16 t319.length co16)) (fun _ hk => hk.2) (.slice Ao19 t322.length co19)) (fun _ h_ => h_.1))));(case side8 => exact (Kd.S_reads' HO324.out).2.1);rintro e w21 ⟨rfl, hb⟩;have n0_ := zA (yy10 (by (with_reducible repeat (first|apply yy4|apply yy5|apply yy6));exact (Kd.S_mono (Kd.S_far (p := ⟨gb326, 1, none⟩) (Kd.S_far (p := ⟨gb326, 0, none⟩) (Kd.S_types HO313.out BK326.out (by decide)) (fun _ hk => hk.2) (.slice Ao16 t319.length co16)) (fun _ hk => hk.2) (.slice Ao19 t322.length co19)) (fun _ h_ => h_.1))) hb);have n1_ := zA (yy10 (by (with_reducible repeat (first|apply yy4|apply yy5|apply yy6));exact (Kd.S_mono (Kd.S_far (p := ⟨gb326, 1, none⟩) (Kd.S_far (p := ⟨gb326, 0, none⟩) (Kd.S_types HO316.out BK326.out (by decide)) (fun _ hk => hk.2) (.slice Ao16 t319.length co16)) (fun _ hk => hk.2) (.slice Ao19 t322.length co19)) (fun _ h_ => h_.1))) hb);have n2_ := zA (yy10 (by (with_reducible repeat (first|apply yy4|apply yy5|apply yy6));exact (Kd.S_mono (Kd.S_far (p := ⟨gb326, 1, none⟩) (Kd.S_far (p := ⟨gb326, 0, none⟩) (Kd.S_types HO321.out BK326.out (by decide)) (fun _ hk => hk.2) (.slice Ao16 t319.length co16)) (fun _ hk => hk.2) (.slice Ao19 t322.length co19)) (fun _ h_ => h_.1))) hb);have n3_ := zA (yy10 (by (with_reducible repeat (first|apply yy4|apply yy5|apply yy6));exact (Kd.S_mono (Kd.S_far (p := ⟨gb326, 1, none⟩) (Kd.S_far (p := ⟨gb326, 0, none⟩) (Kd.S_types HO324.out BK326.out (by decide)) (fun _ hk => hk.2) (.slice Ao16 t319.length co16)) (fun _ hk => hk.2) (.slice Ao19 t322.length co19)) (fun _ h_ => h_.1))) hb);have n4_ := zA (zQ (g := gb318) (o := .cells #[.slice Ao11 t311.length co11, .slice Ao13 t314.length co13] 48 (0, 0)) (by (with_reducible repeat (first|refine zJ ?_ _|refine zK ?_|refine zL ?_ _));refine blk_far ?_ NB318_326.out _;(with_reducible repeat (first|refine zJ ?_ _|refine zK ?_|refine zL ?_ _));refine blk_far ?_ NB318_326.out _;(with_reducible repeat (first|refine zJ ?_ _|refine zK ?_|refine zL ?_ _));exact BK318.out) hb);have n5_ := zA (zQ (g := gb326) (o := .cells #[.slice Ao16 t319.length co16, .slice Ao19 t322.length co19] 48 (0, 0)) (by (with_reducible repeat (first|refine zJ ?_ _|refine zK ?_|refine zL ?_ _));refine blk_put (cs := #[.slice Ao16 t319.length co16, .slice none 0 0]) ?_ 1 _ rfl;(with_reducible repeat (first|refine zJ ?_ _|refine zK ?_|refine zL ?_ _));refine blk_put (cs := #[.slice none 0 0, .slice none 0 0]) ?_ 0 _ rfl;(with_reducible repeat (first|refine zJ ?_ _|refine zK ?_|refine zL ?_ _));exact BK326.out) hb);have n6_ := zA (zN (by repeat (first|(with_reducible first|exact HB.out|apply zG|apply zF|apply zH|refine zI ?_ GE318.out|refine zI ?_ GE326.out)|exact HB.out)) hb);clear HO313;clear HO316;clear HO321;clear HO324;clear BK318;clear BK326;clear HB;have HO313 := n0_;have HO316 := n1_;have HO321 := n2_;have HO324 := n3_;have BK318 := n4_;have BK326 := n5_;have HB := n6_;clear n0_ n1_ n2_ n3_ n4_ n5_ n6_;(try clear hb);(try clear hb2);(try clear hk);(try clear hi))|(go_at_call 29;(with_reducible refine (quarrylaw10_awake.calls k  t328 _ ?tabk A8.out).mono ?_);(case tabk => exact TK_.out.step (by repeat (first|(with_reducible first|exact HB.out|apply zG|apply zF|apply zH|refine zI ?_ GE318.out|refine zI ?_ GE326.out)|exact HB.out)));rintro e w22 ⟨rfl, hb⟩;have n0_ := zA (yy10 (by (with_reducible repeat (first|apply yy4|apply yy5|apply yy6));exact HO313.out) hb);have n1_ := zA (yy10 (by (with_reducible repeat (first|apply yy4|apply yy5|apply yy6));exact HO316.out) hb);have n2_ := zA (yy10 (by (with_reducible repeat (first|apply yy4|apply yy5|apply yy6));exact HO321.out) hb);have n3_ := zA (yy10 (by (with_reducible repeat (first|apply yy4|apply yy5|apply yy6));exact HO324.out) hb);have n4_ := zA (zQ (g := gb318) (o := .cells #[.slice Ao11 t311.length co11, .slice Ao13 t314.length co13] 48 (0, 0)) (by (with_reducible repeat (first|refine zJ ?_ _|refine zK ?_|refine zL ?_ _));exact BK318.out) hb);have n5_ := zA (zQ (g := gb326) (o := .cells #[.slice Ao16 t319.length co16, .slice Ao19 t322.length co19] 48 (0, 0)) (by (with_reducible repeat (first|refine zJ ?_ _|refine zK ?_|refine zL ?_ _));exact BK326.out) hb);have n6_ := zA (zN (by repeat (first|(with_reducible first|exact HB.out|apply zG|apply zF|apply zH|refine zI ?_ GE318.out|refine zI ?_ GE326.out)|exact HB.out)) hb);clear HO313;clear HO316;clear HO321;clear HO324;clear BK318;clear BK326;clear HB;have HO313 := n0_;have HO316 := n1_;have HO321 := n2_;have HO324 := n3_;have BK318 := n4_;have BK326 := n5_;have HB := n6_;clear n0_ n1_ n2_ n3_ n4_ n5_ n6_;(try clear hb);(try clear hb2);(try clear hk);(try clear hi)))
   go_ret
   exact ⟨by first|rfl|(simp [errW_none, errW_some] <;> rfl)|(simp [*, errW_none, errW_some] <;> rfl), by repeat (first|(with_reducible first|exact HB.out|apply zG|apply zF|apply zH|refine zI ?_ GE318.out|refine zI ?_ GE326.out)|exact HB.out)⟩
  ·replace c7 := Bool.eq_false_iff.mpr c7
   subst c7
   have H1 : (some false) = some r := by rw [if_neg (show ¬ (false = true) by decide)] at H;exact H
   clear H
   have H := H1
   clear H1
   obtain rfl := Option.some.inj H
   go_enter Tryd.func6, Tryd.ntmps6
   go_wp2_with (first|((with_reducible refine gate_callee (f := 28) rfl ?_);refine goesL_ (some 12) rfl rfl Tryd.func28 (by kernel_rfl) rfl #[.string a0, .int .i64 a1] rfl (by (try simp only [List.map_toArray, List.map_cons, List.map_nil]);first|done|rfl|(simp only [List.length_drop, List.length_take];rfl)) ?_;(with_reducible refine (levels_Build.calls a0 a1 t311 t314 t317 _ ?tabk A3.out).mono ?_);(case tabk => exact TK_.out.step (by repeat (first|(with_reducible first|exact HB.out|apply zG|apply zF|apply zH)|exact HB.out)));rintro e w23 ⟨v312, v315, rfl, ho0, ho1, hb⟩;refine ⟨_, rfl, ?_⟩;have n0_ := zA (Kd.S_lower ho0 (zO (by repeat (first|(with_reducible first|exact HB.out|apply zG|apply zF|apply zH)|exact HB.out))));have n1_ := zA (Kd.S_lower ho1 (zO (by repeat (first|(with_reducible first|exact HB.out|apply zG|apply zF|apply zH)|exact HB.out))));have n2_ := zA (zN (by repeat (first|(with_reducible first|exact HB.out|apply zG|apply zF|apply zH)|exact HB.out)) hb);clear HB;have HO313 := n0_;have HO316 := n1_;have HB := n2_;clear n0_ n1_ n2_;(try clear hb);(try clear hb2);(try clear hk);(try clear hi);(try clear ho0);(try clear ho1))|((with_reducible refine gate_dst (N := 5) rfl ?_);refine box_event ?hg (N := 5) ?hd (cs := #[.slice none 0 0, .slice none 0 0]) (t := 48) ?hr ?_;(case hd => rfl);(case hg => rfl);(case hr => first|(go_simp;done)|(go_simp;rfl));intro gb318 hg w24 hbox hb;have n0_ := zA (yy10 (by (with_reducible repeat (first|apply yy4|apply yy5|apply yy6));exact HO313.out) hb);have n1_ := zA (yy10 (by (with_reducible repeat (first|apply yy4|apply yy5|apply yy6));exact HO316.out) hb);have n2_ := zA (zN (by repeat (first|(with_reducible first|exact HB.out|apply zG|apply zF|apply zH)|exact HB.out)) hb);have n3_ := zA (hbox);have n4_ := zA ((by rw [hg];exact (zO (by repeat (first|(with_reducible first|exact HB.out|apply zG|apply zF|apply zH)|exact HB.out))) : w.heap.size ≤ gb318));have n5_ := zA ((by rw [hg];exact (zO (by repeat (first|(with_reducible first|exact HB.out|apply zG|apply zF|apply zH)|exact HB.out))) : w.heap.size ≤ gb318));clear HO313;clear HO316;clear HB;have HO313 := n0_;have HO316 := n1_;have HB := n2_;have BK318 := n3_;have GW318 := n4_;have GE318 := n5_;clear n0_ n1_ n2_ n3_ n4_ n5_;clear hb hbox hg;obtain ⟨Ao25, co25, eo25⟩ := Kd.S_slice HO313.out;subst eo25;have hcz26_0 : w24.cell? ⟨gb318, 0, none⟩ = some (.slice none 0 0) := (zP BK318.out 0).trans rfl;have hcz26_1 : w24.cell? ⟨gb318, 1, none⟩ = some (.slice none 0 0) := (zP BK318.out 1).trans rfl;have hfz26_0 := zR BK318.out 0;have hfz26_1 := zR BK318.out 1;obtain ⟨Ao27, co27, eo27⟩ := Kd.S_slice HO316.out;subst eo27)|((with_reducible refine gate_callee (f := 30) rfl ?_);refine goesL_ (some 18) rfl rfl Tryd.func30 (by kernel_rfl) rfl #[.string a0, .int .i64 a1] rfl (by (try simp only [List.map_toArray, List.map_cons, List.map_nil]);first|done|rfl|(simp only [List.length_drop, List.length_take];rfl)) ?_;(with_reducible refine (quarryref10_Build.calls k a0 a1 t319 t322 t325 _ A4.out).mono ?_);rintro e w28 ⟨v320, v323, rfl, ho0, ho1, hb⟩;refine ⟨_, rfl, ?_⟩;have n0_ := zA (Kd.S_mono (Kd.S_told (Kd.S_told (Kd.S_old (by (with_reducible repeat (first|apply yy4|apply yy5|apply yy6));exact (Kd.S_mono (Kd.S_far (p := ⟨gb318, 1, none⟩) (Kd.S_far (p := ⟨gb318, 0, none⟩) (Kd.S_types HO313.out BK318.out (by decide)) (fun _ hk => hk.2) (.slice Ao25 t311.length co25)) (fun _ hk => hk.2) (.slice Ao27 t314.length co27)) (fun _ h_ => h_.1))) hb) (Kd.S_base ho0)) (Kd.S_base ho1)) (fun _ h_ => h_.1));have n1_ := zA (Kd.S_mono (Kd.S_told (Kd.S_told (Kd.S_old (by (with_reducible repeat (first|apply yy4|apply yy5|apply yy6));exact (Kd.S_mono (Kd.S_far (p := ⟨gb318, 1, none⟩) (Kd.S_far (p := ⟨gb318, 0, none⟩) (Kd.S_types HO316.out BK318.out (by decide)) (fun _ hk => hk.2) (.slice Ao25 t311.length co25)) (fun _ hk => hk.2) (.slice Ao27 t314.length co27)) (fun _ h_ => h_.1))) hb) (Kd.S_base ho0)) (Kd.S_base ho1)) (fun _ h_ => h_.1));have n2_ := zA (Kd.S_lower (Kd.S_new' (Kd.S_new' ho0 (Kd.S_lt (by (with_reducible repeat (first|apply yy4|apply yy5|apply yy6));exact (Kd.S_mono (Kd.S_far (p := ⟨gb318, 1, none⟩) (Kd.S_far (p := ⟨gb318, 0, none⟩) (Kd.S_types HO313.out BK318.out (by decide)) (fun _ hk => hk.2) (.slice Ao25 t311.length co25)) (fun _ hk => hk.2) (.slice Ao27 t314.length co27)) (fun _ h_ => h_.1))))) (Kd.S_lt (by (with_reducible repeat (first|apply yy4|apply yy5|apply yy6));exact (Kd.S_mono (Kd.S_far (p := ⟨gb318, 1, none⟩) (Kd.S_far (p := ⟨gb318, 0, none⟩) (Kd.S_types HO316.out BK318.out (by decide)) (fun _ hk => hk.2) (.slice Ao25 t311.length co25)) (fun _ hk => hk.2) (.slice Ao27 t314.length co27)) (fun _ h_ => h_.1))))) (zO (by repeat (first|(with_reducible first|exact HB.out|apply zG|apply zF|apply zH|refine zI ?_ GE318.out)|exact HB.out))));have n3_ := zA (Kd.S_lower (Kd.S_new' (Kd.S_new' ho1 (Kd.S_lt (by (with_reducible repeat (first|apply yy4|apply yy5|apply yy6));exact (Kd.S_mono (Kd.S_far (p := ⟨gb318, 1, none⟩) (Kd.S_far (p := ⟨gb318, 0, none⟩) (Kd.S_types HO313.out BK318.out (by decide)) (fun _ hk => hk.2) (.slice Ao25 t311.length co25)) (fun _ hk => hk.2) (.slice Ao27 t314.length co27)) (fun _ h_ => h_.1))))) (Kd.S_lt (by (with_reducible repeat (first|apply yy4|apply yy5|apply yy6));exact (Kd.S_mono (Kd.S_far (p := ⟨gb318, 1, none⟩) (Kd.S_far (p := ⟨gb318, 0, none⟩) (Kd.S_types HO316.out BK318.out (by decide)) (fun _ hk => hk.2) (.slice Ao25 t311.length co25)) (fun _ hk => hk.2) (.slice Ao27 t314.length co27)) (fun _ h_ => h_.1))))) (zO (by repeat (first|(with_reducible first|exact HB.out|apply zG|apply zF|apply zH|refine zI ?_ GE318.out)|exact HB.out))));have n4_ := zA (zQ (g := gb318) (o := .cells #[.slice Ao25 t311.length co25, .slice Ao27 t314.length co27] 48 (0, 0)) (by (with_reducible repeat (first|refine zJ ?_ _|refine zK ?_|refine zL ?_ _));refine blk_put (cs := #[.slice Ao25 t311.length co25, .slice none 0 0]) ?_ 1 _ rfl;(with_reducible repeat (first|refine zJ ?_ _|refine zK ?_|refine zL ?_ _));refine blk_put (cs := #[.slice none 0 0, .slice none 0 0]) ?_ 0 _ rfl;(with_reducible repeat (first|refine zJ ?_ _|refine zK ?_|refine zL ?_ _));exact BK318.out) hb);have n5_ := zA (zN (by repeat (first|(with_reducible first|exact HB.out|apply zG|apply zF|apply zH|refine zI ?_ GE318.out)|exact HB.out)) hb);clear HO313;clear HO316;clear BK318;clear HB;have HO313 := n0_;have HO316 := n1_;have HO321 := n2_;have HO324 := n3_;have BK318 := n4_;have HB := n5_;clear n0_ n1_ n2_ n3_ n4_ n5_;(try clear hb);(try clear hb2);(try clear hk);(try clear hi);(try clear ho0);(try clear ho1))|((with_reducible refine gate_dst (N := 7) rfl ?_);refine box_event ?hg (N := 7) ?hd (cs := #[.slice none 0 0, .slice none 0 0]) (t := 48) ?hr ?_;(case hd => rfl);(case hg => rfl);(case hr => first|(go_simp;done)|(go_simp;rfl));intro gb326 hg w29 hbox hb;have n0_ := zA (yy10 (by (with_reducible repeat (first|apply yy4|apply yy5|apply yy6));exact HO313.out) hb);have n1_ := zA (yy10 (by (with_reducible repeat (first|apply yy4|apply yy5|apply yy6));exact HO316.out) hb);have n2_ := zA (yy10 (by (with_reducible repeat (first|apply yy4|apply yy5|apply yy6));exact HO321.out) hb);have n3_ := zA (yy10 (by (with_reducible repeat (first|apply yy4|apply yy5|apply yy6));exact HO324.out) hb);have n4_ := zA (zQ (g := gb318) (o := .cells #[.slice Ao25 t311.length co25, .slice Ao27 t314.length co27] 48 (0, 0)) (by (with_reducible repeat (first|refine zJ ?_ _|refine zK ?_|refine zL ?_ _));exact BK318.out) hb);have n5_ := zA (zN (by repeat (first|(with_reducible first|exact HB.out|apply zG|apply zF|apply zH|refine zI ?_ GE318.out)|exact HB.out)) hb);have n6_ := zA (hbox);have n7_ := zA ((by rw [hg];exact (zO (by repeat (first|(with_reducible first|exact HB.out|apply zG|apply zF|apply zH|refine zI ?_ GE318.out)|exact HB.out))) : w.heap.size ≤ gb326));have n8_ := zA ((by rw [hg];exact (zO (by repeat (first|(with_reducible first|exact HB.out|apply zG|apply zF|apply zH|refine zI ?_ GE318.out)|exact HB.out))) : w.heap.size ≤ gb326));have n9_ := zA ((by rw [hg];exact Nat.ne_of_lt (blk_lt (g := gb318) (o := .cells #[.slice Ao25 t311.length co25, .slice Ao27 t314.length co27] 48 (0, 0)) (by (with_reducible repeat (first|refine zJ ?_ _|refine zK ?_|refine zL ?_ _));exact BK318.out)) : gb318 ≠ gb326));have n10_ := zA ((by rw [hg];exact Nat.ne_of_gt (blk_lt (g := gb318) (o := .cells #[.slice Ao25 t311.length co25, .slice Ao27 t314.length co27] 48 (0, 0)) (by (with_reducible repeat (first|refine zJ ?_ _|refine zK ?_|refine zL ?_ _));exact BK318.out)) : gb326 ≠ gb318));clear HO313;clear HO316;clear HO321;clear HO324;clear BK318;clear HB;have HO313 := n0_;have HO316 := n1_;have HO321 := n2_;have HO324 := n3_;have BK318 := n4_;have HB := n5_;have BK326 := n6_;have GW326 := n7_;have GE326 := n8_;have NB318_326 := n9_;have NB326_318 := n10_;clear n0_ n1_ n2_ n3_ n4_ n5_ n6_ n7_ n8_ n9_ n10_;clear hb hbox hg;obtain ⟨Ao30, co30, eo30⟩ := Kd.S_slice HO321.out;subst eo30;have hnb31 := NB326_318.out;have hnc31 := NB318_326.out;have hcz32_0 : w29.cell? ⟨gb326, 0, none⟩ = some (.slice none 0 0) := (zP BK326.out 0).trans rfl;have hcz32_1 : w29.cell? ⟨gb326, 1, none⟩ = some (.slice none 0 0) := (zP BK326.out 1).trans rfl;have hfz32_0 := zR BK326.out 0;have hfz32_1 := zR BK326.out 1;obtain ⟨Ao33, co33, eo33⟩ := Kd.S_slice HO324.out;subst eo33;have hcz34_0 : w29.cell? ⟨gb318, 0, none⟩ = some (.slice Ao25 t311.length co25) := (zP BK318.out 0).trans rfl;have hcz34_1 : w29.cell? ⟨gb318, 1, none⟩ = some (.slice Ao27 t314.length co27) := (zP BK318.out 1).trans rfl;have hfz34_0 := zR BK318.out 0;have hfz34_1 := zR BK318.out 1)|(go_at_call 31;(with_reducible refine (quarryref00_SameLevels.calls k _ _ t311 _ _ t314 _ _ t319 _ _ t322 false _ ?side1 ?side2 ?side3 ?side4 ?side5 ?side6 ?side7 ?side8 A6.out).mono ?_);(case side1 => refine (Kd.S_reads' (e := 34) (base := w.heap.size) (ok := fun k_ => ((some k_ ≠ (.slice Ao27 t314.length co27 : Value).ownBlock ∧ some k_ ≠ (.slice Ao30 t319.length co30 : Value).ownBlock) ∧ some k_ ≠ (.slice Ao33 t322.length co33 : Value).ownBlock)) (n := t311.length) (c := co25) ?_).2.2;exact (by (with_reducible repeat (first|apply yy4|apply yy5|apply yy6));exact (Kd.S_mono (Kd.S_far (p := ⟨gb326, 1, none⟩) (Kd.S_far (p := ⟨gb326, 0, none⟩) (Kd.S_types HO313.out BK326.out (by decide)) (fun _ hk => hk.2) (.slice Ao30 t319.length co30)) (fun _ hk => hk.2) (.slice Ao33 t322.length co33)) (fun _ h_ => h_.1))));(case side2 => exact (Kd.S_reads' HO313.out).2.1);(case side3 => refine (Kd.S_reads' (e := 34) (base := w.heap.size) (ok := fun k_ => ((some k_ ≠ (.slice Ao25 t311.length co25 : Value).ownBlock ∧ some k_ ≠ (.slice Ao30 t319.length co30 : Value).ownBlock) ∧ some k_ ≠ (.slice Ao33 t322.length co33 : Value).ownBlock)) (n := t314.length) (c := co27) ?_).2.2;exact (by (with_reducible repeat (first|apply yy4|apply yy5|apply yy6));exact (Kd.S_mono (Kd.S_far (p := ⟨gb326, 1, none⟩) (Kd.S_far (p := ⟨gb326, 0, none⟩) (Kd.S_types HO316.out BK326.out (by decide)) (fun _ hk => hk.2) (.slice Ao30 t319.length co30)) (fun _ hk => hk.2) (.slice Ao33 t322.length co33)) (fun _ h_ => h_.1))));(case side4 => exact (Kd.S_reads' HO316.out).2.1);(case side5 => refine (Kd.S_reads' (e := 34) (base := w.heap.size) (ok := fun k_ => ((some k_ ≠ (.slice Ao33 t322.length co33 : Value).ownBlock ∧ some k_ ≠ (.slice Ao25 t311.length co25 : Value).ownBlock) ∧ some k_ ≠ (.slice Ao27 t314.length co27 : Value).ownBlock)) (n := t319.length) (c := co30) ?_).2.2;exact (by (with_reducible repeat (first|apply yy4|apply yy5|apply yy6));exact (Kd.S_mono (Kd.S_far (p := ⟨gb326, 1, none⟩) (Kd.S_far (p := ⟨gb326, 0, none⟩) (Kd.S_types HO321.out BK326.out (by decide)) (fun _ hk => hk.2) (.slice Ao30 t319.length co30)) (fun _ hk => hk.2) (.slice Ao33 t322.length co33)) (fun _ h_ => h_.1))));(case side6 => exact (Kd.S_reads' HO321.out).2.1);(case side7 => refine (Kd.S_reads' (e := 34) (base := w.heap.size) (ok := fun k_ => ((some k_ ≠ (.slice Ao30 t319.length co30 : Value).ownBlock ∧ some k_ ≠ (.slice Ao25 t311.length co25 : Value).ownBlock) ∧ some k_ ≠ (.slice Ao27 t314.length co27 : Value).ownBlock)) (n := t322.length) (c := co33) ?_).2.2;exact (by (with_reducible repeat (first|apply yy4|apply yy5|apply yy6));exact (Kd.S_mono (Kd.S_far (p := ⟨gb326, 1, none⟩) (Kd.S_far (p := ⟨gb326, 0, none⟩) (Kd.S_types HO324.out BK326.out (by decide)) (fun _ hk => hk.2) (.slice Ao30 t319.length co30)) (fun _ hk => hk.2) (.slice Ao33 t322.length co33)) (fun _ h_ => h_.1))));(case side8 => exact (Kd.S_reads' HO324.out).2.1);rintro e w35 ⟨rfl, hb⟩;have n0_ := zA (yy10 (by (with_reducible repeat (first|apply yy4|apply yy5|apply yy6));exact (Kd.S_mono (Kd.S_far (p := ⟨gb326, 1, none⟩) (Kd.S_far (p := ⟨gb326, 0, none⟩) (Kd.S_types HO313.out BK326.out (by decide)) (fun _ hk => hk.2) (.slice Ao30 t319.length co30)) (fun _ hk => hk.2) (.slice Ao33 t322.length co33)) (fun _ h_ => h_.1))) hb);have n1_ := zA (yy10 (by (with_reducible repeat (first|apply yy4|apply yy5|apply yy6));exact (Kd.S_mono (Kd.S_far (p := ⟨gb326, 1, none⟩) (Kd.S_far (p := ⟨gb326, 0, none⟩) (Kd.S_types HO316.out BK326.out (by decide)) (fun _ hk => hk.2) (.slice Ao30 t319.length co30)) (fun _ hk => hk.2) (.slice Ao33 t322.length co33)) (fun _ h_ => h_.1))) hb);have n2_ := zA (yy10 (by (with_reducible repeat (first|apply yy4|apply yy5|apply yy6));exact (Kd.S_mono (Kd.S_far (p := ⟨gb326, 1, none⟩) (Kd.S_far (p := ⟨gb326, 0, none⟩) (Kd.S_types HO321.out BK326.out (by decide)) (fun _ hk => hk.2) (.slice Ao30 t319.length co30)) (fun _ hk => hk.2) (.slice Ao33 t322.length co33)) (fun _ h_ => h_.1))) hb);have n3_ := zA (yy10 (by (with_reducible repeat (first|apply yy4|apply yy5|apply yy6));exact (Kd.S_mono (Kd.S_far (p := ⟨gb326, 1, none⟩) (Kd.S_far (p := ⟨gb326, 0, none⟩) (Kd.S_types HO324.out BK326.out (by decide)) (fun _ hk => hk.2) (.slice Ao30 t319.length co30)) (fun _ hk => hk.2) (.slice Ao33 t322.length co33)) (fun _ h_ => h_.1))) hb);have n4_ := zA (zQ (g := gb318) (o := .cells #[.slice Ao25 t311.length co25, .slice Ao27 t314.length co27] 48 (0, 0)) (by (with_reducible repeat (first|refine zJ ?_ _|refine zK ?_|refine zL ?_ _));refine blk_far ?_ NB318_326.out _;(with_reducible repeat (first|refine zJ ?_ _|refine zK ?_|refine zL ?_ _));refine blk_far ?_ NB318_326.out _;(with_reducible repeat (first|refine zJ ?_ _|refine zK ?_|refine zL ?_ _));exact BK318.out) hb);have n5_ := zA (zQ (g := gb326) (o := .cells #[.slice Ao30 t319.length co30, .slice Ao33 t322.length co33] 48 (0, 0)) (by (with_reducible repeat (first|refine zJ ?_ _|refine zK ?_|refine zL ?_ _));refine blk_put (cs := #[.slice Ao30 t319.length co30, .slice none 0 0]) ?_ 1 _ rfl;(with_reducible repeat (first|refine zJ ?_ _|refine zK ?_|refine zL ?_ _));refine blk_put (cs := #[.slice none 0 0, .slice none 0 0]) ?_ 0 _ rfl;(with_reducible repeat (first|refine zJ ?_ _|refine zK ?_|refine zL ?_ _));exact BK326.out) hb);have n6_ := zA (zN (by repeat (first|(with_reducible first|exact HB.out|apply zG|apply zF|apply zH|refine zI ?_ GE318.out|refine zI ?_ GE326.out)|exact HB.out)) hb);clear HO313;clear HO316;clear HO321;clear HO324;clear BK318;clear BK326;clear HB;have HO313 := n0_;have HO316 := n1_;have HO321 := n2_;have HO324 := n3_;have BK318 := n4_;have BK326 := n5_;have HB := n6_;clear n0_ n1_ n2_ n3_ n4_ n5_ n6_;(try clear hb);(try clear hb2);(try clear hk);(try clear hi)))
   go_ret
   exact ⟨by first|rfl|(simp [errW_none, errW_some] <;> rfl)|(simp [*, errW_none, errW_some] <;> rfl), by repeat (first|(with_reducible first|exact HB.out|apply zG|apply zF|apply zH|refine zI ?_ GE318.out|refine zI ?_ GE326.out)|exact HB.out)⟩
 ·rw [if_neg c5] at H
  have c5b0 : (t317 == t325) = false := beq_eq_false_iff_ne.mpr c5
  have c5b1 : (t317 != t325) = true := bne_iff_ne.mpr c5
  obtain rfl := Option.some.inj H
  go_enter Tryd.func6, Tryd.ntmps6
  go_wp2_with (first|((with_reducible refine gate_callee (f := 28) rfl ?_);refine goesL_ (some 12) rfl rfl Tryd.func28 (by kernel_rfl) rfl #[.string a0, .int .i64 a1] rfl (by (try simp only [List.map_toArray, List.map_cons, List.map_nil]);first|done|rfl|(simp only [List.length_drop, List.length_take];rfl)) ?_;(with_reducible refine (levels_Build.calls a0 a1 t311 t314 t317 _ ?tabk A3.out).mono ?_);(case tabk => exact TK_.out.step (by repeat (first|(with_reducible first|exact HB.out|apply zG|apply zF|apply zH)|exact HB.out)));rintro e w36 ⟨v312, v315, rfl, ho0, ho1, hb⟩;refine ⟨_, rfl, ?_⟩;have n0_ := zA (Kd.S_lower ho0 (zO (by repeat (first|(with_reducible first|exact HB.out|apply zG|apply zF|apply zH)|exact HB.out))));have n1_ := zA (Kd.S_lower ho1 (zO (by repeat (first|(with_reducible first|exact HB.out|apply zG|apply zF|apply zH)|exact HB.out))));have n2_ := zA (zN (by repeat (first|(with_reducible first|exact HB.out|apply zG|apply zF|apply zH)|exact HB.out)) hb);clear HB;have HO313 := n0_;have HO316 := n1_;have HB := n2_;clear n0_ n1_ n2_;(try clear hb);(try clear hb2);(try clear hk);(try clear hi);(try clear ho0);(try clear ho1))|((with_reducible refine gate_dst (N := 5) rfl ?_);refine box_event ?hg (N := 5) ?hd (cs := #[.slice none 0 0, .slice none 0 0]) (t := 48) ?hr ?_;(case hd => rfl);(case hg => rfl);(case hr => first|(go_simp;done)|(go_simp;rfl));intro gb318 hg w37 hbox hb;have n0_ := zA (yy10 (by (with_reducible repeat (first|apply yy4|apply yy5|apply yy6));exact HO313.out) hb);have n1_ := zA (yy10 (by (with_reducible repeat (first|apply yy4|apply yy5|apply yy6));exact HO316.out) hb);have n2_ := zA (zN (by repeat (first|(with_reducible first|exact HB.out|apply zG|apply zF|apply zH)|exact HB.out)) hb);have n3_ := zA (hbox);have n4_ := zA ((by rw [hg];exact (zO (by repeat (first|(with_reducible first|exact HB.out|apply zG|apply zF|apply zH)|exact HB.out))) : w.heap.size ≤ gb318));have n5_ := zA ((by rw [hg];exact (zO (by repeat (first|(with_reducible first|exact HB.out|apply zG|apply zF|apply zH)|exact HB.out))) : w.heap.size ≤ gb318));clear HO313;clear HO316;clear HB;have HO313 := n0_;have HO316 := n1_;have HB := n2_;have BK318 := n3_;have GW318 := n4_;have GE318 := n5_;clear n0_ n1_ n2_ n3_ n4_ n5_;clear hb hbox hg;obtain ⟨Ao38, co38, eo38⟩ := Kd.S_slice HO313.out;subst eo38;have hcz39_0 : w37.cell? ⟨gb318, 0, none⟩ = some (.slice none 0 0) := (zP BK318.out 0).trans rfl;have hcz39_1 : w37.cell? ⟨gb318, 1, none⟩ = some (.slice none 0 0) := (zP BK318.out 1).trans rfl;have hfz39_0 := zR BK318.out 0;have hfz39_1 := zR BK318.out 1;obtain ⟨Ao40, co40, eo40⟩ := Kd.S_slice HO316.out;subst eo40)|((with_reducible refine gate_callee (f := 30) rfl ?_);refine goesL_ (some 18) rfl rfl Tryd.func30 (by kernel_rfl) rfl #[.string a0, .int .i64 a1] rfl (by (try simp only [List.map_toArray, List.map_cons, List.map_nil]);first|done|rfl|(simp only [List.length_drop, List.length_take];rfl)) ?_;(with_reducible refine (quarryref10_Build.calls k a0 a1 t319 t322 t325 _ A4.out).mono ?_);rintro e w41 ⟨v320, v323, rfl, ho0, ho1, hb⟩;refine ⟨_, rfl, ?_⟩;have n0_ := zA (Kd.S_mono (Kd.S_told (Kd.S_told (Kd.S_old (by (with_reducible repeat (first|apply yy4|apply yy5|apply yy6));exact (Kd.S_mono (Kd.S_far (p := ⟨gb318, 1, none⟩) (Kd.S_far (p := ⟨gb318, 0, none⟩) (Kd.S_types HO313.out BK318.out (by decide)) (fun _ hk => hk.2) (.slice Ao38 t311.length co38)) (fun _ hk => hk.2) (.slice Ao40 t314.length co40)) (fun _ h_ => h_.1))) hb) (Kd.S_base ho0)) (Kd.S_base ho1)) (fun _ h_ => h_.1));have n1_ := zA (Kd.S_mono (Kd.S_told (Kd.S_told (Kd.S_old (by (with_reducible repeat (first|apply yy4|apply yy5|apply yy6));exact (Kd.S_mono (Kd.S_far (p := ⟨gb318, 1, none⟩) (Kd.S_far (p := ⟨gb318, 0, none⟩) (Kd.S_types HO316.out BK318.out (by decide)) (fun _ hk => hk.2) (.slice Ao38 t311.length co38)) (fun _ hk => hk.2) (.slice Ao40 t314.length co40)) (fun _ h_ => h_.1))) hb) (Kd.S_base ho0)) (Kd.S_base ho1)) (fun _ h_ => h_.1));have n2_ := zA (Kd.S_lower (Kd.S_new' (Kd.S_new' ho0 (Kd.S_lt (by (with_reducible repeat (first|apply yy4|apply yy5|apply yy6));exact (Kd.S_mono (Kd.S_far (p := ⟨gb318, 1, none⟩) (Kd.S_far (p := ⟨gb318, 0, none⟩) (Kd.S_types HO313.out BK318.out (by decide)) (fun _ hk => hk.2) (.slice Ao38 t311.length co38)) (fun _ hk => hk.2) (.slice Ao40 t314.length co40)) (fun _ h_ => h_.1))))) (Kd.S_lt (by (with_reducible repeat (first|apply yy4|apply yy5|apply yy6));exact (Kd.S_mono (Kd.S_far (p := ⟨gb318, 1, none⟩) (Kd.S_far (p := ⟨gb318, 0, none⟩) (Kd.S_types HO316.out BK318.out (by decide)) (fun _ hk => hk.2) (.slice Ao38 t311.length co38)) (fun _ hk => hk.2) (.slice Ao40 t314.length co40)) (fun _ h_ => h_.1))))) (zO (by repeat (first|(with_reducible first|exact HB.out|apply zG|apply zF|apply zH|refine zI ?_ GE318.out)|exact HB.out))));have n3_ := zA (Kd.S_lower (Kd.S_new' (Kd.S_new' ho1 (Kd.S_lt (by (with_reducible repeat (first|apply yy4|apply yy5|apply yy6));exact (Kd.S_mono (Kd.S_far (p := ⟨gb318, 1, none⟩) (Kd.S_far (p := ⟨gb318, 0, none⟩) (Kd.S_types HO313.out BK318.out (by decide)) (fun _ hk => hk.2) (.slice Ao38 t311.length co38)) (fun _ hk => hk.2) (.slice Ao40 t314.length co40)) (fun _ h_ => h_.1))))) (Kd.S_lt (by (with_reducible repeat (first|apply yy4|apply yy5|apply yy6));exact (Kd.S_mono (Kd.S_far (p := ⟨gb318, 1, none⟩) (Kd.S_far (p := ⟨gb318, 0, none⟩) (Kd.S_types HO316.out BK318.out (by decide)) (fun _ hk => hk.2) (.slice Ao38 t311.length co38)) (fun _ hk => hk.2) (.slice Ao40 t314.length co40)) (fun _ h_ => h_.1))))) (zO (by repeat (first|(with_reducible first|exact HB.out|apply zG|apply zF|apply zH|refine zI ?_ GE318.out)|exact HB.out))));have n4_ := zA (zQ (g := gb318) (o := .cells #[.slice Ao38 t311.length co38, .slice Ao40 t314.length co40] 48 (0, 0)) (by (with_reducible repeat (first|refine zJ ?_ _|refine zK ?_|refine zL ?_ _));refine blk_put (cs := #[.slice Ao38 t311.length co38, .slice none 0 0]) ?_ 1 _ rfl;(with_reducible repeat (first|refine zJ ?_ _|refine zK ?_|refine zL ?_ _));refine blk_put (cs := #[.slice none 0 0, .slice none 0 0]) ?_ 0 _ rfl;(with_reducible repeat (first|refine zJ ?_ _|refine zK ?_|refine zL ?_ _));exact BK318.out) hb);have n5_ := zA (zN (by repeat (first|(with_reducible first|exact HB.out|apply zG|apply zF|apply zH|refine zI ?_ GE318.out)|exact HB.out)) hb);clear HO313;clear HO316;clear BK318;clear HB;have HO313 := n0_;have HO316 := n1_;have HO321 := n2_;have HO324 := n3_;have BK318 := n4_;have HB := n5_;clear n0_ n1_ n2_ n3_ n4_ n5_;(try clear hb);(try clear hb2);(try clear hk);(try clear hi);(try clear ho0);(try clear ho1))|((with_reducible refine gate_dst (N := 7) rfl ?_);refine box_event ?hg (N := 7) ?hd (cs := #[.slice none 0 0, .slice none 0 0]) (t := 48) ?hr ?_;(case hd => rfl);(case hg => rfl);(case hr => first|(go_simp;done)|(go_simp;rfl));intro gb326 hg w42 hbox hb;have n0_ := zA (yy10 (by (with_reducible repeat (first|apply yy4|apply yy5|apply yy6));exact HO313.out) hb);have n1_ := zA (yy10 (by (with_reducible repeat (first|apply yy4|apply yy5|apply yy6));exact HO316.out) hb);have n2_ := zA (yy10 (by (with_reducible repeat (first|apply yy4|apply yy5|apply yy6));exact HO321.out) hb);have n3_ := zA (yy10 (by (with_reducible repeat (first|apply yy4|apply yy5|apply yy6));exact HO324.out) hb);have n4_ := zA (zQ (g := gb318) (o := .cells #[.slice Ao38 t311.length co38, .slice Ao40 t314.length co40] 48 (0, 0)) (by (with_reducible repeat (first|refine zJ ?_ _|refine zK ?_|refine zL ?_ _));exact BK318.out) hb);have n5_ := zA (zN (by repeat (first|(with_reducible first|exact HB.out|apply zG|apply zF|apply zH|refine zI ?_ GE318.out)|exact HB.out)) hb);have n6_ := zA (hbox);have n7_ := zA ((by rw [hg];exact (zO (by repeat (first|(with_reducible first|exact HB.out|apply zG|apply zF|apply zH|refine zI ?_ GE318.out)|exact HB.out))) : w.heap.size ≤ gb326));have n8_ := zA ((by rw [hg];exact (zO (by repeat (first|(with_reducible first|exact HB.out|apply zG|apply zF|apply zH|refine zI ?_ GE318.out)|exact HB.out))) : w.heap.size ≤ gb326));have n9_ := zA ((by rw [hg];exact Nat.ne_of_lt (blk_lt (g := gb318) (o := .cells #[.slice Ao38 t311.length co38, .slice Ao40 t314.length co40] 48 (0, 0)) (by (with_reducible repeat (first|refine zJ ?_ _|refine zK ?_|refine zL ?_ _));exact BK318.out)) : gb318 ≠ gb326));have n10_ := zA ((by rw [hg];exact Nat.ne_of_gt (blk_lt (g := gb318) (o := .cells #[.slice Ao38 t311.length co38, .slice Ao40 t314.length co40] 48 (0, 0)) (by (with_reducible repeat (first|refine zJ ?_ _|refine zK ?_|refine zL ?_ _));exact BK318.out)) : gb326 ≠ gb318));clear HO313;clear HO316;clear HO321;clear HO324;clear BK318;clear HB;have HO313 := n0_;have HO316 := n1_;have HO321 := n2_;have HO324 := n3_;have BK318 := n4_;have HB := n5_;have BK326 := n6_;have GW326 := n7_;have GE326 := n8_;have NB318_326 := n9_;have NB326_318 := n10_;clear n0_ n1_ n2_ n3_ n4_ n5_ n6_ n7_ n8_ n9_ n10_;clear hb hbox hg;obtain ⟨Ao43, co43, eo43⟩ := Kd.S_slice HO321.out;subst eo43;have hnb44 := NB326_318.out;have hnc44 := NB318_326.out;have hcz45_0 : w42.cell? ⟨gb326, 0, none⟩ = some (.slice none 0 0) := (zP BK326.out 0).trans rfl;have hcz45_1 : w42.cell? ⟨gb326, 1, none⟩ = some (.slice none 0 0) := (zP BK326.out 1).trans rfl;have hfz45_0 := zR BK326.out 0;have hfz45_1 := zR BK326.out 1;obtain ⟨Ao46, co46, eo46⟩ := Kd.S_slice HO324.out;subst eo46))
  go_ret
  exact ⟨by first|rfl|(simp [errW_none, errW_some] <;> rfl)|(simp [*, errW_none, errW_some] <;> rfl), by repeat (first|(with_reducible first|exact HB.out|apply zG|apply zF|apply zH|refine zI ?_ GE318.out|refine zI ?_ GE326.out)|exact HB.out)⟩

end Go.Proofs.YtgddljealeklkaaDoor.PL
end
-- PureLevelsBuild
section
namespace Go.Proofs.YtgddljealeklkaaDoor.Pure
open Go Go.RowKit Go.Proofs.YtgddljealeklkaaDoor.PL Go.Proofs.YtgddljealeklkaaDoorW.PrintWords Go.Proofs.YtgddljealeklkaaDoorW.PrintLast Go.Proofs.YtgddljealeklkaaDoorQ
set_option linter.unusedVariables false
set_option linter.unusedSimpArgs false
theorem div_step (v : BitVec 64) (d : Nat) : v.toNat / 2 ^ d = 2 * (v.toNat / 2 ^ (d + 1)) + (if v.getLsbD d = true then 1 else 0) := by
 have h1 : v.toNat / 2 ^ (d + 1) = v.toNat / 2 ^ d / 2 := by rw [Nat.pow_succ, Nat.div_div_eq_div_mul]
 have h2 : v.getLsbD d = decide (v.toNat / 2 ^ d % 2 = 1) := by
  show v.toNat.testBit d = _
  rw [Nat.testBit_eq_decide_div_mod_eq]
 rw [h1, h2]
 by_cases h : v.toNat / 2 ^ d % 2 = 1
 ·rw [zz1 h, if_pos rfl];omega
 ·rw [decide_eq_false h, if_neg (by decide)];omega
theorem need_eq (n : Nat) (h : n ≤ 140737488355328) : quarryref04_need.f (n : Int) = some ((nwords n : Nat) : Int) := by
 unfold quarryref04_need.f
 have e1 : Int.tmod (n : Int) 64 = ((n % 64 : Nat) : Int) := rfl
 have e2 : Int.tdiv (n : Int) 64 = ((n / 64 : Nat) : Int) := rfl
 have e3 : wrap64 ((n / 64 : Nat) : Int) = ((n / 64 : Nat) : Int) := by unfold wrap64;omega
 rw [e1, e2, e3]
 have e4 : wrap64 (((n / 64 : Nat) : Int) + 1) = ((n / 64 : Nat) : Int) + 1 := by unfold wrap64;omega
 rw [e4]
 unfold nwords
 by_cases h : n % 64 = 0
 ·rw [if_pos (by omega)];congr 1;omega
 ·rw [if_neg (by omega)];congr 1;omega
theorem of_inner (l : List Bool) (w : Nat) (hw : w ≤ 2199023255552) (z : Int) (ws : List Int) (hs : ws.length < 17592186044416) :
  ∀ (d k : Nat), d ≤ 64 → quarryref04_Of.l1 (k + d + 1) l (w : Int) (((wordAt l.length (fun i => l.getD i false) w).toNat / 2 ^ d : Nat) : Int) ((d : Int) - 1) z ws =
   quarryref04_Of.l0 k l ((w + 1 : Nat) : Int) z (ws ++ [iv (wordAt l.length (fun i => l.getD i false) w)]) := by
 intro d
 induction d with
 | zero =>
  intro k hd
  have e : wrap64 ((w : Int) + 1) = ((w + 1 : Nat) : Int) := by unfold wrap64;omega
  unfold quarryref04_Of.l1
  rw [if_neg (by omega), if_pos hs, e, Nat.pow_zero, Nat.div_one]
  rfl
 | succ d ih =>
  intro k hd
  have e0 : wrap64 (64 * (w : Int)) = 64 * (w : Int) := by unfold wrap64;omega
  have e1 : wrap64 (64 * (w : Int) + (((d + 1 : Nat) : Int) - 1)) = ((64 * w + d : Nat) : Int) := by unfold wrap64;omega
  have e2 : wrap64 ((((d + 1 : Nat) : Int) - 1) - 1) = (d : Int) - 1 := by unfold wrap64;omega
  have hst := div_step (wordAt l.length (fun i => l.getD i false) w) d
  have hlt : (wordAt l.length (fun i => l.getD i false) w).toNat / 2 ^ d < 18446744073709551616 := Nat.lt_of_le_of_lt (Nat.div_le_self _ _) (wordAt l.length (fun i => l.getD i false) w).isLt
  have hbit : (wordAt l.length (fun i => l.getD i false) w).getLsbD d = (decide (64 * w + d < l.length) && l.getD (64 * w + d) false) := by
   unfold wordAt
   rw [word_bit]
   simp [show d < 64 by omega]
  have hi := ih k (by omega)
  rw [hbit] at hst
  generalize (wordAt l.length (fun i => l.getD i false) w).toNat / 2 ^ d = X at hst hlt hi ⊢
  generalize (wordAt l.length (fun i => l.getD i false) w).toNat / 2 ^ (d + 1) = Y at hst ⊢
  have er : rdOf false l ((64 * w + d : Nat) : Int) = l.getD (64 * w + d) false := by unfold rdOf;rw [Int.toNat_natCast]
  show quarryref04_Of.l1 ((k + d + 1) + 1) l _ _ _ z ws = _
  unfold quarryref04_Of.l1
  rw [if_pos (by omega), e0, e1, e2, er]
  by_cases h : 64 * w + d < l.length
  ·rw [if_pos (by omega), if_pos (by omega)]
   rw [zz1 h, Bool.true_and] at hst
   by_cases g : l.getD (64 * w + d) false = true
   ·rw [if_pos g] at hst ⊢
    have e3 : IntKind.u64.wrap (IntKind.u64.wrap (2 * (Y : Int)) + 1) = (X : Int) := by rw [IntKind.wrap_u64, IntKind.wrap_u64];omega
    rw [e3]
    exact hi
   ·rw [if_neg g] at hst ⊢
    have e3 : IntKind.u64.wrap (2 * (Y : Int)) = (X : Int) := by rw [IntKind.wrap_u64];omega
    rw [e3]
    exact hi
  ·rw [if_neg (by omega)]
   rw [decide_eq_false h, Bool.false_and, if_neg (by decide)] at hst
   have e3 : IntKind.u64.wrap (2 * (Y : Int)) = (X : Int) := by rw [IntKind.wrap_u64];omega
   rw [e3]
   exact hi
theorem of_loop (l : List Bool) (hl : l.length ≤ 140737488355328) (z : Int) :
  ∀ (d i k : Nat), i + d = nwords l.length → 66 * d < k → quarryref04_Of.l0 k l (i : Int) z ((List.range i).map fun j => iv (wordAt l.length (fun i => l.getD i false) j)) = some (z, wordsOf l.length fun i => l.getD i false) := by
 have hw : nwords l.length ≤ 2199023255552 := by unfold nwords;omega
 intro d
 induction d with
 | zero =>
  intro i k hi hk
  obtain ⟨k, rfl⟩ : ∃ m, k = m + 1 := ⟨k - 1, by omega⟩
  unfold quarryref04_Of.l0
  rw [need_eq _ hl, zz3, if_neg (by omega), show i = nwords l.length by omega]
  rfl
 | succ d ih =>
  intro i k hi hk
  obtain ⟨k, rfl⟩ : ∃ m, k = (m + 64 + 1) + 1 := ⟨k - 66, by omega⟩
  unfold quarryref04_Of.l0
  rw [need_eq _ hl, zz3, if_pos (by omega)]
  have := of_inner l i (by omega) z ((List.range i).map fun j => iv (wordAt l.length (fun i => l.getD i false) j)) (by rw [List.length_map, List.length_range];omega) 64 k (by omega)
  have e : (wordAt l.length (fun i => l.getD i false) i).toNat / 2 ^ 64 = 0 := Nat.div_eq_of_lt (wordAt l.length (fun i => l.getD i false) i).isLt
  rw [e] at this
  have h2 := ih (i + 1) k (by omega) (by omega)
  rw [List.range_succ, List.map_append] at h2
  exact this.trans h2
theorem of_eq (l : List Bool) (hl : l.length ≤ 140737488355328) (k : Nat) (hk : 66 * nwords l.length < k) : quarryref04_Of.f k l = some ((l.length : Int), wordsOf l.length fun i => l.getD i false) := by
 unfold quarryref04_Of.f
 exact of_loop l hl _ (nwords l.length) 0 k (by omega) (by omega)
theorem set_step {α : Type} (n : Nat) (f d : Nat → α) {i : Nat} (h : i < n) : ((List.range n).map fun j => if j < i then f j else d j).set i (f i) = (List.range n).map fun j => if j < i + 1 then f j else d j := by
 apply List.ext_getElem?
 intro j
 rw [List.getElem?_set, List.getElem?_map, List.getElem?_map, List.length_map, List.length_range]
 by_cases hj : j < n
 ·rw [List.getElem?_range hj]
  by_cases e : i = j
  ·subst e
   rw [if_pos rfl, if_pos hj]
   simp
  ·rw [if_neg e]
   by_cases g : j < i
   ·simp [g, show j < i + 1 by omega]
   ·simp [g, show ¬ j < i + 1 by omega]
 ·rw [List.getElem?_eq_none (by rw [List.length_range];omega), if_neg (by omega)]
  simp
theorem set_done {α : Type} (n : Nat) (f d : Nat → α) : ((List.range n).map fun j => if j < n then f j else d j) = (List.range n).map f := List.map_congr_left fun j hj => if_pos (List.mem_range.1 hj)
theorem w64s (i n : Nat) (h : i < n) (hn : n ≤ 281474976702464) : wrap64 ((i : Int) + 1) = ((i + 1 : Nat) : Int) := by unfold wrap64;omega
theorem marks7_loop (s : ByteArray) (hn : s.size ≤ 140737488351232) :
  ∀ (d i k : Nat), i + d = s.size → d < k → quarryref07_marks.l0 k s ((List.range s.size).map fun j => if j < i then mkq s j else false) (esc s false i) (i : Int) = some ((List.range s.size).map (mkq s)) := by
 intro d
 induction d with
 | zero =>
  intro i k hi hk
  obtain ⟨k, rfl⟩ : ∃ m, k = m + 1 := ⟨k - 1, by omega⟩
  unfold quarryref07_marks.l0
  rw [if_neg (by omega), show i = s.size by omega, set_done]
 | succ d ih =>
  intro i k hi hk
  obtain ⟨k, rfl⟩ : ∃ m, k = m + 1 := ⟨k - 1, by omega⟩
  have h2 := ih (i + 1) k (by omega) (by omega)
  rw [← set_step s.size (mkq s) (fun _ => false) (show i < s.size by omega)] at h2
  have hl : ((List.range s.size).map fun j => if j < i then mkq s j else false).length = s.size := by simp
  unfold quarryref07_marks.l0
  rw [if_pos (by omega), if_pos (by omega), w64s i s.size (by omega) (by omega)]
  have he : ∀ b : Bool, decide (bt s (i : Int) = 34) = b → mkq s i = (b && !esc s false i) := fun b hb => by unfold mkq;rw [hb]
  have hx : esc s false (i + 1) = (decide (bt s (i : Int) = 92) && !esc s false i) := rfl
  by_cases h34 : bt s (i : Int) = 34
  ·rw [he true (zz1 h34), Bool.true_and, hx, decide_eq_false (by omega), Bool.false_and] at h2
   rw [if_pos h34, if_pos (by rw [hl];omega), zz3, Int.toNat_natCast, if_neg (by omega)]
   exact h2
  ·rw [he false (decide_eq_false h34), Bool.false_and, hx] at h2
   rw [if_neg h34, if_pos (by rw [hl];omega), zz3, Int.toNat_natCast]
   by_cases h92 : bt s (i : Int) = 92
   ·rw [zz1 h92, Bool.true_and] at h2
    rw [if_pos h92]
    exact h2
   ·rw [decide_eq_false h92, Bool.false_and] at h2
    rw [if_neg h92]
    exact h2
theorem marks7_eq (s : ByteArray) (hn : s.size ≤ 140737488351232) (k : Nat) (hk : s.size < k) : quarryref07_marks.f k s = some ((List.range s.size).map (mkq s)) := by
 have h := marks7_loop s hn s.size 0 k (by omega) hk
 unfold quarryref07_marks.f
 rw [if_pos (by omega), Int.toNat_natCast, if_pos (by omega)]
 have e : ((List.range s.size).map fun j => if j < 0 then mkq s j else false) = List.replicate s.size false := by
  apply List.ext_getElem? 
  intro j
  rw [List.getElem?_map, List.getElem?_replicate]
  by_cases hj : j < s.size
  ·rw [List.getElem?_range hj, if_pos hj]
   simp
  ·rw [List.getElem?_eq_none (by rw [List.length_range];omega), if_neg hj]
   rfl
 rw [e] at h
 exact h
theorem inside7_loop (s : ByteArray) (hn : s.size ≤ 140737488351232) :
  ∀ (d i k : Nat), i + d = s.size → d < k → quarryref07_inside.l0 k ((List.range s.size).map fun j => if j < i then insS s j else mkq s j) (par (mkq s) i) (i : Int) = some ((List.range s.size).map (insS s)) := by
 intro d
 induction d with
 | zero =>
  intro i k hi hk
  obtain ⟨k, rfl⟩ : ∃ m, k = m + 1 := ⟨k - 1, by omega⟩
  unfold quarryref07_inside.l0
  rw [if_neg (by simp;omega), show i = s.size by omega, set_done]
 | succ d ih =>
  intro i k hi hk
  obtain ⟨k, rfl⟩ : ∃ m, k = m + 1 := ⟨k - 1, by omega⟩
  have h2 := ih (i + 1) k (by omega) (by omega)
  rw [← set_step s.size (insS s) (mkq s) (show i < s.size by omega)] at h2
  have hr : rdOf false ((List.range s.size).map fun j => if j < i then insS s j else mkq s j) (i : Int) = mkq s i := by
   unfold rdOf
   rw [Int.toNat_natCast, List.getD_eq_getElem?_getD, List.getElem?_map, List.getElem?_range (by omega)]
   simp
  have hi1 : insS s i = (par (mkq s) i ^^ mkq s i) := rfl
  have hp : par (mkq s) (i + 1) = (par (mkq s) i ^^ mkq s i) := rfl
  unfold quarryref07_inside.l0
  rw [if_pos (by simp;omega), if_pos (by omega), w64s i s.size (by omega) (by omega), hr, Int.toNat_natCast]
  rw [hi1, hp] at h2
  cases h : mkq s i
  ·rw [h, Bool.xor_false] at h2
   rw [if_neg (by decide)]
   exact h2
  ·rw [h, Bool.xor_true] at h2
   rw [if_pos rfl]
   exact h2
theorem inside7_eq (s : ByteArray) (hn : s.size ≤ 140737488351232) (k : Nat) (hk : s.size < k) : quarryref07_inside.f k s = some ((List.range s.size).map (insS s)) := by
 have h := inside7_loop s hn s.size 0 k (by omega) hk
 unfold quarryref07_inside.f
 rw [marks7_eq s hn k hk, zz3]
 exact h
theorem shl_one (m : Nat) (h : m < 64) : shl .u64 1 (m : Int) = ((2 ^ m : Nat) : Int) := by
 have : ∀ m : Fin 64, shl .u64 1 ((m.val : Nat) : Int) = ((2 ^ m.val : Nat) : Int) := by decide
 exact this ⟨m, h⟩
theorem shl_one' (m : Nat) (h : m < 64) : shl .u64 1 (m : Int) = iv (1#64 <<< m) := by
 rw [shl_one m h]
 unfold iv
 rw [BitVec.toNat_shiftLeft, Nat.shiftLeft_eq]
 have : 2 ^ m < 2 ^ 64 := Nat.pow_lt_pow_right (by decide) h
 rw [show (1#64).toNat = 1 from rfl, Nat.one_mul, Nat.mod_eq_of_lt this]
theorem and_bit (p : Nat → Bool) (m : Nat) (h : m < 64) : (bits .and .u64 (iv (word p)) (shl .u64 1 (m : Int)) = 0) ↔ p m = false := by
 rw [shl_one' m h, bits_and, show (0 : Int) = iv 0#64 from rfl, iv_inj]
 have hb : ∀ j, j < 64 → (word p &&& 1#64 <<< m).getLsbD j = (p j && decide (j = m)) := fun j hj => by
  rw [BitVec.getLsbD_and, word_bit, BitVec.getLsbD_shiftLeft, zz1 hj]
  by_cases g : j < m
  ·simp [g, show ¬ j = m by omega]
  ·by_cases g2 : j = m
   ·subst g2
    simp
   ·have : (1#64).getLsbD (j - m) = false := by
     have h1 : ∀ i : Fin 64, i.val ≠ 0 → (1#64).getLsbD i.val = false := by decide
     exact h1 ⟨j - m, by omega⟩ (by show j - m ≠ 0;omega)
    simp [g, g2, this]
 constructor
 ·intro e
  have := hb m h
  rw [e] at this
  simpa using this.symm
 ·intro e
  apply BitVec.eq_of_getLsbD_eq
  intro j hj
  rw [hb j hj]
  by_cases g : j = m
  ·subst g;rw [e];simp
  ·simp [g]
theorem wordAt_fun (n : Nat) (q : Nat → Bool) (k : Nat) : wordAt n q k = word fun i => decide (64 * k + i < n) && q (64 * k + i) := rfl
theorem ends_eq (n : Nat) (q : Nat → Bool) (k : Nat) (h : 64 * k + 63 < n) (a b c : Int) : marks_rows_ends.f a b c (iv (wordAt n q k)) = some (q (64 * k + 63)) := by
 unfold marks_rows_ends.f
 rw [wordAt_fun, top_word, zz1 h, Bool.true_and]
 cases q (64 * k + 63) <;> rfl
def startB (n : Nat) (q : Nat → Bool) (k : Nat) (c : Bool) (j : Nat) : Bool := (decide (64 * k + j < n) && q (64 * k + j)) && !(if j = 0 then c else decide (64 * k + (j - 1) < n) && q (64 * k + (j - 1)))
theorem starts_eq (n : Nat) (q : Nat → Bool) (k : Nat) (c : Bool) (x y z : Int) : marks_rows_starts.f x y z (iv (wordAt n q k)) c = some (iv (word (startB n q k c))) := by
 have e1 : IntKind.u64.wrap (iv (wordAt n q k) * 2) = iv (wordAt n q k <<< 1) := wrap_shl _ 1
 have e2 : (1 : Int) = iv 1#64 := rfl
 have h1 : ∀ i : Fin 64, (1#64).getLsbD i.val = decide (i.val = 0) := by decide
 unfold marks_rows_starts.f
 cases c with
 | true =>
  rw [if_pos rfl, e1, e2, bits_or, bits_andNot]
  apply congrArg (fun w => some (iv w))
  apply eq_word
  intro j hj
  rw [BitVec.getLsbD_and, BitVec.getLsbD_not, BitVec.getLsbD_or, BitVec.getLsbD_shiftLeft, wordAt_fun, word_bit, word_bit, h1 ⟨j, hj⟩, zz1 hj]
  unfold startB
  by_cases g : j = 0
  ·subst g;simp
  ·rw [if_neg g, decide_eq_false (show ¬ j < 1 by omega), zz1 (show j - 1 < 64 by omega), decide_eq_false (show ¬ (⟨j, hj⟩ : Fin 64).val = 0 from g)]
   simp
 | false =>
  rw [if_neg (by decide), e1, bits_andNot]
  apply congrArg (fun w => some (iv w))
  apply eq_word
  intro j hj
  rw [BitVec.getLsbD_and, BitVec.getLsbD_not, BitVec.getLsbD_shiftLeft, wordAt_fun, word_bit, word_bit, zz1 hj]
  unfold startB
  by_cases g : j = 0
  ·subst g;simp
  ·rw [if_neg g, decide_eq_false (show ¬ j < 1 by omega), zz1 (show j - 1 < 64 by omega)]
   simp
def kindB (s : ByteArray) (i : Nat) : Int := if mkq s i && insS s i then 3 else if mkq s i then 4 else if insS s i then 5 else if sgx (bt s (i : Int)).toNat then 1 else if blx (bt s (i : Int)).toNat then 2 else 6
theorem kb_sg (s : ByteArray) (i : Nat) : sgq s i = decide (kindB s i = 1) := by
 unfold kindB sgq outq
 cases hm : mkq s i <;> cases hn : insS s i <;> cases hs : sgx (bt s (i : Int)).toNat <;> cases hb : blx (bt s (i : Int)).toNat <;> simp
theorem kb_op (s : ByteArray) (i : Nat) : opq s i = decide (kindB s i = 3) := by
 unfold kindB opq
 cases hm : mkq s i <;> cases hn : insS s i <;> cases hs : sgx (bt s (i : Int)).toNat <;> cases hb : blx (bt s (i : Int)).toNat <;> simp
theorem kb_wd (s : ByteArray) (i : Nat) : wdq s i = decide (kindB s i = 6) := by
 unfold wdq sgq blq kindB outq
 cases hm : mkq s i <;> cases hn : insS s i <;> cases hs : sgx (bt s (i : Int)).toNat <;> cases hb : blx (bt s (i : Int)).toNat <;> simp
def kindR (s : ByteArray) (i : Nat) : Int := if kindB s i = 1 ∨ kindB s i = 3 then bt s (i : Int) else if kindB s i = 6 ∧ (i = 0 ∨ kindB s (i - 1) ≠ 6) then 119 else 0
theorem rd_look (s : ByteArray) (k : Nat) (h : k < nwords s.size) : rd_T77 (lookL s) (k : Int) = rowS s k := by
 unfold rd_T77 lookL
 rw [Int.toNat_natCast, List.getD_eq_getElem?_getD, List.getElem?_map, List.getElem?_range h]
 rfl
theorem kind_last (s : ByteArray) (i k : Nat) (hi : i < s.size) (c : Bool) (hc : c = if 64 ≤ i then wdq s (64 * (i / 64) - 1) else false) :
  marks_Kind.j1 (k + 1) s (i : Int) (shl .u64 1 ((i % 64 : Nat) : Int)) c (rowS s (i / 64)).f0 (rowS s (i / 64)).f1 (rowS s (i / 64)).f2 (rowS s (i / 64)).f3 = some (kindR s i) := by
 have hm : i % 64 < 64 := Nat.mod_lt _ (by decide)
 have hd : 64 * (i / 64) + i % 64 = i := by omega
 have e0 : (rowS s (i / 64)).f0 = iv (wordAt s.size (sgq s) (i / 64)) := rfl
 have e2 : (rowS s (i / 64)).f2 = iv (wordAt s.size (opq s) (i / 64)) := rfl
 have e3 : (rowS s (i / 64)).f3 = iv (wordAt s.size (wdq s) (i / 64)) := rfl
 have hor : bits .or .u64 (iv (wordAt s.size (sgq s) (i / 64))) (iv (wordAt s.size (opq s) (i / 64))) = iv (word fun j => (decide (64 * (i / 64) + j < s.size) && sgq s (64 * (i / 64) + j)) || (decide (64 * (i / 64) + j < s.size) && opq s (64 * (i / 64) + j))) := mask_or _ _
 simp only [marks_Kind.j1]
 rw [e0, e2, hor]
 by_cases h : kindB s i = 1 ∨ kindB s i = 3
 ·rw [if_neg (by
   rw [and_bit _ _ hm]
   simp only [hd, zz1 hi, Bool.true_and, kb_sg, kb_op]
   rcases h with h|h <;> simp [h]), if_pos (by omega), if_pos (by omega)]
  unfold kindR
  rw [if_pos h]
 ·have h1 : kindB s i ≠ 1 := fun e => h (.inl e)
  have h3 : kindB s i ≠ 3 := fun e => h (.inr e)
  rw [if_pos (by
   rw [and_bit _ _ hm]
   simp only [hd, zz1 hi, Bool.true_and, kb_sg, kb_op]
   simp [h1, h3]), e3, starts_eq, zz3]
  unfold kindR
  rw [if_neg h]
  have hst : startB s.size (wdq s) (i / 64) c (i % 64) = decide (kindB s i = 6 ∧ (i = 0 ∨ kindB s (i - 1) ≠ 6)) := by
   unfold startB
   rw [hd, zz1 hi, Bool.true_and, kb_wd, hc]
   by_cases g0 : i % 64 = 0
   ·rw [if_pos g0]
    by_cases g1 : 64 ≤ i
    ·rw [if_pos g1, show 64 * (i / 64) - 1 = i - 1 by omega, kb_wd]
     by_cases a : kindB s i = 6 <;> by_cases b : kindB s (i - 1) = 6 <;> simp [a, b, show ¬ i = 0 by omega]
    ·rw [if_neg g1]
     have : i = 0 := by omega
     subst this
     simp
   ·rw [if_neg g0, show 64 * (i / 64) + (i % 64 - 1) = i - 1 by omega, zz1 (show i - 1 < s.size by omega), Bool.true_and, kb_wd]
    by_cases a : kindB s i = 6 <;> by_cases b : kindB s (i - 1) = 6 <;> simp [a, b, show ¬ i = 0 by omega]
  by_cases hb : kindB s i = 6 ∧ (i = 0 ∨ kindB s (i - 1) ≠ 6)
  ·rw [if_neg (by rw [and_bit _ _ hm, hst, zz1 hb];decide), if_pos hb]
  ·rw [if_pos (by rw [and_bit _ _ hm, hst, decide_eq_false hb]), if_neg hb]
theorem kind_eq (s : ByteArray) (hn : s.size ≤ 1048576) (i : Nat) (hi : i < s.size) (k : Nat) : marks_Kind.f (k + 2) s (i : Int) = some (kindR s i) := by
 have e1 : Int.tmod (i : Int) 64 = ((i % 64 : Nat) : Int) := rfl
 have e2 : Int.tdiv (i : Int) 64 = ((i / 64 : Nat) : Int) := rfl
 have e3 : wrap64 ((i / 64 : Nat) : Int) = ((i / 64 : Nat) : Int) := by unfold wrap64;omega
 have hl : (lookL s).length = nwords s.size := by simp [lookL]
 have hw : i / 64 < nwords s.size := by unfold nwords;omega
 unfold marks_Kind.f
 rw [if_neg (by omega), decide_eq_false (by omega)]
 simp only [marks_Kind.j0, marks_look.f]
 rw [if_neg (by decide), if_pos (by omega), zz3, e1, e2, e3, hl, if_pos (by omega), if_pos (by omega), if_pos (by omega), rd_look s _ hw]
 by_cases g : 64 ≤ i
 ·have e4 : wrap64 (((i / 64 : Nat) : Int) - 1) = ((i / 64 - 1 : Nat) : Int) := by unfold wrap64;omega
  rw [if_pos (by omega), e4, if_pos (by omega), if_pos (by omega), rd_look s _ (by omega)]
  have e5 : (rowS s (i / 64 - 1)).f3 = iv (wordAt s.size (wdq s) (i / 64 - 1)) := rfl
  rw [e5, ends_eq _ _ _ (by omega), zz3]
  exact kind_last s i k hi _ (by rw [if_pos g, show 64 * (i / 64 - 1) + 63 = 64 * (i / 64) - 1 by omega])
 ·rw [if_neg (by omega)]
  exact kind_last s i k hi _ (by rw [if_neg g])
theorem kind_out (s : ByteArray) (a : Int) (h : a < 0 ∨ (s.size : Int) ≤ a) (k : Nat) : marks_Kind.f (k + 1) s a = some 0 := by
 unfold marks_Kind.f
 by_cases g : a < 0
 ·rw [if_pos g]
  simp only [marks_Kind.j0]
  rw [if_pos trivial]
 ·rw [if_neg g, zz1 (by omega)]
  simp only [marks_Kind.j0]
  rw [if_pos trivial]
theorem rdB (s : ByteArray) (q : Nat → Bool) (i : Nat) (h : i < s.size) : rdOf false ((List.range s.size).map q) (i : Int) = q i := by
 unfold rdOf
 rw [Int.toNat_natCast, List.getD_eq_getElem?_getD, List.getElem?_map, List.getElem?_range h]
 rfl
theorem w10 {i n : Nat} (h : i ≤ n) (hn : n ≤ 1048576) : wrap64 ((i : Int) + 1) = ((i + 1 : Nat) : Int) := by unfold wrap64;omega
theorem is_eq10 (s : ByteArray) (hn : s.size ≤ 1048576) (k : Nat) (hk : s.size < k) : quarryref07_Is.f k s = some ((List.range s.size).map (mkq s)) := by
 unfold quarryref07_Is.f
 rw [marks7_eq s (by omega) k hk, zz3]
theorem in_eq10 (s : ByteArray) (hn : s.size ≤ 1048576) (k : Nat) (hk : s.size < k) : quarryref07_In.f k s = some ((List.range s.size).map (insS s)) := by
 unfold quarryref07_In.f
 rw [inside7_eq s (by omega) k hk, zz3]
theorem outside_loop (s : ByteArray) (hn : s.size ≤ 1048576) : ∀ (m i k : Nat), i + m = s.size → m < k →
  quarryref10_Outside.l0 k s ((List.range s.size).map (mkq s)) ((List.range s.size).map (insS s)) ((List.range s.size).map fun j => if j < i then outq s j else false) (i : Int) = some ((List.range s.size).map (outq s)) := by
 intro m
 induction m with
 | zero =>
  intro i k hi hk
  obtain ⟨k, rfl⟩ : ∃ j, k = j + 1 := ⟨k - 1, by omega⟩
  rw [Nat.add_zero] at hi
  rw [quarryref10_Outside.l0, if_neg (by omega), hi, set_done]
 | succ m ih =>
  intro i k hi hk
  obtain ⟨k, rfl⟩ : ∃ j, k = j + 1 := ⟨k - 1, by omega⟩
  have hlt : i < s.size := by omega
  have h := ih (i + 1) k (by omega) (by omega)
  have hs : ∀ v, v = outq s i → ((List.range s.size).map fun j => if j < i then outq s j else false).set i v = (List.range s.size).map fun j => if j < i + 1 then outq s j else false := fun v hv => by rw [hv];exact set_step s.size (outq s) (fun _ => false) hlt
  have hl : ∀ q : Nat → Bool, ((((List.range s.size).map q).length : Nat) : Int) = (s.size : Int) := fun q => by simp
  rw [quarryref10_Outside.l0, if_pos (by omega), if_pos (by omega), if_pos (by rw [hl];omega), rdB s _ i hlt, rdB s _ i hlt, w10 (by omega) hn, Int.toNat_natCast]
  cases hm : mkq s i with
  | true =>
   have ho : outq s i = false := by unfold outq;rw [hm];rfl
   rw [if_pos rfl, if_pos (by rw [hl];omega), hs false ho.symm]
   exact h
  | false =>
   have ho : outq s i = !(insS s i) := by unfold outq;rw [hm];rfl
   rw [if_neg (by decide), if_pos (by rw [hl];omega), if_pos (by rw [hl];omega), hs _ ho.symm]
   exact h
theorem outside_eq (s : ByteArray) (hn : s.size ≤ 1048576) (k : Nat) (hk : s.size < k) : quarryref10_Outside.f k s = some ((List.range s.size).map (outq s)) := by
 unfold quarryref10_Outside.f
 rw [is_eq10 s hn k hk, zz3, in_eq10 s hn k hk, zz3, if_pos (by omega), if_pos (by omega), Int.toNat_natCast]
 have h := outside_loop s hn s.size 0 k (by omega) hk
 have e : ((List.range s.size).map fun j => if j < 0 then outq s j else false) = List.replicate s.size false := by
  apply List.ext_getElem
  ·simp
  ·intro i h1 h2
   simp
 rw [e] at h
 exact h
theorem opens_eq (c : Int) : quarryref10_Opens.f c = some (opensB c) := by
 unfold quarryref10_Opens.f opensB
 by_cases h : c = 123
 ·rw [if_pos h, h];rfl
 ·rw [if_neg h, show (c == 123) = false from beq_eq_false_iff_ne.mpr h, Bool.false_or]
theorem closes_eq (c : Int) : quarryref10_Closes.f c = some (closesB c) := by
 unfold quarryref10_Closes.f closesB
 by_cases h : c = 125
 ·rw [if_pos h, h];rfl
 ·rw [if_neg h, show (c == 125) = false from beq_eq_false_iff_ne.mpr h, Bool.false_or]
theorem op_out (s : ByteArray) (i : Nat) : (outq s i && opensB (bt s (i : Int))) = opS s i := by
 unfold opS sgq
 rw [sgx_bytes (bt_nn s i)]
 cases opensB (bt s (i : Int)) <;> cases outq s i <;> simp
theorem cl_out (s : ByteArray) (i : Nat) : (outq s i && closesB (bt s (i : Int))) = clS s i := by
 unfold clS sgq
 rw [sgx_bytes (bt_nn s i)]
 cases closesB (bt s (i : Int)) <;> cases outq s i <;> simp
theorem op_not_cl (s : ByteArray) (i : Nat) (h : opS s i = true) : clS s i = false := by
 unfold opS at h
 unfold clS
 simp only [Bool.and_eq_true] at h
 have h2 : closesB (bt s (i : Int)) = false := by
  have h3 := h.2
  unfold opensB at h3
  unfold closesB
  simp only [Bool.or_eq_true, beq_iff_eq] at h3
  rw [Bool.or_eq_false_iff, beq_eq_false_iff_ne, beq_eq_false_iff_ne]
  omega
 rw [h2, Bool.and_false]
def depI (s : ByteArray) (i : Nat) : Int := ((dep s i : Nat) : Int)
theorem depths_next (s : ByteArray) (hn : s.size ≤ 1048576) {i : Nat} (hi : i < s.size) (k : Nat) (z : Int) (hz : z = depI s (i + 1)) (R : Option (List Int))
  (h : quarryref10_Depths.l0 k s ((List.range s.size).map (outq s)) ((List.range (i + 2)).map (depI s)) (depI s (i + 1)) ((i + 1 : Nat) : Int) = R) :
  (if ((List.range (i + 1)).map (depI s)).length < 17592186044416 then quarryref10_Depths.l0 k s ((List.range s.size).map (outq s)) (((List.range (i + 1)).map (depI s)) ++ [z]) z (wrap64 ((i : Int) + 1)) else none) = R := by
 rw [if_pos (by rw [List.length_map, List.length_range];omega), w10 (by omega) hn, hz]
 rw [List.range_succ, List.map_append] at h
 exact h
theorem depths_j1 (s : ByteArray) (hn : s.size ≤ 1048576) {i : Nat} (hi : i < s.size) (k : Nat) (R : Option (List Int))
  (h : quarryref10_Depths.l0 k s ((List.range s.size).map (outq s)) ((List.range (i + 2)).map (depI s)) (depI s (i + 1)) ((i + 1 : Nat) : Int) = R) :
  quarryref10_Depths.j1 (k + 1) s ((List.range s.size).map (outq s)) ((List.range (i + 1)).map (depI s)) (depI s i) (i : Int) (opS s i) = R := by
 have hd := dep_le s i
 have hl : ((((List.range s.size).map (outq s)).length : Nat) : Int) = (s.size : Int) := by simp
 have hw1 : wrap64 (depI s i + 1) = depI s i + 1 := by unfold depI wrap64;omega
 have hw2 : wrap64 (depI s i - 1) = depI s i - 1 := by unfold depI wrap64;omega
 have d0 : (0 : Int) ≤ depI s i := Int.natCast_nonneg _
 have hcl := cl_out s i
 rw [quarryref10_Depths.j1]
 cases ho : opS s i with
 | true =>
  have hc := op_not_cl s i ho
  have hz : depI s i + 1 = depI s (i + 1) := by unfold depI;rw [dep_succ, if_pos ho];omega
  rw [if_pos rfl, if_pos (by omega), if_pos (by rw [hl];omega), rdB s _ i hi, hw1]
  rw [hc] at hcl
  by_cases hout : outq s i = true
  ·rw [if_pos hout, if_pos (by omega), closes_eq, zz3]
   rw [hout, Bool.true_and] at hcl
   rw [hcl, if_neg (by decide)]
   exact depths_next s hn hi k _ hz R h
  ·rw [if_neg hout]
   exact depths_next s hn hi k _ hz R h
 | false =>
  rw [if_neg (by decide), if_pos (by omega), if_pos (by rw [hl];omega), rdB s _ i hi]
  by_cases hout : outq s i = true
  ·rw [if_pos hout, if_pos (by omega), closes_eq, zz3]
   rw [hout, Bool.true_and] at hcl
   rw [hcl]
   cases hc : clS s i with
   | true =>
    rw [if_pos rfl]
    by_cases hp : depI s i > 0
    ·have hz : depI s i - 1 = depI s (i + 1) := by
      unfold depI at hp ⊢
      rw [dep_succ, if_neg (by rw [ho];decide), if_pos hc]
      omega
     rw [if_pos hp, hw2]
     exact depths_next s hn hi k _ hz R h
    ·have hz : depI s i = depI s (i + 1) := by
      unfold depI at hp ⊢
      rw [dep_succ, if_neg (by rw [ho];decide), if_pos hc]
      omega
     rw [if_neg hp]
     exact depths_next s hn hi k _ hz R h
   | false =>
    have hz : depI s i = depI s (i + 1) := by unfold depI;rw [dep_succ, if_neg (by rw [ho];decide), if_neg (by rw [hc];decide)]
    rw [if_neg (by decide)]
    exact depths_next s hn hi k _ hz R h
  ·have hout : outq s i = false := by simpa using hout
   rw [hout, Bool.false_and] at hcl
   have hz : depI s i = depI s (i + 1) := by unfold depI;rw [dep_succ, if_neg (by rw [ho];decide), if_neg (by rw [← hcl];decide)]
   rw [hout, if_neg (by decide)]
   exact depths_next s hn hi k _ hz R h
theorem depths_loop (s : ByteArray) (hn : s.size ≤ 1048576) : ∀ (m i k : Nat), i + m = s.size → 2 * m + 1 < k →
  quarryref10_Depths.l0 k s ((List.range s.size).map (outq s)) ((List.range (i + 1)).map (depI s)) (depI s i) (i : Int) = some ((List.range (s.size + 1)).map (depI s)) := by
 intro m
 induction m with
 | zero =>
  intro i k hi hk
  obtain ⟨k, rfl⟩ : ∃ j, k = j + 1 := ⟨k - 1, by omega⟩
  rw [Nat.add_zero] at hi
  rw [quarryref10_Depths.l0, if_neg (by omega), hi]
 | succ m ih =>
  intro i k hi hk
  obtain ⟨k, rfl⟩ : ∃ j, k = j + 2 := ⟨k - 2, by omega⟩
  have hlt : i < s.size := by omega
  have hl : ((((List.range s.size).map (outq s)).length : Nat) : Int) = (s.size : Int) := by simp
  have hj := depths_j1 s hn hlt k _ (ih (i + 1) k (by omega) (by omega))
  have hop := op_out s i
  rw [quarryref10_Depths.l0, if_pos (by omega), if_pos (by omega), if_pos (by rw [hl];omega), rdB s _ i hlt]
  by_cases hout : outq s i = true
  ·rw [if_pos hout, opens_eq, zz3]
   rw [hout, Bool.true_and] at hop
   rw [hop]
   exact hj
  ·have hout : outq s i = false := by simpa using hout
   rw [hout, Bool.false_and] at hop
   rw [hout, if_neg (by decide), hop]
   exact hj
theorem depths_eq (s : ByteArray) (hn : s.size ≤ 1048576) (k : Nat) (hk : 2 * s.size + 1 < k) : quarryref10_Depths.f k s = some ((List.range (s.size + 1)).map (depI s)) := by
 unfold quarryref10_Depths.f
 rw [outside_eq s hn k (by omega), zz3]
 exact depths_loop s hn s.size 0 k (by omega) hk
theorem rd_dep (s : ByteArray) (i : Nat) (h : i ≤ s.size) : rd ((List.range (s.size + 1)).map (depI s)) (i : Int) = depI s i := by
 unfold rd
 rw [Int.toNat_natCast, List.getD_eq_getElem?_getD, List.getElem?_map, List.getElem?_range (by omega)]
 rfl
theorem kindR_open (s : ByteArray) (i : Nat) : (kindR s i = 123 ∨ kindR s i = 91) ↔ opS s i = true := by
 unfold kindR opS
 rw [kb_sg]
 by_cases h1 : kindB s i = 1
 ·rw [if_pos (.inl h1), h1, zz1 rfl, Bool.true_and]
  unfold opensB
  rw [Bool.or_eq_true, beq_iff_eq, beq_iff_eq]
 ·rw [decide_eq_false h1, Bool.false_and]
  by_cases h3 : kindB s i = 3
  ·rw [if_pos (.inr h3)]
   have hop := kb_op s i
   rw [h3, zz1 rfl] at hop
   have hm := (op_facts hop).1
   unfold mkq at hm
   simp only [Bool.and_eq_true, decide_eq_true_eq] at hm
   rw [hm.1]
   exact ⟨fun h => by omega, fun h => by cases h⟩
  ·rw [if_neg (fun h => h.elim h1 h3)]
   split
   ·exact ⟨fun h => by omega, fun h => by cases h⟩
   ·exact ⟨fun h => by omega, fun h => by cases h⟩
def closq (s : ByteArray) (a j : Nat) : Bool := clS s j && decide (dep s j = dep s a + 1)
def closAt (s : ByteArray) (a : Nat) : Nat := firstQ (closq s a) (s.size - (a + 1)) (a + 1)
def closI (s : ByteArray) (a : Nat) : Int := if closAt s a < s.size then ((closAt s a : Nat) : Int) else -1
theorem firstQ_skip (q : Nat → Bool) {n a b : Nat} (hab : a ≤ b) (hb : b ≤ n) (h : ∀ j, a ≤ j → j < b → q j = false) : firstQ q (n - a) a = firstQ q (n - b) b := by
 obtain ⟨d, rfl⟩ : ∃ d, b = a + d := ⟨b - a, by omega⟩
 clear hab
 induction d generalizing a with
 | zero => rfl
 | succ d ih =>
  rw [show n - a = (n - (a + 1)) + 1 by omega, firstQ, if_neg (by rw [h a (Nat.le_refl _) (by omega)];decide)]
  have := ih (a := a + 1) (by omega) (fun j h1 h2 => h j (by omega) (by omega))
  rw [this, show a + 1 + d = a + (d + 1) by omega]
theorem closeR_after (s : ByteArray) (a : Nat) : ∀ (d i : Nat), i + d = (placesL s).length → a < nextP s i →
  closeR s (a : Int) ((placesL s).drop i) (((dep s a : Nat) : Int) + 1) = if firstQ (closq s a) (s.size - nextP s i) (nextP s i) < s.size then ((firstQ (closq s a) (s.size - nextP s i) (nextP s i) : Nat) : Int) else -1
 | 0, i, hi, ha => by
  rw [Nat.add_zero] at hi
  rw [hi, List.drop_length, closeR, ← hi, next_end (by omega), Nat.sub_self]
  unfold firstQ
  rw [if_neg (Nat.lt_irrefl _)]
 | d + 1, i, hi, ha => by
  have hlt : i < (placesL s).length := by omega
  obtain ⟨p, hp⟩ : ∃ p, (placesL s)[i]? = some p := ⟨_, List.getElem?_eq_getElem hlt⟩
  obtain ⟨a1, a2, a3, a4, a5, a6⟩ := place_at hp
  have hdrop : (placesL s).drop i = p :: (placesL s).drop (i + 1) := by
   rw [List.drop_eq_getElem_cons hlt]
   congr 1
   exact (List.getElem?_eq_some_iff.1 hp).2
  rw [hdrop, closeR, if_neg (by omega), ← a3, show s.size - p = (s.size - (p + 1)) + 1 by omega, firstQ]
  have hq : closq s a p = (closesB (bt s (p : Int)) && decide (dep s p = dep s a + 1)) := by unfold closq;rw [beg_close a2]
  by_cases c : closq s a p = true
  ·rw [if_pos c]
   rw [hq] at c
   simp only [Bool.and_eq_true, decide_eq_true_eq] at c
   rw [if_pos ⟨by omega, by omega, c.1⟩, if_pos a1]
  ·rw [if_neg c]
   have hn : ¬ ((a : Int) < (p : Int) ∧ ((dep s p : Nat) : Int) = ((dep s a : Nat) : Int) + 1 ∧ closesB (bt s (p : Int)) = true) := fun h => c (by
    rw [hq, h.2.2, Bool.true_and]
    exact zz1 (by have := h.2.1;omega))
   rw [if_neg hn, closeR_after s a d (i + 1) (by omega) (by omega)]
   rw [firstQ_skip (closq s a) (n := s.size) (a := p + 1) (b := nextP s (i + 1)) (by omega) a5 (fun j h1 h2 => by
    have := not_beg (a6 j (by omega) h2)
    unfold closq clS
    rw [this]
    rfl)]
theorem closeR_before (s : ByteArray) (a : Nat) (ha : opS s a = true) (hn : a < s.size) : ∀ (d i : Nat), i + d = (placesL s).length → nextP s i ≤ a → ∀ w, closeR s (a : Int) ((placesL s).drop i) w = closI s a
 | 0, i, hi, h, w => by
  rw [next_end (by omega)] at h
  omega
 | d + 1, i, hi, h, w => by
  have hlt : i < (placesL s).length := by omega
  obtain ⟨p, hp⟩ : ∃ p, (placesL s)[i]? = some p := ⟨_, List.getElem?_eq_getElem hlt⟩
  obtain ⟨a1, a2, a3, a4, a5, a6⟩ := place_at hp
  have hdrop : (placesL s).drop i = p :: (placesL s).drop (i + 1) := by
   rw [List.drop_eq_getElem_cons hlt]
   congr 1
   exact (List.getElem?_eq_some_iff.1 hp).2
  rw [hdrop, closeR]
  by_cases c : p = a
  ·subst c
   rw [if_pos rfl, closeR_after s p d (i + 1) (by omega) a4]
   unfold closI closAt
   rw [firstQ_skip (closq s p) (n := s.size) (a := p + 1) (b := nextP s (i + 1)) (by omega) a5 (fun j h1 h2 => by
    have := not_beg (a6 j (by omega) h2)
    unfold closq clS
    rw [this]
    rfl)]
  ·have hba : begq s a = true := by
    unfold opS at ha
    simp only [Bool.and_eq_true] at ha
    exact sg_beg ha.1
   rw [if_neg (by omega), if_neg (by omega)]
   refine closeR_before s a ha hn d (i + 1) (by omega) ?_ w
   apply Classical.byContradiction
   intro g
   have := a6 a (by omega) (by omega)
   rw [hba] at this
   cases this
theorem close_eq (s : ByteArray) (hn : s.size ≤ 1048576) (a : Int) (k : Nat) : levels_Close.f (k + 2) s a = some (if 0 ≤ a ∧ a < (s.size : Int) ∧ opS s a.toNat = true then closI s a.toNat else -1) := by
 unfold levels_Close.f
 by_cases hr : a < 0 ∨ (s.size : Int) ≤ a
 ·rw [kind_out s a hr (k + 1), zz3, if_neg (by omega)]
  unfold levels_Close.g
  rw [if_neg (by omega)]
 ·obtain ⟨n, rfl⟩ : ∃ n : Nat, a = (n : Int) := ⟨a.toNat, by omega⟩
  rw [kind_eq s hn n (by omega) k, zz3, Int.toNat_natCast]
  unfold levels_Close.g
  by_cases ho : opS s n = true
  ·rw [if_pos ((kindR_open s n).2 ho), if_pos hn, if_pos ⟨by omega, by omega, ho⟩]
   have h := closeR_before s n ho (by omega) (placesL s).length 0 (by omega) (by
    apply Classical.byContradiction
    intro g
    have := (next_zero s).2 n (by omega)
    unfold opS at ho
    simp only [Bool.and_eq_true] at ho
    rw [sg_beg ho.1] at this
    cases this) (-1)
   rw [List.drop_zero] at h
   rw [h]
  ·rw [if_neg (fun h => ho ((kindR_open s n).1 h)), if_neg (fun h => ho h.2.2)]
theorem depth_eq (s : ByteArray) (hn : s.size ≤ 1048576) (a : Int) : levels_Depth.f s a = some ((depAt s a : Nat) : Int) := by
 unfold levels_Depth.f
 rw [if_pos hn]
theorem sameints_loop (l : List Int) (hl : l.length ≤ 140737488355328) : ∀ (d i k : Nat), i + d = l.length → d < k → quarryref00_SameInts.l0 k l l (i : Int) = some true := by
 intro d
 induction d with
 | zero =>
  intro i k hi hk
  obtain ⟨k, rfl⟩ : ∃ m, k = m + 1 := ⟨k - 1, by omega⟩
  unfold quarryref00_SameInts.l0
  rw [if_neg (by omega)]
 | succ d ih =>
  intro i k hi hk
  obtain ⟨k, rfl⟩ : ∃ m, k = m + 1 := ⟨k - 1, by omega⟩
  have e : wrap64 ((i : Int) + 1) = ((i + 1 : Nat) : Int) := by unfold wrap64;omega
  unfold quarryref00_SameInts.l0
  rw [if_pos (by omega), if_pos (by omega), if_pos (by omega), if_pos rfl, e, ih (i + 1) k (by omega) (by omega)]
theorem sameints_refl (l : List Int) (hl : l.length ≤ 140737488355328) (k : Nat) (hk : l.length < k) : quarryref00_SameInts.f k l l = some true := by
 unfold quarryref00_SameInts.f
 rw [if_pos rfl]
 exact sameints_loop l hl l.length 0 k (by omega) hk
theorem same_loop (l : List Int) (a b : Int) (hl : l.length ≤ 140737488355328) : ∀ (d i k : Nat), i + d = l.length → d < k → quarryref00_SameBits.l0 k (i : Int) a l b l = some true := by
 intro d
 induction d with
 | zero =>
  intro i k hi hk
  obtain ⟨k, rfl⟩ : ∃ m, k = m + 1 := ⟨k - 1, by omega⟩
  unfold quarryref00_SameBits.l0
  rw [if_neg (by omega)]
 | succ d ih =>
  intro i k hi hk
  obtain ⟨k, rfl⟩ : ∃ m, k = m + 1 := ⟨k - 1, by omega⟩
  have e : wrap64 ((i : Int) + 1) = ((i + 1 : Nat) : Int) := by unfold wrap64;omega
  unfold quarryref00_SameBits.l0
  rw [if_pos (by omega), if_pos (by omega), if_pos (by omega), if_pos rfl, e, ih (i + 1) k (by omega) (by omega)]
theorem same_refl (n : Int) (l : List Int) (hl : l.length ≤ 140737488355328) (k : Nat) (hk : l.length + 1 < k) : quarryref00_SameBits.f k n l n l = some true := by
 obtain ⟨k, rfl⟩ : ∃ m, k = m + 1 := ⟨k - 1, by omega⟩
 unfold quarryref00_SameBits.f
 rw [if_pos rfl]
 simp only [quarryref00_SameBits.j0, bne_self_eq_false, Bool.false_eq_true, if_false]
 exact same_loop l n n hl l.length 0 k (by omega) (by omega)
theorem rd34_mem (A : List S34) {i : Nat} (h : i < A.length) : rd_T34 A (i : Int) ∈ A := by
 unfold rd_T34
 rw [Int.toNat_natCast, List.getD_eq_getElem?_getD, List.getElem?_eq_getElem h]
 exact List.getElem_mem h
theorem samelevels_l1 (A B : List S34) (M : Nat) (hM : M ≤ 140737488355328) (hB : B.length ≤ 1000) (hb : ∀ x ∈ B, x.f1.length ≤ M) : ∀ (d i k : Nat), i + d = B.length → M + d + 5 < k → quarryref00_SameLevels.l1 k (i : Int) A B A B = some true := by
 intro d
 induction d with
 | zero =>
  intro i k hi hk
  obtain ⟨k, rfl⟩ : ∃ j, k = j + 1 := ⟨k - 1, by omega⟩
  rw [quarryref00_SameLevels.l1, if_neg (by omega)]
 | succ d ih =>
  intro i k hi hk
  obtain ⟨k, rfl⟩ : ∃ j, k = j + 1 := ⟨k - 1, by omega⟩
  have hw : wrap64 ((i : Int) + 1) = ((i + 1 : Nat) : Int) := by unfold wrap64;omega
  have hm := hb _ (rd34_mem B (i := i) (by omega))
  rw [quarryref00_SameLevels.l1, if_pos (by omega), if_pos (by omega), if_pos (by omega), same_refl _ _ (by omega) k (by omega), zz3, if_pos rfl, hw]
  exact ih (i + 1) k (by omega) (by omega)
theorem samelevels_l0 (A B : List S34) (M : Nat) (hM : M ≤ 140737488355328) (hA : A.length ≤ 1000) (hB : B.length ≤ 1000) (ha : ∀ x ∈ A, x.f1.length ≤ M) (hb : ∀ x ∈ B, x.f1.length ≤ M) : ∀ (d i k : Nat), i + d = A.length → M + d + B.length + 10 < k → quarryref00_SameLevels.l0 k (i : Int) A B A B = some true := by
 intro d
 induction d with
 | zero =>
  intro i k hi hk
  obtain ⟨k, rfl⟩ : ∃ j, k = j + 1 := ⟨k - 1, by omega⟩
  rw [quarryref00_SameLevels.l0, if_neg (by omega)]
  exact samelevels_l1 A B M hM hB hb B.length 0 k (by omega) (by omega)
 | succ d ih =>
  intro i k hi hk
  obtain ⟨k, rfl⟩ : ∃ j, k = j + 1 := ⟨k - 1, by omega⟩
  have hw : wrap64 ((i : Int) + 1) = ((i + 1 : Nat) : Int) := by unfold wrap64;omega
  have hm := ha _ (rd34_mem A (i := i) (by omega))
  rw [quarryref00_SameLevels.l0, if_pos (by omega), if_pos (by omega), if_pos (by omega), same_refl _ _ (by omega) k (by omega), zz3, if_pos rfl, hw]
  exact ih (i + 1) k (by omega) (by omega)
theorem samelevels_refl (A B : List S34) (M : Nat) (hM : M ≤ 140737488355328) (hA : A.length ≤ 1000) (hB : B.length ≤ 1000) (ha : ∀ x ∈ A, x.f1.length ≤ M) (hb : ∀ x ∈ B, x.f1.length ≤ M) (k : Nat) (hk : M + A.length + B.length + 20 < k) : quarryref00_SameLevels.f k A B A B = some true := by
 obtain ⟨k, rfl⟩ : ∃ j, k = j + 1 := ⟨k - 1, by omega⟩
 unfold quarryref00_SameLevels.f
 rw [if_pos rfl, show ((B.length : Int) != (B.length : Int)) = false by simp, quarryref00_SameLevels.j0, if_neg (by decide)]
 exact samelevels_l0 A B M hM hA hB ha hb A.length 0 k (by omega) (by omega)
theorem rowsB_words (s : ByteArray) (b : Int) (m lim : Nat) : ∀ x ∈ rowsB s b m lim, x.f1.length ≤ s.size + 1 := by
 intro x hx
 unfold rowsB at hx
 obtain ⟨k, _, rfl⟩ := List.mem_map.1 hx
 show (colW s b lim k).length ≤ _
 rw [colW_length]
 unfold nwords
 omega
abbrev smallL : ByteArray := ⟨#[123, 34, 97, 34, 58, 91, 49, 44, 50, 93, 44, 34, 98, 58, 34, 58, 51, 125]⟩
theorem small_dep : depAt smallL 6 = 2 := by decide +kernel
theorem small_cl5 : (opS smallL 5 = true ∧ closI smallL 5 = 9) ∧ opS smallL 0 = true ∧ closI smallL 0 = 17 := by decide +kernel
theorem small_col : levels_Colons.f (rowsB smallL 58 2 18) (rowsB smallL 44 2 18) 1 0 99 = some [4, 15] := by decide +kernel
theorem small_com : levels_Commas.f (rowsB smallL 58 2 18) (rowsB smallL 44 2 18) 2 0 99 = some [7] := by decide +kernel
theorem rowsB_len (s : ByteArray) (b : Int) (m lim : Nat) : (((rowsB s b m lim).length : Nat) : Int) = (m : Int) := by
 unfold rowsB
 rw [List.length_map, List.length_range]
theorem awake10 (k : Nat) (hk : 100 < k) : quarrylaw10_awake.f k = some true := by
 obtain ⟨j, rfl⟩ : ∃ j, k = j + 2 := ⟨k - 2, by omega⟩
 have hb : levels_Build.f smallL 2 = some (rowsB smallL 58 2 18, rowsB smallL 44 2 18, 0) := by
  unfold levels_Build.f
  rw [if_neg (by decide), if_pos (by decide)]
  rfl
 have hd : levels_Depth.f smallL 6 = some 2 := by
  rw [depth_eq smallL (by decide), small_dep]
  rfl
 have h5 : levels_Close.f (j + 2) smallL 5 = some 9 := by
  rw [close_eq smallL (by decide), if_pos ⟨by decide, by decide, small_cl5.1.1⟩]
  exact congrArg some small_cl5.1.2
 have h0 : levels_Close.f (j + 2) smallL 0 = some 17 := by
  rw [close_eq smallL (by decide), if_pos ⟨by decide, by decide, small_cl5.2.1⟩]
  exact congrArg some small_cl5.2.2
 unfold quarrylaw10_awake.f
 rw [hb, zz3]
 dsimp only
 rw [if_pos rfl, if_pos (by rw [rowsB_len];rfl), if_pos (by rw [rowsB_len];rfl), hd, zz3, if_pos rfl, h5, zz3, if_pos rfl, h0, zz3]
 rw [show ((17 : Int) != 17) = false from rfl, quarrylaw10_awake.j0, if_neg (by decide), small_col, zz3, sameints_refl _ (by decide) _ (by simp;omega), zz3, if_pos rfl, small_com, zz3, sameints_refl _ (by decide) _ (by simp;omega), zz3]
theorem col_out (s : ByteArray) (i k : Nat) (b : Int) (hb : b = 58 ∨ b = 44) : colq s b k i = (outq s i && decide (bt s (i : Int) = b) && decide (dep s i = k)) := by
 unfold colq sgq
 by_cases h : bt s (i : Int) = b
 ·have hx : sgx (bt s (i : Int)).toNat = true := by rcases hb with rfl|rfl <;> rw [h] <;> decide
  rw [hx, Bool.true_and]
 ·rw [decide_eq_false h, Bool.and_false, Bool.and_false]
def cA (s : ByteArray) (b : Int) (k i : Nat) : List Bool := (List.range s.size).map fun j => if j < i then colq s b k j else false
theorem cA_set (s : ByteArray) (b : Int) (k : Nat) {i : Nat} (hi : i < s.size) (v : Bool) (hv : v = colq s b k i) : (cA s b k i).set i v = cA s b k (i + 1) := by
 rw [hv]
 exact set_step s.size (colq s b k) (fun _ => false) hi
theorem cA_len (s : ByteArray) (b : Int) (k i : Nat) : (((cA s b k i).length : Nat) : Int) = (s.size : Int) := by unfold cA;simp
theorem build_inner (s : ByteArray) (hn : s.size ≤ 1048576) (mz : Int) (kk : Nat) (X Y : List S34) : ∀ (m i k : Nat), i + m = s.size →
  quarryref10_Build.l1 (k + m) s mz ((List.range s.size).map (outq s)) ((List.range (s.size + 1)).map (depI s)) (kk : Int) (cA s 58 kk i) (cA s 44 kk i) (i : Int) X Y =
   quarryref10_Build.l1 k s mz ((List.range s.size).map (outq s)) ((List.range (s.size + 1)).map (depI s)) (kk : Int) (cA s 58 kk s.size) (cA s 44 kk s.size) (s.size : Int) X Y := by
 intro m
 induction m with
 | zero =>
  intro i k hi
  rw [Nat.add_zero] at hi
  rw [hi]
  rfl
 | succ m ih =>
  intro i k hi
  have hlt : i < s.size := by omega
  have hl : ((((List.range s.size).map (outq s)).length : Nat) : Int) = (s.size : Int) := by simp
  have hl2 : ((((List.range (s.size + 1)).map (depI s)).length : Nat) : Int) = (s.size : Int) + 1 := by simp
  have h := ih (i + 1) k (by omega)
  rw [← Nat.add_assoc, ← h]
  have c58 := col_out s i kk 58 (.inl rfl)
  have c44 := col_out s i kk 44 (.inr rfl)
  have hde : (depI s i == (kk : Int)) = decide (dep s i = kk) := by
   unfold depI
   rw [Bool.eq_iff_iff, beq_iff_eq, decide_eq_true_eq]
   omega
  rw [quarryref10_Build.l1, if_pos (by omega), if_pos (by omega), if_pos (by rw [hl];omega), rdB s _ i hlt, Int.toNat_natCast, w10 (by omega) hn, rd_dep s i (by omega), hde]
  by_cases ho : outq s i = true
  ·rw [if_pos ho]
   rw [ho, Bool.true_and] at c58 c44
   by_cases h58 : bt s (i : Int) = 58
   ·rw [zz1 h58, Bool.true_and] at c58
    rw [h58] at c44
    rw [if_pos h58, if_pos (by rw [hl2];omega), if_pos (by rw [cA_len];omega), zz3, if_neg (by rw [h58];decide), if_pos (by rw [cA_len];omega), cA_set s 58 kk hlt _ c58.symm, cA_set s 44 kk hlt false (by rw [c44];rfl)]
   ·rw [decide_eq_false h58, Bool.false_and] at c58
    rw [if_neg h58, if_pos (by rw [cA_len];omega), zz3]
    by_cases h44 : bt s (i : Int) = 44
    ·rw [zz1 h44, Bool.true_and] at c44
     rw [if_pos h44, if_pos (by rw [hl2];omega), if_pos (by rw [cA_len];omega), cA_set s 58 kk hlt false c58.symm, cA_set s 44 kk hlt _ c44.symm]
    ·rw [decide_eq_false h44, Bool.false_and] at c44
     rw [if_neg h44, if_pos (by rw [cA_len];omega), cA_set s 58 kk hlt false c58.symm, cA_set s 44 kk hlt false c44.symm]
  ·have ho : outq s i = false := by simpa using ho
   rw [ho, Bool.false_and, Bool.false_and] at c58 c44
   rw [ho, if_neg (by decide), if_pos (by rw [cA_len];omega), if_pos (by rw [cA_len];omega), cA_set s 58 kk hlt false c58.symm, cA_set s 44 kk hlt false c44.symm]
theorem of_row (s : ByteArray) (hn : s.size ≤ 1048576) (b : Int) (kk k : Nat) (hk : 66 * s.size + 66 < k) : quarryref04_Of.f k (cA s b (kk + 1) s.size) = some ((s.size : Int), colW s b s.size kk) := by
 have hl : (cA s b (kk + 1) s.size).length = s.size := by unfold cA;simp
 rw [of_eq _ (by rw [hl];omega) k (by rw [hl];unfold nwords;omega), hl, colW_all]
 refine congrArg some (Prod.ext rfl (wordsOf_ext fun i hi => ?_))
 show (cA s b (kk + 1) s.size).getD i false = _
 unfold cA
 rw [List.getD_eq_getElem?_getD, List.getElem?_map, List.getElem?_range hi]
 simp [hi]
theorem rowsB_snoc (s : ByteArray) (b : Int) (kk lim : Nat) : rowsB s b (kk + 1) lim = rowsB s b kk lim ++ [⟨(s.size : Int), colW s b lim kk⟩] := by
 unfold rowsB
 rw [List.range_succ, List.map_append]
 rfl
theorem build_outer (s : ByteArray) (hn : s.size ≤ 1048576) (most : Nat) (hm : most ≤ 64) : ∀ (d kk k : Nat), kk + d = most → d * (s.size + 2) + 67 * s.size + 200 < k →
  quarryref10_Build.l0 k s (most : Int) ((List.range s.size).map (outq s)) ((List.range (s.size + 1)).map (depI s)) (((kk + 1 : Nat)) : Int) (rowsB s 58 kk s.size) (rowsB s 44 kk s.size) = some (rowsB s 58 most s.size, rowsB s 44 most s.size, 0) := by
 intro d
 induction d with
 | zero =>
  intro kk k hi hk
  obtain ⟨k, rfl⟩ : ∃ j, k = j + 1 := ⟨k - 1, by omega⟩
  rw [Nat.add_zero] at hi
  rw [quarryref10_Build.l0, if_neg (by omega), hi]
 | succ d ih =>
  intro kk k hi hk
  rw [Nat.succ_mul] at hk
  obtain ⟨P, hP⟩ : ∃ P, P = d * (s.size + 2) := ⟨_, rfl⟩
  rw [← hP] at hk ih
  obtain ⟨k, rfl⟩ : ∃ j, k = (j + 1 + s.size) + 1 := ⟨k - 2 - s.size, by omega⟩
  have e0 : ∀ b : Int, List.replicate s.size false = cA s b (kk + 1) 0 := fun b => by
   unfold cA
   apply List.ext_getElem
   ·simp
   ·intro i h1 h2
    simp
  have hw : wrap64 (((kk + 1 : Nat) : Int) + 1) = ((kk + 1 + 1 : Nat) : Int) := by unfold wrap64;omega
  have hlen : ∀ b : Int, (rowsB s b kk s.size).length = kk := fun b => by unfold rowsB;rw [List.length_map, List.length_range]
  rw [quarryref10_Build.l0, if_pos (by omega), if_pos (by omega), if_pos (by omega), Int.toNat_natCast]
  have hin := build_inner s hn (most : Int) (kk + 1) (rowsB s 58 kk s.size) (rowsB s 44 kk s.size) s.size 0 (k + 1) (by omega)
  rw [← e0 58, ← e0 44] at hin
  have hz : ((0 : Nat) : Int) = 0 := rfl
  rw [hz] at hin
  rw [hin, quarryref10_Build.l1, if_neg (by omega), of_row s hn 58 kk k (by omega), zz3, if_pos (by rw [hlen];omega), of_row s hn 44 kk k (by omega), zz3, if_pos (by rw [hlen];omega), hw]
  dsimp only
  rw [← rowsB_snoc, ← rowsB_snoc]
  exact ih (kk + 1) k (by omega) (by omega)
theorem refbuild_eq (s : ByteArray) (hn : s.size ≤ 1048576) (a : Int) (k : Nat) (hk : 64 * (s.size + 2) + 67 * s.size + 300 < k) : quarryref10_Build.f k s a = levels_Build.f s a := by
 obtain ⟨k, rfl⟩ : ∃ j, k = j + 1 := ⟨k - 1, by omega⟩
 unfold quarryref10_Build.f levels_Build.f
 by_cases h1 : a < 1
 ·rw [if_pos h1, if_pos (.inl h1), quarryref10_Build.j0, if_pos rfl]
 ·rw [if_neg h1]
  by_cases h2 : 64 < a
  ·rw [if_pos (.inr h2), zz1 (by omega), quarryref10_Build.j0, if_pos rfl]
  ·obtain ⟨m, rfl⟩ : ∃ m : Nat, a = (m : Int) := ⟨a.toNat, by omega⟩
   rw [if_neg (by omega), if_pos hn, decide_eq_false (by omega), quarryref10_Build.j0, if_neg (by decide), outside_eq s hn k (by omega), zz3, depths_eq s hn k (by omega), zz3, Int.toNat_natCast]
   have hmm : m * (s.size + 2) ≤ 64 * (s.size + 2) := Nat.mul_le_mul_right _ (by omega)
   exact build_outer s hn m (by omega) m 0 k (by omega) (by omega)
theorem LevelsBuild (s : ByteArray) (a : Int) (hn : s.size ≤ 1048576) (_ : (Lit.int .i64 a).wf = true) : ∃ k, quarrylaw10_LevelsBuild.f k s a = some true := by
 obtain ⟨K, hK⟩ : ∃ K, K = 64 * (s.size + 2) + 67 * s.size + 3000 := ⟨_, rfl⟩
 refine ⟨K, ?_⟩
 unfold quarrylaw10_LevelsBuild.f
 rw [refbuild_eq s hn a _ (by omega)]
 have hb : ∃ A B z, levels_Build.f s a = some (A, B, z) ∧ A.length ≤ 1000 ∧ B.length ≤ 1000 ∧ (∀ x ∈ A, x.f1.length ≤ s.size + 1) ∧ ∀ x ∈ B, x.f1.length ≤ s.size + 1 := by
  unfold levels_Build.f
  by_cases h : a < 1 ∨ 64 < a
  ·rw [if_pos h]
   exact ⟨_, _, _, rfl, by simp, by simp, fun x hx => (by cases hx), fun x hx => (by cases hx)⟩
  ·rw [if_neg h, if_pos hn]
   have hlen : ∀ b : Int, (rowsB s b a.toNat s.size).length = a.toNat := fun b => by unfold rowsB;rw [List.length_map, List.length_range]
   exact ⟨_, _, _, rfl, by rw [hlen];omega, by rw [hlen];omega, rowsB_words s _ _ _, rowsB_words s _ _ _⟩
 obtain ⟨A, B, z, h1, hA, hB, ha, hb'⟩ := hb
 rw [h1, zz3, zz3]
 show (if z = z then (quarryref00_SameLevels.f K A B A B).bind _ else _) = _
 rw [if_pos rfl, samelevels_refl A B (s.size + 1) (by omega) hA hB ha hb' _ (by omega), zz3, if_pos rfl, awake10 _ (by omega), zz3]

end Go.Proofs.YtgddljealeklkaaDoor.Pure
end
namespace Go.Proofs.YtgddljealeklkaaDoor.levelsBuild
open Go.ChangeShapes Go.WideShapes Go.ChangeAt Go.RowKit
open Go.ChangeMaps (open_string shut_string)
set_option linter.unusedVariables false
set_option linter.unusedSimpArgs false
theorem own : ownKnob Tryd.prog.godebug = none := by kernel_rfl
theorem gTab : Tryd.prog.globalNamed "math/bits.deBruijn64tab" = some 0 := by kernel_rfl
theorem gTabType : (Tryd.prog.globals[0]?).map (·.type) = some 85 := by kernel_rfl
theorem cellsTab : Tryd.prog.cellsOf 85 = 64 := by kernel_rfl
theorem cellsByte : Tryd.prog.cellsOf 5 = 1 := by kernel_rfl
def tabZ : List Int := [0, 1, 56, 2, 57, 49, 28, 3, 61, 58, 42, 50, 38, 29, 17, 4, 62, 47, 59, 36, 45, 43, 51, 22, 53, 39, 33, 30, 24, 18, 12, 5, 63, 55, 48, 27, 60, 41, 37, 16, 46, 35, 44, 21, 52, 32, 23, 11, 54, 26, 40, 15, 34, 20, 31, 10, 25, 14, 19, 9, 13, 8, 7, 6]
theorem table {W : World} (h : laidMetH Tryd.prog Rows.levelsBuildUptoRow.laid W) : Lib.TabIs Tryd.prog W "math/bits.deBruijn64tab" .u8 tabZ :=
  Lib.tabIs_of_head (rest := []) gTab gTabType Tryd.underlying85 Tryd.underlying5 cellsByte cellsTab h
theorem tab_eq : ∀ j, j < 64 → tabZ.getD j 0 = ((Lib.deBruijn64tab.getD j 0 : Nat) : Int) := by decide
theorem tabOk {W : World} (h : laidMetH Tryd.prog Rows.levelsBuildUptoRow.laid W) : Go.Proofs.YtgddljealeklkaaDoorM.TabOk W := ⟨fun j hj => by
  have h64 : j < 64 := hj
  rw [(table h).cell gTab j h64, tab_eq j h64]⟩
noncomputable def laidWorld (os : Os) : World :=
  { World.holding Tryd.prog os ⟨#[], #[], []⟩ with heap := (World.holding Tryd.prog os ⟨#[], #[], []⟩).heap.modify 0 fun
      | .cells _ t frozen => .cells #[.int .u8 0, .int .u8 1, .int .u8 56, .int .u8 2, .int .u8 57, .int .u8 49, .int .u8 28, .int .u8 3, .int .u8 61, .int .u8 58, .int .u8 42, .int .u8 50, .int .u8 38, .int .u8 29, .int .u8 17, .int .u8 4, .int .u8 62, .int .u8 47, .int .u8 59, .int .u8 36, .int .u8 45, .int .u8 43, .int .u8 51, .int .u8 22, .int .u8 53, .int .u8 39, .int .u8 33, .int .u8 30, .int .u8 24, .int .u8 18, .int .u8 12, .int .u8 5, .int .u8 63, .int .u8 55, .int .u8 48, .int .u8 27, .int .u8 60, .int .u8 41, .int .u8 37, .int .u8 16, .int .u8 46, .int .u8 35, .int .u8 44, .int .u8 21, .int .u8 52, .int .u8 32, .int .u8 23, .int .u8 11, .int .u8 54, .int .u8 26, .int .u8 40, .int .u8 15, .int .u8 34, .int .u8 20, .int .u8 31, .int .u8 10, .int .u8 25, .int .u8 14, .int .u8 19, .int .u8 9, .int .u8 13, .int .u8 8, .int .u8 7, .int .u8 6] t frozen
      | o => o }
theorem laid_met (os : Os) : laidMet Tryd.prog Rows.levelsBuildUptoRow.laid ((laidWorld os).forCall (fun _ _ => 0) ⟨#[], #[.string ByteArray.empty, .int .i64 0], []⟩).memory :=
  laidMet_of_run' 8 (by kernel_rfl) (by kernel_rfl)
theorem reads (os : Os) {H : Type} (enc : TypeId × Value → H) : ∃ places, DataW.whole enc Tryd.prog ((laidWorld os).forCall (fun _ _ => 0) ⟨#[], #[.string ByteArray.empty, .int .i64 0], []⟩).memory Tryd.f6.params.toList Rows.levelsBuildSpec.vars false (#[.string ByteArray.empty, .int .i64 0] : Array Value).toList 8 = some ([.lit (.string []), .lit (.int .i64 0)], [], places) :=
  ⟨[], by kernel_rfl⟩
set_option maxRecDepth 100000 in
theorem lifted (os : Os) (started : os.Started) (H : Type) (enc : TypeId × Value → H) (F : Stop.Interp) :
    ReturnsInHanded {} Tryd.checked os 6 .any ((Rows.OpenSpec.upto Rows.levelsBuildSpec).preRow enc Tryd.prog Tryd.f6 Rows.levelsBuildUptoRow.domain false Rows.levelsBuildUptoRow.laid) (((Rows.OpenSpec.upto Rows.levelsBuildSpec).at F).post enc Tryd.prog Tryd.f6 false true false false) := by
  obtain ⟨places, hx⟩ := reads os enc
  refine returnsInHanded_of_row (C := Tryd.checked) (s := Rows.OpenSpec.upto Rows.levelsBuildSpec) own started (by kernel_rfl) Tryd.func6
    (witness_row_at (enc := enc) (C := Tryd.checked) false (laidWorld os) #[.string ByteArray.empty, .int .i64 0] rfl (by kernel_rfl) (by kernel_rfl) (by kernel_rfl)
      (OpenSpec.preRow_of_cond 8 hx (by kernel_rfl) (fun k hk => by cases hk; kernel_rfl) (by kernel_rfl) (laid_met os))) ?_
  intro W base args ds gs before hval0 hW hcnd hk0 hsz0 hL _ _
  have hsz : (DataW.weightsEach Tryd.prog (Tryd.f6.params.toList ++ Rows.levelsBuildSpec.plain.varTypes Tryd.prog) (ds ++ gs)).all (· ≤ reachBytes) = true := hsz0
  have hval : ∀ (j : Nat) t v, Tryd.f6.params[j]? = some t → args[j]? = some v → Value.okWide Tryd.prog W .any base t v := hval0
  have hW' := hW
  obtain ⟨p, q, hA0, hV, rfl, hfz, hnd⟩ := hW
  have hA : DataW.TrodAll enc Tryd.prog W 0 (fun _ => true) true Tryd.f6.params.toList args.toList ds p := hA0
  rw [Tryd.params6] at hA hval hsz
  obtain ⟨v0, vs0, d0, ds0, p0, q0, hargs, rfl, rfl, h0, r0⟩ := trodAll_cons hA
  obtain ⟨v1, vs1, d1, ds1, p1, q1, rfl, rfl, rfl, h1, r1⟩ := trodAll_cons r0
  obtain ⟨rfl, rfl, rfl⟩ := trodAll_nil r1
  obtain rfl : args = #[v0, v1] := by cases args; simp_all
  obtain ⟨rfl, rfl⟩ := trodVars_none hV
  obtain ⟨a0, rfl, rfl, rfl, y0⟩ := open_string Tryd.underlying9 (hval 0 9 v0 rfl rfl) h0
  have w0 : a0.size ≤ 140737488351232 := by
    have z := sized_string hsz (j := 0) (t := 9) rfl rfl
    rw [Array.length_toList] at z
    exact z
  obtain ⟨a1, rfl, rfl, rfl, w1⟩ := open_int Tryd.underlying3 (hval 1 3 v1 rfl rfl) h1
  clear hA0 hval0 hsz0 hsz
  have hk1 : Rows.uptoBulkAll _ ≤ 1048576 := of_decide_eq_true (hk0 _ rfl)
  simp only [Rows.uptoBulkAll, Rows.uptoBulk, List.append_nil, List.nil_append, List.cons_append] at hk1
  have e0_ : a0.data.toList.length = a0.size := by rw [Array.length_toList]; rfl
  have s0_ : a0.size ≤ 1048576 := by omega
  obtain ⟨k, hk⟩ := Pure.LevelsBuild a0 a1 s0_ w1
  refine (PL.quarrylaw10_LevelsBuild.calls k a0 a1 true W (tabOk hL) hk).mono fun e W' ⟨he, bel⟩ => ?_
  subst he
  exact ⟨_, rfl, _, _, _, [], _, [], hW', trodAll_mk1 (shut_bool Tryd.underlying4 _), (trodAll_cons_mk (shut_string Tryd.underlying9 y0) (trodAll_cons_mk (shut_int Tryd.underlying3 w1) trodAll_mk0)), rfl, bel.frame _, fun h => by cases h⟩
theorem over : Rows.levelsBuildUptoRow.holds Tryd.pinned (Rows.OpenSpec.upto Rows.levelsBuildSpec) :=
  OpenClaim.holds_of_cond 6 Tryd.f6 rfl rfl rfl rfl rfl rfl rfl ⟨rfl, rfl, rfl, rfl, rfl⟩ rfl rfl rfl rfl rfl (by kernel_rfl) Tryd.func6 (by kernel_rfl)
    (of_decide_eq_true (by kernel_rfl)) (by unfold Func.isWrapper; first | (rw [if_pos (by decide +kernel)]; kernel_rfl) | (rw [if_neg (by decide +kernel)]; exact ⟨rfl, rfl⟩))
    (fun os started H enc _ F => by rw [OpenClaim.pre_eq_preRow]; exact lifted os started H enc F)
theorem said : Rows.LevelsBuildUptoSaid := over
theorem plain (f : FuncId) (fn : Func) (hf : Tryd.pinned.checked.prog.funcNamed "quarry/quarrylaw10.LevelsBuild" = some f) (hfn : Tryd.pinned.checked.prog.funcs[f]? = some fn) :
    false = Tryd.pinned.checked.prog.looks [] ∧ ∀ (j : Nat) t, fn.params[j]? = some t → Tryd.pinned.checked.prog.wantsStandIn t = false := by
  obtain rfl : f = 6 := Option.some.inj ((show Tryd.prog.funcNamed "quarry/quarrylaw10.LevelsBuild" = some 6 by kernel_rfl).symm.trans hf) |>.symm
  obtain rfl : fn = Tryd.f6 := (Option.some.inj (Tryd.func6.symm.trans hfn)).symm
  refine ⟨by kernel_rfl, fun j t ht => ?_⟩
  rw [Tryd.params6] at ht
  have hm := Array.mem_of_getElem? ht
  simp only [List.mem_toArray, List.mem_cons, List.not_mem_nil, or_false] at hm
  rcases hm with rfl | rfl
  · exact (show Tryd.prog.wantsStandIn 9 = false by kernel_rfl)
  · exact (show Tryd.prog.wantsStandIn 3 = false by kernel_rfl)
theorem card : Rows.LevelsBuildUptoCardSaid :=
  Claim7.holds_tied_plain_at .later [] _ _ _ _ said (fun _ h => by cases h) (by kernel_rfl) (fun _ h => by cases h) levelsBuildUpto_row_tie rfl ⟨rfl, rfl⟩ (by kernel_rfl) rfl plain (by kernel_rfl)
#print axioms card
end Go.Proofs.YtgddljealeklkaaDoor.levelsBuild
namespace Go.Proofs.YtgddljealeklkaaDoor
/-- The card, under a short name, for the claim. -/
theorem levelsBuild_holds : Rows.LevelsBuildUptoCardSaid := levelsBuild.card
end Go.Proofs.YtgddljealeklkaaDoor
