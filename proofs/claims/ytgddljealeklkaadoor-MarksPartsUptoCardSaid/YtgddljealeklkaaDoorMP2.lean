/- Parts of a claim (MP), packed by a program (pack.py) out of the texts that it names. -/
import Derived.Test.YtgddljealeklkaaDoorProg
import Derived.Below
import Derived.Deep.Draws
import Derived.Deep.AppendLies
import Derived.Maps.AppendAt
import Derived.OwnWalk
import Derived.Laws.BytesArg
import Derived.Laws.MakeOwn
import Derived.Laws.OwnMore
import Derived.Deep.OwnRows
import Derived.Tactics
import Derived.Lib.ConvBytes
import Derived.Laws.Slices
import Derived.WalkKit
import Derived.KernelRfl
import Derived.RowKit3
import Derived.Deep.LoopGhost
import Derived.Deep.QuietTactic
import Derived.BigQuiet
import Derived.WideLaws
import Derived.Deep.DeepCutAuto
import Derived.Deep.CutBlock
import Derived.Deep.RegionHeld3
import Derived.Laws.Rows
import Derived.Lib.AppendStr
import Derived.ArgAppend
import Derived.Laws.IdiomCopy
import Derived.OrdersHeld
import Derived.Laws.BitsLemmas
import Derived.RowKit
import Derived.Test.YtgddljealeklkaaDoorMP1
-- Pr
section
namespace Go.Proofs.YtgddljealeklkaaDoorM
open Go Go.RowKit Go.Lib Go.Shelf Go.Proofs.YtgddljealeklkaaDoorQ Go.Proofs.YtgddljealeklkaaDoorW.PrintWords Go.Proofs.YtgddljealeklkaaDoorW.PrintLast Go.Proofs.YtgddljealeklkaaDoorW.PrintMore
attribute [local go_sem] max2_int min2_int max_two min_two max_three min_three max_four min_four
set_option linter.unusedVariables false
set_option linter.unusedSimpArgs false
attribute [local go_sem] Oper.semAt_some
theorem rg_callE {ops : Array Oper} {P : Program} {o : Oper} {a : Act} {K : Act → World → Prop} {Q : Exit → Act → World → Prop} {W : World} {Φ : Value → World → Prop} (hw : Region.wanted o (yielded ops a.tmps) = true) (f : FuncId) (args : Array Value) (hrun : (execOp a.eval o).run P W = .ok (.enter f args) W)
    (hc : Calls P f args W fun e w' => ∃ v, e = .returned v ∧ Φ v w') (h : ∀ v w', Aside0 (Φ v w') → K (a.put o.dst v) w') :
    if Region.wanted o (yielded ops a.tmps) = true then Oper.wp P o a W K Q else K (a.put o.dst undef) W := by
  rw [if_pos hw]
  unfold Oper.wp
  rw [hrun, Oper.upon_enter]
  refine hc.mono ?_
  rintro e w' ⟨v, rfl, hb⟩
  exact h v w' ⟨hb⟩
def MpR.ops3 : Array Oper := #[{ dst := some 20, op := Go.Op.load 9 (Go.Operand.tmp 1), type := 9, pos := "outright.go:34", after := #[], guard := none }, { dst := some 21, op := Go.Op.call { callee := Go.Callee.value (Go.Operand.func 18), args := #[Go.Operand.tmp 20], argTypes := #[9] }, type := 34, pos := "outright.go:34", after := #[{ on := 0, ground := Go.Ground.data }], guard := none }, { dst := some 22, op := Go.Op.load 9 (Go.Operand.tmp 1), type := 9, pos := "outright.go:34", after := #[], guard := none }, { dst := some 23, op := Go.Op.call { callee := Go.Callee.value (Go.Operand.func 19), args := #[Go.Operand.tmp 22], argTypes := #[9] }, type := 34, pos := "outright.go:34", after := #[{ on := 2, ground := Go.Ground.data }, { on := 1, ground := Go.Ground.chain }], guard := none }, { dst := some 24, op := Go.Op.load 9 (Go.Operand.tmp 1), type := 9, pos := "outright.go:34", after := #[], guard := none }, { dst := some 25, op := Go.Op.call { callee := Go.Callee.value (Go.Operand.func 20), args := #[Go.Operand.tmp 24], argTypes := #[9] }, type := 34, pos := "outright.go:34", after := #[{ on := 4, ground := Go.Ground.data }, { on := 3, ground := Go.Ground.chain }], guard := none }, { dst := some 3, op := Go.Op.alloc 34, type := 0, pos := "outright.go:34", after := #[], guard := none }, { dst := some 4, op := Go.Op.alloc 34, type := 0, pos := "outright.go:34", after := #[], guard := none }, { dst := some 5, op := Go.Op.alloc 34, type := 0, pos := "outright.go:34", after := #[], guard := none }, { dst := none, op := Go.Op.store 34 (Go.Operand.tmp 3) (Go.Operand.tmp 21), type := 0, pos := "outright.go:34", after := #[{ on := 6, ground := Go.Ground.data }, { on := 1, ground := Go.Ground.data }, { on := 5, ground := Go.Ground.chain }, { on := 0, ground := Go.Ground.phase }, { on := 1, ground := Go.Ground.phase }, { on := 2, ground := Go.Ground.textOnly Go.Departure.lateStores }, { on := 3, ground := Go.Ground.textOnly Go.Departure.lateStoresUnsure }, { on := 4, ground := Go.Ground.textOnly Go.Departure.lateStores }, { on := 5, ground := Go.Ground.textOnly Go.Departure.lateStoresUnsure }, { on := 6, ground := Go.Ground.phase }, { on := 7, ground := Go.Ground.phase }, { on := 8, ground := Go.Ground.phase }], guard := none }, { dst := none, op := Go.Op.store 34 (Go.Operand.tmp 4) (Go.Operand.tmp 23), type := 0, pos := "outright.go:34", after := #[{ on := 7, ground := Go.Ground.data }, { on := 3, ground := Go.Ground.data }, { on := 9, ground := Go.Ground.chain }, { on := 0, ground := Go.Ground.phase }, { on := 1, ground := Go.Ground.phase }, { on := 2, ground := Go.Ground.phase }, { on := 3, ground := Go.Ground.phase }, { on := 4, ground := Go.Ground.textOnly Go.Departure.lateStores }, { on := 5, ground := Go.Ground.textOnly Go.Departure.lateStoresUnsure }, { on := 6, ground := Go.Ground.phase }, { on := 7, ground := Go.Ground.phase }, { on := 8, ground := Go.Ground.phase }, { on := 9, ground := Go.Ground.phase }], guard := none }, { dst := none, op := Go.Op.store 34 (Go.Operand.tmp 5) (Go.Operand.tmp 25), type := 0, pos := "outright.go:34", after := #[{ on := 8, ground := Go.Ground.data }, { on := 5, ground := Go.Ground.data }, { on := 10, ground := Go.Ground.chain }, { on := 0, ground := Go.Ground.phase }, { on := 1, ground := Go.Ground.phase }, { on := 2, ground := Go.Ground.phase }, { on := 3, ground := Go.Ground.phase }, { on := 4, ground := Go.Ground.phase }, { on := 5, ground := Go.Ground.phase }, { on := 6, ground := Go.Ground.phase }, { on := 7, ground := Go.Ground.phase }, { on := 8, ground := Go.Ground.phase }, { on := 9, ground := Go.Ground.phase }, { on := 10, ground := Go.Ground.phase }], guard := none }]
set_option maxHeartbeats 8000000 in
set_option maxRecDepth 100000 in
/-- The three bitmaps are made, and a variable for each, in whatever order. -/
theorem quarrylaw08_MarksParts.region3 (s : ByteArray) (n : Int) (l1 l2 l3 : List Int) (w W0 : World) (tl : List Value) (g1 g2 : Nat) (CM : Aside0 (∀ W, Calls Tryd.prog 18 #[.string s] W fun e w' => ∃ v, e = .returned v ∧ ∃ A1 k1, v = .agg #[.int .i64 n, .slice A1 l1.length k1] ∧ Aside0 (w'.ownsRow 0 75 1 (.slice A1 l1.length k1) l1.length (l1.map (Value.int .u64))) ∧ Below W.heap.size W w')) (CI : Aside0 (∀ W, Calls Tryd.prog 19 #[.string s] W fun e w' => ∃ v, e = .returned v ∧ ∃ A2 k2, v = .agg #[.int .i64 n, .slice A2 l2.length k2] ∧ Aside0 (w'.ownsRow 0 75 1 (.slice A2 l2.length k2) l2.length (l2.map (Value.int .u64))) ∧ Below W.heap.size W w')) (CB : Aside0 (∀ W, Calls Tryd.prog 20 #[.string s] W fun e w' => ∃ v, e = .returned v ∧ ∃ A3 k3, v = .agg #[.int .i64 n, .slice A3 l3.length k3] ∧ Aside0 (w'.ownsRow 0 75 1 (.slice A3 l3.length k3) l3.length (l3.map (Value.int .u64))) ∧ Below W.heap.size W w'))
    (Q : Exit → Act → World → Prop) (hS0 : W0.cell? ⟨g1, 0, none⟩ = some (.string s) ∧ Blk W0 g1 #[.string s] 9 ∧ Blk W0 g2 #[.bool false] 4 ∧ BelowH w W0)
    (H : ∀ (A1 : Option Addr) (k1 : Nat) (A2 : Option Addr) (k2 : Nat) (A3 : Option Addr) (k3 : Nat) (g3 g4 g5 : Nat) (W : World), (W.cell? ⟨g1, 0, none⟩ = some (.string s) ∧ Blk W g1 #[.string s] 9 ∧ Blk W g2 #[.bool false] 4 ∧ BelowH w W) → Aside0 (W.ownsRow 0 75 1 (.slice A1 l1.length k1) l1.length (l1.map (Value.int .u64))) → Aside0 (W.ownsRow 0 75 1 (.slice A2 l2.length k2) l2.length (l2.map (Value.int .u64))) → Aside0 (W.ownsRow 0 75 1 (.slice A3 l3.length k3) l3.length (l3.map (Value.int .u64))) → Blk W g3 #[.int .i64 n, .slice A1 l1.length k1] 34 → Blk W g4 #[.int .i64 n, .slice A2 l2.length k2] 34 → Blk W g5 #[.int .i64 n, .slice A3 l3.length k3] 34 → Aside0 (w.heap.size ≤ g3 ∧ w.heap.size ≤ g4 ∧ w.heap.size ≤ g5) → Q .normal { tmps := ((.string s : Value) :: (.pointer (some ⟨g1, 0, none⟩) : Value) :: (.pointer (some ⟨g2, 0, none⟩) : Value) :: (.pointer (some ⟨g3, 0, none⟩) : Value) :: (.pointer (some ⟨g4, 0, none⟩) : Value) :: (.pointer (some ⟨g5, 0, none⟩) : Value) :: undef :: undef :: undef :: undef :: undef :: undef :: undef :: undef :: undef :: undef :: undef :: undef :: (.bool true : Value) :: (.bool false : Value) :: (.string s : Value) :: (.agg #[.int .i64 n, .slice A1 l1.length k1] : Value) :: (.string s : Value) :: (.agg #[.int .i64 n, .slice A2 l2.length k2] : Value) :: (.string s : Value) :: (.agg #[.int .i64 n, .slice A3 l3.length k3] : Value) :: tl).toArray, defers := [] } W) :
    (Code.region 3 MpR.ops3 true).wp Tryd.prog Q { tmps := ((.string s : Value) :: (.pointer (some ⟨g1, 0, none⟩) : Value) :: (.pointer (some ⟨g2, 0, none⟩) : Value) :: undef :: undef :: undef :: undef :: undef :: undef :: undef :: undef :: undef :: undef :: undef :: undef :: undef :: undef :: undef :: (.bool true : Value) :: (.bool false : Value) :: undef :: undef :: undef :: undef :: undef :: undef :: tl).toArray, defers := [] } W0 := by
  have n3345 : ∀ (W : World) (A1 : Option Addr) (k1 : Nat) (A2 : Option Addr) (k2 : Nat) (A3 : Option Addr) (k3 : Nat) (g3 g4 g5 : Nat) (hS : W.cell? ⟨g1, 0, none⟩ = some (.string s) ∧ Blk W g1 #[.string s] 9 ∧ Blk W g2 #[.bool false] 4 ∧ BelowH w W) (r1 : Aside0 (W.ownsRow 0 75 1 (.slice A1 l1.length k1) l1.length (l1.map (Value.int .u64)))) (r2 : Aside0 (W.ownsRow 0 75 1 (.slice A2 l2.length k2) l2.length (l2.map (Value.int .u64)))) (r3 : Aside0 (W.ownsRow 0 75 1 (.slice A3 l3.length k3) l3.length (l3.map (Value.int .u64)))) (o3 : Blk W g3 #[.int .i64 0, .slice none 0 0] 34) (e3 : Aside0 (w.heap.size ≤ g3)) (m3 : Aside0 (g1 ≠ g3 ∧ g2 ≠ g3)) (o4 : Blk W g4 #[.int .i64 0, .slice none 0 0] 34) (e4 : Aside0 (w.heap.size ≤ g4)) (m4 : Aside0 (g1 ≠ g4 ∧ g2 ≠ g4)) (o5 : Blk W g5 #[.int .i64 0, .slice none 0 0] 34) (e5 : Aside0 (w.heap.size ≤ g5)) (m5 : Aside0 (g1 ≠ g5 ∧ g2 ≠ g5)) (m34 : Aside0 (g3 ≠ g4)) (m35 : Aside0 (g3 ≠ g5)) (m45 : Aside0 (g4 ≠ g5)), wpAnyH Tryd.prog .any MpR.ops3 (NoPanic Q) (fun W => W.cell? ⟨g1, 0, none⟩ = some (.string s) ∧ Blk W g1 #[.string s] 9 ∧ Blk W g2 #[.bool false] 4 ∧ BelowH w W) 3 #[true, true, true, true, true, true, true, true, true, false, false, false] { tmps := ((.string s : Value) :: (.pointer (some ⟨g1, 0, none⟩) : Value) :: (.pointer (some ⟨g2, 0, none⟩) : Value) :: (.pointer (some ⟨g3, 0, none⟩) : Value) :: (.pointer (some ⟨g4, 0, none⟩) : Value) :: (.pointer (some ⟨g5, 0, none⟩) : Value) :: undef :: undef :: undef :: undef :: undef :: undef :: undef :: undef :: undef :: undef :: undef :: undef :: (.bool true : Value) :: (.bool false : Value) :: (.string s : Value) :: (.agg #[.int .i64 n, .slice A1 l1.length k1] : Value) :: (.string s : Value) :: (.agg #[.int .i64 n, .slice A2 l2.length k2] : Value) :: (.string s : Value) :: (.agg #[.int .i64 n, .slice A3 l3.length k3] : Value) :: tl).toArray, defers := [] } W := by
    intro W A1 k1 A2 k2 A3 k3 g3 g4 g5 hS r1 r2 r3 o3 e3 m3 o4 e4 m4 o5 e5 m5 m34 m35 m45
    refine wpAnyH_ready (rs := [9]) (by kernel_rfl) (by simp) ?_
    refine AllReadyH.cons (o := Oper.mk _ _ _ _ _ _) rfl (fun K hK => ?_) AllReadyH.nil
    obtain ⟨c0, b1, b2, HB⟩ := hS
    refine rg_store (cs := #[.int .i64 n, .slice A1 l1.length k1]) HB (by rfl) o3 e3 34 _ _ rfl rfl rfl (by kernel_rfl) rfl (by simp [Value.oneCell']) ?_
    intro W3 q3 HBn hk
    have nb1 := b1.other hk m3.out.1
    have nb2 := b2.other hk m3.out.2
    have t1 := Aside0.mk (row_other r1.out o3 (by decide) hk)
    have t2 := Aside0.mk (row_other r2.out o3 (by decide) hk)
    have t3 := Aside0.mk (row_other r3.out o3 (by decide) hk)
    have z4 := o4.other hk m34.out.symm
    have z5 := o5.other hk m35.out.symm
    refine hK.out _ _ ⟨nb1.cell (i := 0) rfl, nb1, nb2, HBn⟩ (fun hS => ?_)
    clear hK K hk HBn HB nb1 nb2 r1 r2 r3 c0 b1 b2 o4 o5 o3
    have r1 := t1
    clear t1
    have r2 := t2
    clear t2
    have r3 := t3
    clear t3
    have o4 := z4
    clear z4
    have o5 := z5
    clear z5
    try simp only [Act.put, List.setIfInBounds_toArray, List.set_cons_zero, List.set_cons_succ]
    refine wpAnyH_ready (rs := [10]) (by kernel_rfl) (by simp) ?_
    refine AllReadyH.cons (o := Oper.mk _ _ _ _ _ _) rfl (fun K hK => ?_) AllReadyH.nil
    obtain ⟨c0, b1, b2, HB⟩ := hS
    refine rg_store (cs := #[.int .i64 n, .slice A2 l2.length k2]) HB (by rfl) o4 e4 34 _ _ rfl rfl rfl (by kernel_rfl) rfl (by simp [Value.oneCell']) ?_
    intro W4 q4 HBn hk
    have nb1 := b1.other hk m4.out.1
    have nb2 := b2.other hk m4.out.2
    have t1 := Aside0.mk (row_other r1.out o4 (by decide) hk)
    have t2 := Aside0.mk (row_other r2.out o4 (by decide) hk)
    have t3 := Aside0.mk (row_other r3.out o4 (by decide) hk)
    have z3 := q3.other hk m34.out
    have z5 := o5.other hk m45.out.symm
    refine hK.out _ _ ⟨nb1.cell (i := 0) rfl, nb1, nb2, HBn⟩ (fun hS => ?_)
    clear hK K hk HBn HB nb1 nb2 r1 r2 r3 c0 b1 b2 q3 o5 o4
    have r1 := t1
    clear t1
    have r2 := t2
    clear t2
    have r3 := t3
    clear t3
    have q3 := z3
    clear z3
    have o5 := z5
    clear z5
    try simp only [Act.put, List.setIfInBounds_toArray, List.set_cons_zero, List.set_cons_succ]
    refine wpAnyH_ready (rs := [11]) (by kernel_rfl) (by simp) ?_
    refine AllReadyH.cons (o := Oper.mk _ _ _ _ _ _) rfl (fun K hK => ?_) AllReadyH.nil
    obtain ⟨c0, b1, b2, HB⟩ := hS
    refine rg_store (cs := #[.int .i64 n, .slice A3 l3.length k3]) HB (by rfl) o5 e5 34 _ _ rfl rfl rfl (by kernel_rfl) rfl (by simp [Value.oneCell']) ?_
    intro W5 q5 HBn hk
    have nb1 := b1.other hk m5.out.1
    have nb2 := b2.other hk m5.out.2
    have t1 := Aside0.mk (row_other r1.out o5 (by decide) hk)
    have t2 := Aside0.mk (row_other r2.out o5 (by decide) hk)
    have t3 := Aside0.mk (row_other r3.out o5 (by decide) hk)
    have z3 := q3.other hk m35.out
    have z4 := q4.other hk m45.out
    refine hK.out _ _ ⟨nb1.cell (i := 0) rfl, nb1, nb2, HBn⟩ (fun hS => ?_)
    clear hK K hk HBn HB nb1 nb2 r1 r2 r3 c0 b1 b2 q3 q4 o5
    have r1 := t1
    clear t1
    have r2 := t2
    clear t2
    have r3 := t3
    clear t3
    have q3 := z3
    clear z3
    have q4 := z4
    clear z4
    try simp only [Act.put, List.setIfInBounds_toArray, List.set_cons_zero, List.set_cons_succ]
    refine wpAnyH_done (by kernel_rfl) ?_ _
    refine NoPanic.normal ?_
    exact H A1 k1 A2 k2 A3 k3 g3 g4 g5 _ hS r1 r2 r3 q3 q4 q5 ⟨e3.out, e4.out, e5.out⟩
  have n2345 : ∀ (W : World) (A1 : Option Addr) (k1 : Nat) (A2 : Option Addr) (k2 : Nat) (g3 g4 g5 : Nat) (hS : W.cell? ⟨g1, 0, none⟩ = some (.string s) ∧ Blk W g1 #[.string s] 9 ∧ Blk W g2 #[.bool false] 4 ∧ BelowH w W) (r1 : Aside0 (W.ownsRow 0 75 1 (.slice A1 l1.length k1) l1.length (l1.map (Value.int .u64)))) (r2 : Aside0 (W.ownsRow 0 75 1 (.slice A2 l2.length k2) l2.length (l2.map (Value.int .u64)))) (o3 : Blk W g3 #[.int .i64 0, .slice none 0 0] 34) (e3 : Aside0 (w.heap.size ≤ g3)) (m3 : Aside0 (g1 ≠ g3 ∧ g2 ≠ g3)) (o4 : Blk W g4 #[.int .i64 0, .slice none 0 0] 34) (e4 : Aside0 (w.heap.size ≤ g4)) (m4 : Aside0 (g1 ≠ g4 ∧ g2 ≠ g4)) (o5 : Blk W g5 #[.int .i64 0, .slice none 0 0] 34) (e5 : Aside0 (w.heap.size ≤ g5)) (m5 : Aside0 (g1 ≠ g5 ∧ g2 ≠ g5)) (m34 : Aside0 (g3 ≠ g4)) (m35 : Aside0 (g3 ≠ g5)) (m45 : Aside0 (g4 ≠ g5)), wpAnyH Tryd.prog .any MpR.ops3 (NoPanic Q) (fun W => W.cell? ⟨g1, 0, none⟩ = some (.string s) ∧ Blk W g1 #[.string s] 9 ∧ Blk W g2 #[.bool false] 4 ∧ BelowH w W) 4 #[true, true, true, true, true, false, true, true, true, false, false, false] { tmps := ((.string s : Value) :: (.pointer (some ⟨g1, 0, none⟩) : Value) :: (.pointer (some ⟨g2, 0, none⟩) : Value) :: (.pointer (some ⟨g3, 0, none⟩) : Value) :: (.pointer (some ⟨g4, 0, none⟩) : Value) :: (.pointer (some ⟨g5, 0, none⟩) : Value) :: undef :: undef :: undef :: undef :: undef :: undef :: undef :: undef :: undef :: undef :: undef :: undef :: (.bool true : Value) :: (.bool false : Value) :: (.string s : Value) :: (.agg #[.int .i64 n, .slice A1 l1.length k1] : Value) :: (.string s : Value) :: (.agg #[.int .i64 n, .slice A2 l2.length k2] : Value) :: (.string s : Value) :: undef :: tl).toArray, defers := [] } W := by
    intro W A1 k1 A2 k2 g3 g4 g5 hS r1 r2 o3 e3 m3 o4 e4 m4 o5 e5 m5 m34 m35 m45
    refine wpAnyH_ready (rs := [5]) (by kernel_rfl) (by simp) ?_
    refine AllReadyH.cons (o := Oper.mk _ _ _ _ _ _) rfl (fun K hK => ?_) ?_
    · obtain ⟨c0, b1, b2, HB⟩ := hS
      refine rg_callE (by rfl) _ _ (by first | (go_simp; done) | (go_simp; rfl)) (CB.out _) ?_
      intro v W' hv
      obtain ⟨A3, k3, hv1, r3, hb0⟩ := hv.out
      have hb := Aside0.mk hb0
      cases hv1
      clear hv hb0
      refine hK.out _ _ ⟨pw_cell_below hb.out c0, b1.below hb.out, b2.below hb.out, HB.step hb.out⟩ (fun hS => ?_)
      exact n3345 W' A1 k1 A2 k2 A3 k3 g3 g4 g5 hS ⟨row_below r1.out hb.out⟩ ⟨row_below r2.out hb.out⟩ r3 (o3.below hb.out) e3 m3 (o4.below hb.out) e4 m4 (o5.below hb.out) e5 m5 m34 m35 m45
    exact AllReadyH.nil
  have n334 : ∀ (W : World) (A1 : Option Addr) (k1 : Nat) (A2 : Option Addr) (k2 : Nat) (A3 : Option Addr) (k3 : Nat) (g3 g4 : Nat) (hS : W.cell? ⟨g1, 0, none⟩ = some (.string s) ∧ Blk W g1 #[.string s] 9 ∧ Blk W g2 #[.bool false] 4 ∧ BelowH w W) (r1 : Aside0 (W.ownsRow 0 75 1 (.slice A1 l1.length k1) l1.length (l1.map (Value.int .u64)))) (r2 : Aside0 (W.ownsRow 0 75 1 (.slice A2 l2.length k2) l2.length (l2.map (Value.int .u64)))) (r3 : Aside0 (W.ownsRow 0 75 1 (.slice A3 l3.length k3) l3.length (l3.map (Value.int .u64)))) (o3 : Blk W g3 #[.int .i64 0, .slice none 0 0] 34) (e3 : Aside0 (w.heap.size ≤ g3)) (m3 : Aside0 (g1 ≠ g3 ∧ g2 ≠ g3)) (o4 : Blk W g4 #[.int .i64 0, .slice none 0 0] 34) (e4 : Aside0 (w.heap.size ≤ g4)) (m4 : Aside0 (g1 ≠ g4 ∧ g2 ≠ g4)) (m34 : Aside0 (g3 ≠ g4)), wpAnyH Tryd.prog .any MpR.ops3 (NoPanic Q) (fun W => W.cell? ⟨g1, 0, none⟩ = some (.string s) ∧ Blk W g1 #[.string s] 9 ∧ Blk W g2 #[.bool false] 4 ∧ BelowH w W) 4 #[true, true, true, true, true, true, true, true, false, false, false, false] { tmps := ((.string s : Value) :: (.pointer (some ⟨g1, 0, none⟩) : Value) :: (.pointer (some ⟨g2, 0, none⟩) : Value) :: (.pointer (some ⟨g3, 0, none⟩) : Value) :: (.pointer (some ⟨g4, 0, none⟩) : Value) :: undef :: undef :: undef :: undef :: undef :: undef :: undef :: undef :: undef :: undef :: undef :: undef :: undef :: (.bool true : Value) :: (.bool false : Value) :: (.string s : Value) :: (.agg #[.int .i64 n, .slice A1 l1.length k1] : Value) :: (.string s : Value) :: (.agg #[.int .i64 n, .slice A2 l2.length k2] : Value) :: (.string s : Value) :: (.agg #[.int .i64 n, .slice A3 l3.length k3] : Value) :: tl).toArray, defers := [] } W := by
    intro W A1 k1 A2 k2 A3 k3 g3 g4 hS r1 r2 r3 o3 e3 m3 o4 e4 m4 m34
    refine wpAnyH_ready (rs := [8]) (by kernel_rfl) (by simp) ?_
    refine AllReadyH.cons (o := Oper.mk _ _ _ _ _ _) rfl (fun K hK => ?_) ?_
    · obtain ⟨c0, b1, b2, HB⟩ := hS
      have l1_ := b1.lt
      have l2_ := b2.lt
      have l3_ := o3.lt
      have l4_ := o4.lt
      refine rg_alloc HB (by rfl) #[.int .i64 0, .slice none 0 0] 34 (by first | (go_simp; done) | (go_simp; rfl)) ?_
      intro g5 W' hgN e5 o5 HBn hb
      have m5 := Aside0.mk (show g1 ≠ g5 ∧ g2 ≠ g5 by have := hgN.out; omega)
      have m35 := Aside0.mk (show g3 ≠ g5 by have := hgN.out; omega)
      have m45 := Aside0.mk (show g4 ≠ g5 by have := hgN.out; omega)
      refine hK.out _ _ ⟨pw_cell_below hb.out c0, b1.below hb.out, b2.below hb.out, HBn⟩ (fun hS => ?_)
      exact n3345 W' A1 k1 A2 k2 A3 k3 g3 g4 g5 hS ⟨row_below r1.out hb.out⟩ ⟨row_below r2.out hb.out⟩ ⟨row_below r3.out hb.out⟩ (o3.below hb.out) e3 m3 (o4.below hb.out) e4 m4 (o5) e5 m5 m34 m35 m45
    exact AllReadyH.nil
  have n335 : ∀ (W : World) (A1 : Option Addr) (k1 : Nat) (A2 : Option Addr) (k2 : Nat) (A3 : Option Addr) (k3 : Nat) (g3 g5 : Nat) (hS : W.cell? ⟨g1, 0, none⟩ = some (.string s) ∧ Blk W g1 #[.string s] 9 ∧ Blk W g2 #[.bool false] 4 ∧ BelowH w W) (r1 : Aside0 (W.ownsRow 0 75 1 (.slice A1 l1.length k1) l1.length (l1.map (Value.int .u64)))) (r2 : Aside0 (W.ownsRow 0 75 1 (.slice A2 l2.length k2) l2.length (l2.map (Value.int .u64)))) (r3 : Aside0 (W.ownsRow 0 75 1 (.slice A3 l3.length k3) l3.length (l3.map (Value.int .u64)))) (o3 : Blk W g3 #[.int .i64 0, .slice none 0 0] 34) (e3 : Aside0 (w.heap.size ≤ g3)) (m3 : Aside0 (g1 ≠ g3 ∧ g2 ≠ g3)) (o5 : Blk W g5 #[.int .i64 0, .slice none 0 0] 34) (e5 : Aside0 (w.heap.size ≤ g5)) (m5 : Aside0 (g1 ≠ g5 ∧ g2 ≠ g5)) (m35 : Aside0 (g3 ≠ g5)), wpAnyH Tryd.prog .any MpR.ops3 (NoPanic Q) (fun W => W.cell? ⟨g1, 0, none⟩ = some (.string s) ∧ Blk W g1 #[.string s] 9 ∧ Blk W g2 #[.bool false] 4 ∧ BelowH w W) 4 #[true, true, true, true, true, true, true, false, true, false, false, false] { tmps := ((.string s : Value) :: (.pointer (some ⟨g1, 0, none⟩) : Value) :: (.pointer (some ⟨g2, 0, none⟩) : Value) :: (.pointer (some ⟨g3, 0, none⟩) : Value) :: undef :: (.pointer (some ⟨g5, 0, none⟩) : Value) :: undef :: undef :: undef :: undef :: undef :: undef :: undef :: undef :: undef :: undef :: undef :: undef :: (.bool true : Value) :: (.bool false : Value) :: (.string s : Value) :: (.agg #[.int .i64 n, .slice A1 l1.length k1] : Value) :: (.string s : Value) :: (.agg #[.int .i64 n, .slice A2 l2.length k2] : Value) :: (.string s : Value) :: (.agg #[.int .i64 n, .slice A3 l3.length k3] : Value) :: tl).toArray, defers := [] } W := by
    intro W A1 k1 A2 k2 A3 k3 g3 g5 hS r1 r2 r3 o3 e3 m3 o5 e5 m5 m35
    refine wpAnyH_ready (rs := [7]) (by kernel_rfl) (by simp) ?_
    refine AllReadyH.cons (o := Oper.mk _ _ _ _ _ _) rfl (fun K hK => ?_) ?_
    · obtain ⟨c0, b1, b2, HB⟩ := hS
      have l1_ := b1.lt
      have l2_ := b2.lt
      have l3_ := o3.lt
      have l5_ := o5.lt
      refine rg_alloc HB (by rfl) #[.int .i64 0, .slice none 0 0] 34 (by first | (go_simp; done) | (go_simp; rfl)) ?_
      intro g4 W' hgN e4 o4 HBn hb
      have m4 := Aside0.mk (show g1 ≠ g4 ∧ g2 ≠ g4 by have := hgN.out; omega)
      have m34 := Aside0.mk (show g3 ≠ g4 by have := hgN.out; omega)
      have m45 := Aside0.mk (show g4 ≠ g5 by have := hgN.out; omega)
      refine hK.out _ _ ⟨pw_cell_below hb.out c0, b1.below hb.out, b2.below hb.out, HBn⟩ (fun hS => ?_)
      exact n3345 W' A1 k1 A2 k2 A3 k3 g3 g4 g5 hS ⟨row_below r1.out hb.out⟩ ⟨row_below r2.out hb.out⟩ ⟨row_below r3.out hb.out⟩ (o3.below hb.out) e3 m3 (o4) e4 m4 (o5.below hb.out) e5 m5 m34 m35 m45
    exact AllReadyH.nil
  have n345 : ∀ (W : World) (A1 : Option Addr) (k1 : Nat) (A2 : Option Addr) (k2 : Nat) (A3 : Option Addr) (k3 : Nat) (g4 g5 : Nat) (hS : W.cell? ⟨g1, 0, none⟩ = some (.string s) ∧ Blk W g1 #[.string s] 9 ∧ Blk W g2 #[.bool false] 4 ∧ BelowH w W) (r1 : Aside0 (W.ownsRow 0 75 1 (.slice A1 l1.length k1) l1.length (l1.map (Value.int .u64)))) (r2 : Aside0 (W.ownsRow 0 75 1 (.slice A2 l2.length k2) l2.length (l2.map (Value.int .u64)))) (r3 : Aside0 (W.ownsRow 0 75 1 (.slice A3 l3.length k3) l3.length (l3.map (Value.int .u64)))) (o4 : Blk W g4 #[.int .i64 0, .slice none 0 0] 34) (e4 : Aside0 (w.heap.size ≤ g4)) (m4 : Aside0 (g1 ≠ g4 ∧ g2 ≠ g4)) (o5 : Blk W g5 #[.int .i64 0, .slice none 0 0] 34) (e5 : Aside0 (w.heap.size ≤ g5)) (m5 : Aside0 (g1 ≠ g5 ∧ g2 ≠ g5)) (m45 : Aside0 (g4 ≠ g5)), wpAnyH Tryd.prog .any MpR.ops3 (NoPanic Q) (fun W => W.cell? ⟨g1, 0, none⟩ = some (.string s) ∧ Blk W g1 #[.string s] 9 ∧ Blk W g2 #[.bool false] 4 ∧ BelowH w W) 4 #[true, true, true, true, true, true, false, true, true, false, false, false] { tmps := ((.string s : Value) :: (.pointer (some ⟨g1, 0, none⟩) : Value) :: (.pointer (some ⟨g2, 0, none⟩) : Value) :: undef :: (.pointer (some ⟨g4, 0, none⟩) : Value) :: (.pointer (some ⟨g5, 0, none⟩) : Value) :: undef :: undef :: undef :: undef :: undef :: undef :: undef :: undef :: undef :: undef :: undef :: undef :: (.bool true : Value) :: (.bool false : Value) :: (.string s : Value) :: (.agg #[.int .i64 n, .slice A1 l1.length k1] : Value) :: (.string s : Value) :: (.agg #[.int .i64 n, .slice A2 l2.length k2] : Value) :: (.string s : Value) :: (.agg #[.int .i64 n, .slice A3 l3.length k3] : Value) :: tl).toArray, defers := [] } W := by
    intro W A1 k1 A2 k2 A3 k3 g4 g5 hS r1 r2 r3 o4 e4 m4 o5 e5 m5 m45
    refine wpAnyH_ready (rs := [6]) (by kernel_rfl) (by simp) ?_
    refine AllReadyH.cons (o := Oper.mk _ _ _ _ _ _) rfl (fun K hK => ?_) ?_
    · obtain ⟨c0, b1, b2, HB⟩ := hS
      have l1_ := b1.lt
      have l2_ := b2.lt
      have l4_ := o4.lt
      have l5_ := o5.lt
      refine rg_alloc HB (by rfl) #[.int .i64 0, .slice none 0 0] 34 (by first | (go_simp; done) | (go_simp; rfl)) ?_
      intro g3 W' hgN e3 o3 HBn hb
      have m3 := Aside0.mk (show g1 ≠ g3 ∧ g2 ≠ g3 by have := hgN.out; omega)
      have m34 := Aside0.mk (show g3 ≠ g4 by have := hgN.out; omega)
      have m35 := Aside0.mk (show g3 ≠ g5 by have := hgN.out; omega)
      refine hK.out _ _ ⟨pw_cell_below hb.out c0, b1.below hb.out, b2.below hb.out, HBn⟩ (fun hS => ?_)
      exact n3345 W' A1 k1 A2 k2 A3 k3 g3 g4 g5 hS ⟨row_below r1.out hb.out⟩ ⟨row_below r2.out hb.out⟩ ⟨row_below r3.out hb.out⟩ (o3) e3 m3 (o4.below hb.out) e4 m4 (o5.below hb.out) e5 m5 m34 m35 m45
    exact AllReadyH.nil
  have n1345 : ∀ (W : World) (A1 : Option Addr) (k1 : Nat) (g3 g4 g5 : Nat) (hS : W.cell? ⟨g1, 0, none⟩ = some (.string s) ∧ Blk W g1 #[.string s] 9 ∧ Blk W g2 #[.bool false] 4 ∧ BelowH w W) (r1 : Aside0 (W.ownsRow 0 75 1 (.slice A1 l1.length k1) l1.length (l1.map (Value.int .u64)))) (o3 : Blk W g3 #[.int .i64 0, .slice none 0 0] 34) (e3 : Aside0 (w.heap.size ≤ g3)) (m3 : Aside0 (g1 ≠ g3 ∧ g2 ≠ g3)) (o4 : Blk W g4 #[.int .i64 0, .slice none 0 0] 34) (e4 : Aside0 (w.heap.size ≤ g4)) (m4 : Aside0 (g1 ≠ g4 ∧ g2 ≠ g4)) (o5 : Blk W g5 #[.int .i64 0, .slice none 0 0] 34) (e5 : Aside0 (w.heap.size ≤ g5)) (m5 : Aside0 (g1 ≠ g5 ∧ g2 ≠ g5)) (m34 : Aside0 (g3 ≠ g4)) (m35 : Aside0 (g3 ≠ g5)) (m45 : Aside0 (g4 ≠ g5)), wpAnyH Tryd.prog .any MpR.ops3 (NoPanic Q) (fun W => W.cell? ⟨g1, 0, none⟩ = some (.string s) ∧ Blk W g1 #[.string s] 9 ∧ Blk W g2 #[.bool false] 4 ∧ BelowH w W) 5 #[true, true, true, false, true, false, true, true, true, false, false, false] { tmps := ((.string s : Value) :: (.pointer (some ⟨g1, 0, none⟩) : Value) :: (.pointer (some ⟨g2, 0, none⟩) : Value) :: (.pointer (some ⟨g3, 0, none⟩) : Value) :: (.pointer (some ⟨g4, 0, none⟩) : Value) :: (.pointer (some ⟨g5, 0, none⟩) : Value) :: undef :: undef :: undef :: undef :: undef :: undef :: undef :: undef :: undef :: undef :: undef :: undef :: (.bool true : Value) :: (.bool false : Value) :: (.string s : Value) :: (.agg #[.int .i64 n, .slice A1 l1.length k1] : Value) :: (.string s : Value) :: undef :: (.string s : Value) :: undef :: tl).toArray, defers := [] } W := by
    intro W A1 k1 g3 g4 g5 hS r1 o3 e3 m3 o4 e4 m4 o5 e5 m5 m34 m35 m45
    refine wpAnyH_ready (rs := [3]) (by kernel_rfl) (by simp) ?_
    refine AllReadyH.cons (o := Oper.mk _ _ _ _ _ _) rfl (fun K hK => ?_) ?_
    · obtain ⟨c0, b1, b2, HB⟩ := hS
      refine rg_callE (by rfl) _ _ (by first | (go_simp; done) | (go_simp; rfl)) (CI.out _) ?_
      intro v W' hv
      obtain ⟨A2, k2, hv1, r2, hb0⟩ := hv.out
      have hb := Aside0.mk hb0
      cases hv1
      clear hv hb0
      refine hK.out _ _ ⟨pw_cell_below hb.out c0, b1.below hb.out, b2.below hb.out, HB.step hb.out⟩ (fun hS => ?_)
      exact n2345 W' A1 k1 A2 k2 g3 g4 g5 hS ⟨row_below r1.out hb.out⟩ r2 (o3.below hb.out) e3 m3 (o4.below hb.out) e4 m4 (o5.below hb.out) e5 m5 m34 m35 m45
    exact AllReadyH.nil
  have n234 : ∀ (W : World) (A1 : Option Addr) (k1 : Nat) (A2 : Option Addr) (k2 : Nat) (g3 g4 : Nat) (hS : W.cell? ⟨g1, 0, none⟩ = some (.string s) ∧ Blk W g1 #[.string s] 9 ∧ Blk W g2 #[.bool false] 4 ∧ BelowH w W) (r1 : Aside0 (W.ownsRow 0 75 1 (.slice A1 l1.length k1) l1.length (l1.map (Value.int .u64)))) (r2 : Aside0 (W.ownsRow 0 75 1 (.slice A2 l2.length k2) l2.length (l2.map (Value.int .u64)))) (o3 : Blk W g3 #[.int .i64 0, .slice none 0 0] 34) (e3 : Aside0 (w.heap.size ≤ g3)) (m3 : Aside0 (g1 ≠ g3 ∧ g2 ≠ g3)) (o4 : Blk W g4 #[.int .i64 0, .slice none 0 0] 34) (e4 : Aside0 (w.heap.size ≤ g4)) (m4 : Aside0 (g1 ≠ g4 ∧ g2 ≠ g4)) (m34 : Aside0 (g3 ≠ g4)), wpAnyH Tryd.prog .any MpR.ops3 (NoPanic Q) (fun W => W.cell? ⟨g1, 0, none⟩ = some (.string s) ∧ Blk W g1 #[.string s] 9 ∧ Blk W g2 #[.bool false] 4 ∧ BelowH w W) 5 #[true, true, true, true, true, false, true, true, false, false, false, false] { tmps := ((.string s : Value) :: (.pointer (some ⟨g1, 0, none⟩) : Value) :: (.pointer (some ⟨g2, 0, none⟩) : Value) :: (.pointer (some ⟨g3, 0, none⟩) : Value) :: (.pointer (some ⟨g4, 0, none⟩) : Value) :: undef :: undef :: undef :: undef :: undef :: undef :: undef :: undef :: undef :: undef :: undef :: undef :: undef :: (.bool true : Value) :: (.bool false : Value) :: (.string s : Value) :: (.agg #[.int .i64 n, .slice A1 l1.length k1] : Value) :: (.string s : Value) :: (.agg #[.int .i64 n, .slice A2 l2.length k2] : Value) :: (.string s : Value) :: undef :: tl).toArray, defers := [] } W := by
    intro W A1 k1 A2 k2 g3 g4 hS r1 r2 o3 e3 m3 o4 e4 m4 m34
    refine wpAnyH_ready (rs := [5, 8]) (by kernel_rfl) (by simp) ?_
    refine AllReadyH.cons (o := Oper.mk _ _ _ _ _ _) rfl (fun K hK => ?_) ?_
    · obtain ⟨c0, b1, b2, HB⟩ := hS
      refine rg_callE (by rfl) _ _ (by first | (go_simp; done) | (go_simp; rfl)) (CB.out _) ?_
      intro v W' hv
      obtain ⟨A3, k3, hv1, r3, hb0⟩ := hv.out
      have hb := Aside0.mk hb0
      cases hv1
      clear hv hb0
      refine hK.out _ _ ⟨pw_cell_below hb.out c0, b1.below hb.out, b2.below hb.out, HB.step hb.out⟩ (fun hS => ?_)
      exact n334 W' A1 k1 A2 k2 A3 k3 g3 g4 hS ⟨row_below r1.out hb.out⟩ ⟨row_below r2.out hb.out⟩ r3 (o3.below hb.out) e3 m3 (o4.below hb.out) e4 m4 m34
    refine AllReadyH.cons (o := Oper.mk _ _ _ _ _ _) rfl (fun K hK => ?_) ?_
    · obtain ⟨c0, b1, b2, HB⟩ := hS
      have l1_ := b1.lt
      have l2_ := b2.lt
      have l3_ := o3.lt
      have l4_ := o4.lt
      refine rg_alloc HB (by rfl) #[.int .i64 0, .slice none 0 0] 34 (by first | (go_simp; done) | (go_simp; rfl)) ?_
      intro g5 W' hgN e5 o5 HBn hb
      have m5 := Aside0.mk (show g1 ≠ g5 ∧ g2 ≠ g5 by have := hgN.out; omega)
      have m35 := Aside0.mk (show g3 ≠ g5 by have := hgN.out; omega)
      have m45 := Aside0.mk (show g4 ≠ g5 by have := hgN.out; omega)
      refine hK.out _ _ ⟨pw_cell_below hb.out c0, b1.below hb.out, b2.below hb.out, HBn⟩ (fun hS => ?_)
      exact n2345 W' A1 k1 A2 k2 g3 g4 g5 hS ⟨row_below r1.out hb.out⟩ ⟨row_below r2.out hb.out⟩ (o3.below hb.out) e3 m3 (o4.below hb.out) e4 m4 (o5) e5 m5 m34 m35 m45
    exact AllReadyH.nil
  have n235 : ∀ (W : World) (A1 : Option Addr) (k1 : Nat) (A2 : Option Addr) (k2 : Nat) (g3 g5 : Nat) (hS : W.cell? ⟨g1, 0, none⟩ = some (.string s) ∧ Blk W g1 #[.string s] 9 ∧ Blk W g2 #[.bool false] 4 ∧ BelowH w W) (r1 : Aside0 (W.ownsRow 0 75 1 (.slice A1 l1.length k1) l1.length (l1.map (Value.int .u64)))) (r2 : Aside0 (W.ownsRow 0 75 1 (.slice A2 l2.length k2) l2.length (l2.map (Value.int .u64)))) (o3 : Blk W g3 #[.int .i64 0, .slice none 0 0] 34) (e3 : Aside0 (w.heap.size ≤ g3)) (m3 : Aside0 (g1 ≠ g3 ∧ g2 ≠ g3)) (o5 : Blk W g5 #[.int .i64 0, .slice none 0 0] 34) (e5 : Aside0 (w.heap.size ≤ g5)) (m5 : Aside0 (g1 ≠ g5 ∧ g2 ≠ g5)) (m35 : Aside0 (g3 ≠ g5)), wpAnyH Tryd.prog .any MpR.ops3 (NoPanic Q) (fun W => W.cell? ⟨g1, 0, none⟩ = some (.string s) ∧ Blk W g1 #[.string s] 9 ∧ Blk W g2 #[.bool false] 4 ∧ BelowH w W) 5 #[true, true, true, true, true, false, true, false, true, false, false, false] { tmps := ((.string s : Value) :: (.pointer (some ⟨g1, 0, none⟩) : Value) :: (.pointer (some ⟨g2, 0, none⟩) : Value) :: (.pointer (some ⟨g3, 0, none⟩) : Value) :: undef :: (.pointer (some ⟨g5, 0, none⟩) : Value) :: undef :: undef :: undef :: undef :: undef :: undef :: undef :: undef :: undef :: undef :: undef :: undef :: (.bool true : Value) :: (.bool false : Value) :: (.string s : Value) :: (.agg #[.int .i64 n, .slice A1 l1.length k1] : Value) :: (.string s : Value) :: (.agg #[.int .i64 n, .slice A2 l2.length k2] : Value) :: (.string s : Value) :: undef :: tl).toArray, defers := [] } W := by
    intro W A1 k1 A2 k2 g3 g5 hS r1 r2 o3 e3 m3 o5 e5 m5 m35
    refine wpAnyH_ready (rs := [5, 7]) (by kernel_rfl) (by simp) ?_
    refine AllReadyH.cons (o := Oper.mk _ _ _ _ _ _) rfl (fun K hK => ?_) ?_
    · obtain ⟨c0, b1, b2, HB⟩ := hS
      refine rg_callE (by rfl) _ _ (by first | (go_simp; done) | (go_simp; rfl)) (CB.out _) ?_
      intro v W' hv
      obtain ⟨A3, k3, hv1, r3, hb0⟩ := hv.out
      have hb := Aside0.mk hb0
      cases hv1
      clear hv hb0
      refine hK.out _ _ ⟨pw_cell_below hb.out c0, b1.below hb.out, b2.below hb.out, HB.step hb.out⟩ (fun hS => ?_)
      exact n335 W' A1 k1 A2 k2 A3 k3 g3 g5 hS ⟨row_below r1.out hb.out⟩ ⟨row_below r2.out hb.out⟩ r3 (o3.below hb.out) e3 m3 (o5.below hb.out) e5 m5 m35
    refine AllReadyH.cons (o := Oper.mk _ _ _ _ _ _) rfl (fun K hK => ?_) ?_
    · obtain ⟨c0, b1, b2, HB⟩ := hS
      have l1_ := b1.lt
      have l2_ := b2.lt
      have l3_ := o3.lt
      have l5_ := o5.lt
      refine rg_alloc HB (by rfl) #[.int .i64 0, .slice none 0 0] 34 (by first | (go_simp; done) | (go_simp; rfl)) ?_
      intro g4 W' hgN e4 o4 HBn hb
      have m4 := Aside0.mk (show g1 ≠ g4 ∧ g2 ≠ g4 by have := hgN.out; omega)
      have m34 := Aside0.mk (show g3 ≠ g4 by have := hgN.out; omega)
      have m45 := Aside0.mk (show g4 ≠ g5 by have := hgN.out; omega)
      refine hK.out _ _ ⟨pw_cell_below hb.out c0, b1.below hb.out, b2.below hb.out, HBn⟩ (fun hS => ?_)
      exact n2345 W' A1 k1 A2 k2 g3 g4 g5 hS ⟨row_below r1.out hb.out⟩ ⟨row_below r2.out hb.out⟩ (o3.below hb.out) e3 m3 (o4) e4 m4 (o5.below hb.out) e5 m5 m34 m35 m45
    exact AllReadyH.nil
  have n245 : ∀ (W : World) (A1 : Option Addr) (k1 : Nat) (A2 : Option Addr) (k2 : Nat) (g4 g5 : Nat) (hS : W.cell? ⟨g1, 0, none⟩ = some (.string s) ∧ Blk W g1 #[.string s] 9 ∧ Blk W g2 #[.bool false] 4 ∧ BelowH w W) (r1 : Aside0 (W.ownsRow 0 75 1 (.slice A1 l1.length k1) l1.length (l1.map (Value.int .u64)))) (r2 : Aside0 (W.ownsRow 0 75 1 (.slice A2 l2.length k2) l2.length (l2.map (Value.int .u64)))) (o4 : Blk W g4 #[.int .i64 0, .slice none 0 0] 34) (e4 : Aside0 (w.heap.size ≤ g4)) (m4 : Aside0 (g1 ≠ g4 ∧ g2 ≠ g4)) (o5 : Blk W g5 #[.int .i64 0, .slice none 0 0] 34) (e5 : Aside0 (w.heap.size ≤ g5)) (m5 : Aside0 (g1 ≠ g5 ∧ g2 ≠ g5)) (m45 : Aside0 (g4 ≠ g5)), wpAnyH Tryd.prog .any MpR.ops3 (NoPanic Q) (fun W => W.cell? ⟨g1, 0, none⟩ = some (.string s) ∧ Blk W g1 #[.string s] 9 ∧ Blk W g2 #[.bool false] 4 ∧ BelowH w W) 5 #[true, true, true, true, true, false, false, true, true, false, false, false] { tmps := ((.string s : Value) :: (.pointer (some ⟨g1, 0, none⟩) : Value) :: (.pointer (some ⟨g2, 0, none⟩) : Value) :: undef :: (.pointer (some ⟨g4, 0, none⟩) : Value) :: (.pointer (some ⟨g5, 0, none⟩) : Value) :: undef :: undef :: undef :: undef :: undef :: undef :: undef :: undef :: undef :: undef :: undef :: undef :: (.bool true : Value) :: (.bool false : Value) :: (.string s : Value) :: (.agg #[.int .i64 n, .slice A1 l1.length k1] : Value) :: (.string s : Value) :: (.agg #[.int .i64 n, .slice A2 l2.length k2] : Value) :: (.string s : Value) :: undef :: tl).toArray, defers := [] } W := by
    intro W A1 k1 A2 k2 g4 g5 hS r1 r2 o4 e4 m4 o5 e5 m5 m45
    refine wpAnyH_ready (rs := [5, 6]) (by kernel_rfl) (by simp) ?_
    refine AllReadyH.cons (o := Oper.mk _ _ _ _ _ _) rfl (fun K hK => ?_) ?_
    · obtain ⟨c0, b1, b2, HB⟩ := hS
      refine rg_callE (by rfl) _ _ (by first | (go_simp; done) | (go_simp; rfl)) (CB.out _) ?_
      intro v W' hv
      obtain ⟨A3, k3, hv1, r3, hb0⟩ := hv.out
      have hb := Aside0.mk hb0
      cases hv1
      clear hv hb0
      refine hK.out _ _ ⟨pw_cell_below hb.out c0, b1.below hb.out, b2.below hb.out, HB.step hb.out⟩ (fun hS => ?_)
      exact n345 W' A1 k1 A2 k2 A3 k3 g4 g5 hS ⟨row_below r1.out hb.out⟩ ⟨row_below r2.out hb.out⟩ r3 (o4.below hb.out) e4 m4 (o5.below hb.out) e5 m5 m45
    refine AllReadyH.cons (o := Oper.mk _ _ _ _ _ _) rfl (fun K hK => ?_) ?_
    · obtain ⟨c0, b1, b2, HB⟩ := hS
      have l1_ := b1.lt
      have l2_ := b2.lt
      have l4_ := o4.lt
      have l5_ := o5.lt
      refine rg_alloc HB (by rfl) #[.int .i64 0, .slice none 0 0] 34 (by first | (go_simp; done) | (go_simp; rfl)) ?_
      intro g3 W' hgN e3 o3 HBn hb
      have m3 := Aside0.mk (show g1 ≠ g3 ∧ g2 ≠ g3 by have := hgN.out; omega)
      have m34 := Aside0.mk (show g3 ≠ g4 by have := hgN.out; omega)
      have m35 := Aside0.mk (show g3 ≠ g5 by have := hgN.out; omega)
      refine hK.out _ _ ⟨pw_cell_below hb.out c0, b1.below hb.out, b2.below hb.out, HBn⟩ (fun hS => ?_)
      exact n2345 W' A1 k1 A2 k2 g3 g4 g5 hS ⟨row_below r1.out hb.out⟩ ⟨row_below r2.out hb.out⟩ (o3) e3 m3 (o4.below hb.out) e4 m4 (o5.below hb.out) e5 m5 m34 m35 m45
    exact AllReadyH.nil
  have n33 : ∀ (W : World) (A1 : Option Addr) (k1 : Nat) (A2 : Option Addr) (k2 : Nat) (A3 : Option Addr) (k3 : Nat) (g3 : Nat) (hS : W.cell? ⟨g1, 0, none⟩ = some (.string s) ∧ Blk W g1 #[.string s] 9 ∧ Blk W g2 #[.bool false] 4 ∧ BelowH w W) (r1 : Aside0 (W.ownsRow 0 75 1 (.slice A1 l1.length k1) l1.length (l1.map (Value.int .u64)))) (r2 : Aside0 (W.ownsRow 0 75 1 (.slice A2 l2.length k2) l2.length (l2.map (Value.int .u64)))) (r3 : Aside0 (W.ownsRow 0 75 1 (.slice A3 l3.length k3) l3.length (l3.map (Value.int .u64)))) (o3 : Blk W g3 #[.int .i64 0, .slice none 0 0] 34) (e3 : Aside0 (w.heap.size ≤ g3)) (m3 : Aside0 (g1 ≠ g3 ∧ g2 ≠ g3)), wpAnyH Tryd.prog .any MpR.ops3 (NoPanic Q) (fun W => W.cell? ⟨g1, 0, none⟩ = some (.string s) ∧ Blk W g1 #[.string s] 9 ∧ Blk W g2 #[.bool false] 4 ∧ BelowH w W) 5 #[true, true, true, true, true, true, true, false, false, false, false, false] { tmps := ((.string s : Value) :: (.pointer (some ⟨g1, 0, none⟩) : Value) :: (.pointer (some ⟨g2, 0, none⟩) : Value) :: (.pointer (some ⟨g3, 0, none⟩) : Value) :: undef :: undef :: undef :: undef :: undef :: undef :: undef :: undef :: undef :: undef :: undef :: undef :: undef :: undef :: (.bool true : Value) :: (.bool false : Value) :: (.string s : Value) :: (.agg #[.int .i64 n, .slice A1 l1.length k1] : Value) :: (.string s : Value) :: (.agg #[.int .i64 n, .slice A2 l2.length k2] : Value) :: (.string s : Value) :: (.agg #[.int .i64 n, .slice A3 l3.length k3] : Value) :: tl).toArray, defers := [] } W := by
    intro W A1 k1 A2 k2 A3 k3 g3 hS r1 r2 r3 o3 e3 m3 
    refine wpAnyH_ready (rs := [7, 8]) (by kernel_rfl) (by simp) ?_
    refine AllReadyH.cons (o := Oper.mk _ _ _ _ _ _) rfl (fun K hK => ?_) ?_
    · obtain ⟨c0, b1, b2, HB⟩ := hS
      have l1_ := b1.lt
      have l2_ := b2.lt
      have l3_ := o3.lt
      refine rg_alloc HB (by rfl) #[.int .i64 0, .slice none 0 0] 34 (by first | (go_simp; done) | (go_simp; rfl)) ?_
      intro g4 W' hgN e4 o4 HBn hb
      have m4 := Aside0.mk (show g1 ≠ g4 ∧ g2 ≠ g4 by have := hgN.out; omega)
      have m34 := Aside0.mk (show g3 ≠ g4 by have := hgN.out; omega)
      refine hK.out _ _ ⟨pw_cell_below hb.out c0, b1.below hb.out, b2.below hb.out, HBn⟩ (fun hS => ?_)
      exact n334 W' A1 k1 A2 k2 A3 k3 g3 g4 hS ⟨row_below r1.out hb.out⟩ ⟨row_below r2.out hb.out⟩ ⟨row_below r3.out hb.out⟩ (o3.below hb.out) e3 m3 (o4) e4 m4 m34
    refine AllReadyH.cons (o := Oper.mk _ _ _ _ _ _) rfl (fun K hK => ?_) ?_
    · obtain ⟨c0, b1, b2, HB⟩ := hS
      have l1_ := b1.lt
      have l2_ := b2.lt
      have l3_ := o3.lt
      refine rg_alloc HB (by rfl) #[.int .i64 0, .slice none 0 0] 34 (by first | (go_simp; done) | (go_simp; rfl)) ?_
      intro g5 W' hgN e5 o5 HBn hb
      have m5 := Aside0.mk (show g1 ≠ g5 ∧ g2 ≠ g5 by have := hgN.out; omega)
      have m35 := Aside0.mk (show g3 ≠ g5 by have := hgN.out; omega)
      refine hK.out _ _ ⟨pw_cell_below hb.out c0, b1.below hb.out, b2.below hb.out, HBn⟩ (fun hS => ?_)
      exact n335 W' A1 k1 A2 k2 A3 k3 g3 g5 hS ⟨row_below r1.out hb.out⟩ ⟨row_below r2.out hb.out⟩ ⟨row_below r3.out hb.out⟩ (o3.below hb.out) e3 m3 (o5) e5 m5 m35
    exact AllReadyH.nil
  have n34 : ∀ (W : World) (A1 : Option Addr) (k1 : Nat) (A2 : Option Addr) (k2 : Nat) (A3 : Option Addr) (k3 : Nat) (g4 : Nat) (hS : W.cell? ⟨g1, 0, none⟩ = some (.string s) ∧ Blk W g1 #[.string s] 9 ∧ Blk W g2 #[.bool false] 4 ∧ BelowH w W) (r1 : Aside0 (W.ownsRow 0 75 1 (.slice A1 l1.length k1) l1.length (l1.map (Value.int .u64)))) (r2 : Aside0 (W.ownsRow 0 75 1 (.slice A2 l2.length k2) l2.length (l2.map (Value.int .u64)))) (r3 : Aside0 (W.ownsRow 0 75 1 (.slice A3 l3.length k3) l3.length (l3.map (Value.int .u64)))) (o4 : Blk W g4 #[.int .i64 0, .slice none 0 0] 34) (e4 : Aside0 (w.heap.size ≤ g4)) (m4 : Aside0 (g1 ≠ g4 ∧ g2 ≠ g4)), wpAnyH Tryd.prog .any MpR.ops3 (NoPanic Q) (fun W => W.cell? ⟨g1, 0, none⟩ = some (.string s) ∧ Blk W g1 #[.string s] 9 ∧ Blk W g2 #[.bool false] 4 ∧ BelowH w W) 5 #[true, true, true, true, true, true, false, true, false, false, false, false] { tmps := ((.string s : Value) :: (.pointer (some ⟨g1, 0, none⟩) : Value) :: (.pointer (some ⟨g2, 0, none⟩) : Value) :: undef :: (.pointer (some ⟨g4, 0, none⟩) : Value) :: undef :: undef :: undef :: undef :: undef :: undef :: undef :: undef :: undef :: undef :: undef :: undef :: undef :: (.bool true : Value) :: (.bool false : Value) :: (.string s : Value) :: (.agg #[.int .i64 n, .slice A1 l1.length k1] : Value) :: (.string s : Value) :: (.agg #[.int .i64 n, .slice A2 l2.length k2] : Value) :: (.string s : Value) :: (.agg #[.int .i64 n, .slice A3 l3.length k3] : Value) :: tl).toArray, defers := [] } W := by
    intro W A1 k1 A2 k2 A3 k3 g4 hS r1 r2 r3 o4 e4 m4 
    refine wpAnyH_ready (rs := [6, 8]) (by kernel_rfl) (by simp) ?_
    refine AllReadyH.cons (o := Oper.mk _ _ _ _ _ _) rfl (fun K hK => ?_) ?_
    · obtain ⟨c0, b1, b2, HB⟩ := hS
      have l1_ := b1.lt
      have l2_ := b2.lt
      have l4_ := o4.lt
      refine rg_alloc HB (by rfl) #[.int .i64 0, .slice none 0 0] 34 (by first | (go_simp; done) | (go_simp; rfl)) ?_
      intro g3 W' hgN e3 o3 HBn hb
      have m3 := Aside0.mk (show g1 ≠ g3 ∧ g2 ≠ g3 by have := hgN.out; omega)
      have m34 := Aside0.mk (show g3 ≠ g4 by have := hgN.out; omega)
      refine hK.out _ _ ⟨pw_cell_below hb.out c0, b1.below hb.out, b2.below hb.out, HBn⟩ (fun hS => ?_)
      exact n334 W' A1 k1 A2 k2 A3 k3 g3 g4 hS ⟨row_below r1.out hb.out⟩ ⟨row_below r2.out hb.out⟩ ⟨row_below r3.out hb.out⟩ (o3) e3 m3 (o4.below hb.out) e4 m4 m34
    refine AllReadyH.cons (o := Oper.mk _ _ _ _ _ _) rfl (fun K hK => ?_) ?_
    · obtain ⟨c0, b1, b2, HB⟩ := hS
      have l1_ := b1.lt
      have l2_ := b2.lt
      have l4_ := o4.lt
      refine rg_alloc HB (by rfl) #[.int .i64 0, .slice none 0 0] 34 (by first | (go_simp; done) | (go_simp; rfl)) ?_
      intro g5 W' hgN e5 o5 HBn hb
      have m5 := Aside0.mk (show g1 ≠ g5 ∧ g2 ≠ g5 by have := hgN.out; omega)
      have m45 := Aside0.mk (show g4 ≠ g5 by have := hgN.out; omega)
      refine hK.out _ _ ⟨pw_cell_below hb.out c0, b1.below hb.out, b2.below hb.out, HBn⟩ (fun hS => ?_)
      exact n345 W' A1 k1 A2 k2 A3 k3 g4 g5 hS ⟨row_below r1.out hb.out⟩ ⟨row_below r2.out hb.out⟩ ⟨row_below r3.out hb.out⟩ (o4.below hb.out) e4 m4 (o5) e5 m5 m45
    exact AllReadyH.nil
  have n35 : ∀ (W : World) (A1 : Option Addr) (k1 : Nat) (A2 : Option Addr) (k2 : Nat) (A3 : Option Addr) (k3 : Nat) (g5 : Nat) (hS : W.cell? ⟨g1, 0, none⟩ = some (.string s) ∧ Blk W g1 #[.string s] 9 ∧ Blk W g2 #[.bool false] 4 ∧ BelowH w W) (r1 : Aside0 (W.ownsRow 0 75 1 (.slice A1 l1.length k1) l1.length (l1.map (Value.int .u64)))) (r2 : Aside0 (W.ownsRow 0 75 1 (.slice A2 l2.length k2) l2.length (l2.map (Value.int .u64)))) (r3 : Aside0 (W.ownsRow 0 75 1 (.slice A3 l3.length k3) l3.length (l3.map (Value.int .u64)))) (o5 : Blk W g5 #[.int .i64 0, .slice none 0 0] 34) (e5 : Aside0 (w.heap.size ≤ g5)) (m5 : Aside0 (g1 ≠ g5 ∧ g2 ≠ g5)), wpAnyH Tryd.prog .any MpR.ops3 (NoPanic Q) (fun W => W.cell? ⟨g1, 0, none⟩ = some (.string s) ∧ Blk W g1 #[.string s] 9 ∧ Blk W g2 #[.bool false] 4 ∧ BelowH w W) 5 #[true, true, true, true, true, true, false, false, true, false, false, false] { tmps := ((.string s : Value) :: (.pointer (some ⟨g1, 0, none⟩) : Value) :: (.pointer (some ⟨g2, 0, none⟩) : Value) :: undef :: undef :: (.pointer (some ⟨g5, 0, none⟩) : Value) :: undef :: undef :: undef :: undef :: undef :: undef :: undef :: undef :: undef :: undef :: undef :: undef :: (.bool true : Value) :: (.bool false : Value) :: (.string s : Value) :: (.agg #[.int .i64 n, .slice A1 l1.length k1] : Value) :: (.string s : Value) :: (.agg #[.int .i64 n, .slice A2 l2.length k2] : Value) :: (.string s : Value) :: (.agg #[.int .i64 n, .slice A3 l3.length k3] : Value) :: tl).toArray, defers := [] } W := by
    intro W A1 k1 A2 k2 A3 k3 g5 hS r1 r2 r3 o5 e5 m5 
    refine wpAnyH_ready (rs := [6, 7]) (by kernel_rfl) (by simp) ?_
    refine AllReadyH.cons (o := Oper.mk _ _ _ _ _ _) rfl (fun K hK => ?_) ?_
    · obtain ⟨c0, b1, b2, HB⟩ := hS
      have l1_ := b1.lt
      have l2_ := b2.lt
      have l5_ := o5.lt
      refine rg_alloc HB (by rfl) #[.int .i64 0, .slice none 0 0] 34 (by first | (go_simp; done) | (go_simp; rfl)) ?_
      intro g3 W' hgN e3 o3 HBn hb
      have m3 := Aside0.mk (show g1 ≠ g3 ∧ g2 ≠ g3 by have := hgN.out; omega)
      have m35 := Aside0.mk (show g3 ≠ g5 by have := hgN.out; omega)
      refine hK.out _ _ ⟨pw_cell_below hb.out c0, b1.below hb.out, b2.below hb.out, HBn⟩ (fun hS => ?_)
      exact n335 W' A1 k1 A2 k2 A3 k3 g3 g5 hS ⟨row_below r1.out hb.out⟩ ⟨row_below r2.out hb.out⟩ ⟨row_below r3.out hb.out⟩ (o3) e3 m3 (o5.below hb.out) e5 m5 m35
    refine AllReadyH.cons (o := Oper.mk _ _ _ _ _ _) rfl (fun K hK => ?_) ?_
    · obtain ⟨c0, b1, b2, HB⟩ := hS
      have l1_ := b1.lt
      have l2_ := b2.lt
      have l5_ := o5.lt
      refine rg_alloc HB (by rfl) #[.int .i64 0, .slice none 0 0] 34 (by first | (go_simp; done) | (go_simp; rfl)) ?_
      intro g4 W' hgN e4 o4 HBn hb
      have m4 := Aside0.mk (show g1 ≠ g4 ∧ g2 ≠ g4 by have := hgN.out; omega)
      have m45 := Aside0.mk (show g4 ≠ g5 by have := hgN.out; omega)
      refine hK.out _ _ ⟨pw_cell_below hb.out c0, b1.below hb.out, b2.below hb.out, HBn⟩ (fun hS => ?_)
      exact n345 W' A1 k1 A2 k2 A3 k3 g4 g5 hS ⟨row_below r1.out hb.out⟩ ⟨row_below r2.out hb.out⟩ ⟨row_below r3.out hb.out⟩ (o4) e4 m4 (o5.below hb.out) e5 m5 m45
    exact AllReadyH.nil
  have n0345 : ∀ (W : World) (g3 g4 g5 : Nat) (hS : W.cell? ⟨g1, 0, none⟩ = some (.string s) ∧ Blk W g1 #[.string s] 9 ∧ Blk W g2 #[.bool false] 4 ∧ BelowH w W) (o3 : Blk W g3 #[.int .i64 0, .slice none 0 0] 34) (e3 : Aside0 (w.heap.size ≤ g3)) (m3 : Aside0 (g1 ≠ g3 ∧ g2 ≠ g3)) (o4 : Blk W g4 #[.int .i64 0, .slice none 0 0] 34) (e4 : Aside0 (w.heap.size ≤ g4)) (m4 : Aside0 (g1 ≠ g4 ∧ g2 ≠ g4)) (o5 : Blk W g5 #[.int .i64 0, .slice none 0 0] 34) (e5 : Aside0 (w.heap.size ≤ g5)) (m5 : Aside0 (g1 ≠ g5 ∧ g2 ≠ g5)) (m34 : Aside0 (g3 ≠ g4)) (m35 : Aside0 (g3 ≠ g5)) (m45 : Aside0 (g4 ≠ g5)), wpAnyH Tryd.prog .any MpR.ops3 (NoPanic Q) (fun W => W.cell? ⟨g1, 0, none⟩ = some (.string s) ∧ Blk W g1 #[.string s] 9 ∧ Blk W g2 #[.bool false] 4 ∧ BelowH w W) 6 #[true, false, true, false, true, false, true, true, true, false, false, false] { tmps := ((.string s : Value) :: (.pointer (some ⟨g1, 0, none⟩) : Value) :: (.pointer (some ⟨g2, 0, none⟩) : Value) :: (.pointer (some ⟨g3, 0, none⟩) : Value) :: (.pointer (some ⟨g4, 0, none⟩) : Value) :: (.pointer (some ⟨g5, 0, none⟩) : Value) :: undef :: undef :: undef :: undef :: undef :: undef :: undef :: undef :: undef :: undef :: undef :: undef :: (.bool true : Value) :: (.bool false : Value) :: (.string s : Value) :: undef :: (.string s : Value) :: undef :: (.string s : Value) :: undef :: tl).toArray, defers := [] } W := by
    intro W  g3 g4 g5 hS  o3 e3 m3 o4 e4 m4 o5 e5 m5 m34 m35 m45
    refine wpAnyH_ready (rs := [1]) (by kernel_rfl) (by simp) ?_
    refine AllReadyH.cons (o := Oper.mk _ _ _ _ _ _) rfl (fun K hK => ?_) ?_
    · obtain ⟨c0, b1, b2, HB⟩ := hS
      refine rg_callE (by rfl) _ _ (by first | (go_simp; done) | (go_simp; rfl)) (CM.out _) ?_
      intro v W' hv
      obtain ⟨A1, k1, hv1, r1, hb0⟩ := hv.out
      have hb := Aside0.mk hb0
      cases hv1
      clear hv hb0
      refine hK.out _ _ ⟨pw_cell_below hb.out c0, b1.below hb.out, b2.below hb.out, HB.step hb.out⟩ (fun hS => ?_)
      exact n1345 W' A1 k1 g3 g4 g5 hS  r1 (o3.below hb.out) e3 m3 (o4.below hb.out) e4 m4 (o5.below hb.out) e5 m5 m34 m35 m45
    exact AllReadyH.nil
  have n134 : ∀ (W : World) (A1 : Option Addr) (k1 : Nat) (g3 g4 : Nat) (hS : W.cell? ⟨g1, 0, none⟩ = some (.string s) ∧ Blk W g1 #[.string s] 9 ∧ Blk W g2 #[.bool false] 4 ∧ BelowH w W) (r1 : Aside0 (W.ownsRow 0 75 1 (.slice A1 l1.length k1) l1.length (l1.map (Value.int .u64)))) (o3 : Blk W g3 #[.int .i64 0, .slice none 0 0] 34) (e3 : Aside0 (w.heap.size ≤ g3)) (m3 : Aside0 (g1 ≠ g3 ∧ g2 ≠ g3)) (o4 : Blk W g4 #[.int .i64 0, .slice none 0 0] 34) (e4 : Aside0 (w.heap.size ≤ g4)) (m4 : Aside0 (g1 ≠ g4 ∧ g2 ≠ g4)) (m34 : Aside0 (g3 ≠ g4)), wpAnyH Tryd.prog .any MpR.ops3 (NoPanic Q) (fun W => W.cell? ⟨g1, 0, none⟩ = some (.string s) ∧ Blk W g1 #[.string s] 9 ∧ Blk W g2 #[.bool false] 4 ∧ BelowH w W) 6 #[true, true, true, false, true, false, true, true, false, false, false, false] { tmps := ((.string s : Value) :: (.pointer (some ⟨g1, 0, none⟩) : Value) :: (.pointer (some ⟨g2, 0, none⟩) : Value) :: (.pointer (some ⟨g3, 0, none⟩) : Value) :: (.pointer (some ⟨g4, 0, none⟩) : Value) :: undef :: undef :: undef :: undef :: undef :: undef :: undef :: undef :: undef :: undef :: undef :: undef :: undef :: (.bool true : Value) :: (.bool false : Value) :: (.string s : Value) :: (.agg #[.int .i64 n, .slice A1 l1.length k1] : Value) :: (.string s : Value) :: undef :: (.string s : Value) :: undef :: tl).toArray, defers := [] } W := by
    intro W A1 k1 g3 g4 hS r1 o3 e3 m3 o4 e4 m4 m34
    refine wpAnyH_ready (rs := [3, 8]) (by kernel_rfl) (by simp) ?_
    refine AllReadyH.cons (o := Oper.mk _ _ _ _ _ _) rfl (fun K hK => ?_) ?_
    · obtain ⟨c0, b1, b2, HB⟩ := hS
      refine rg_callE (by rfl) _ _ (by first | (go_simp; done) | (go_simp; rfl)) (CI.out _) ?_
      intro v W' hv
      obtain ⟨A2, k2, hv1, r2, hb0⟩ := hv.out
      have hb := Aside0.mk hb0
      cases hv1
      clear hv hb0
      refine hK.out _ _ ⟨pw_cell_below hb.out c0, b1.below hb.out, b2.below hb.out, HB.step hb.out⟩ (fun hS => ?_)
      exact n234 W' A1 k1 A2 k2 g3 g4 hS ⟨row_below r1.out hb.out⟩ r2 (o3.below hb.out) e3 m3 (o4.below hb.out) e4 m4 m34
    refine AllReadyH.cons (o := Oper.mk _ _ _ _ _ _) rfl (fun K hK => ?_) ?_
    · obtain ⟨c0, b1, b2, HB⟩ := hS
      have l1_ := b1.lt
      have l2_ := b2.lt
      have l3_ := o3.lt
      have l4_ := o4.lt
      refine rg_alloc HB (by rfl) #[.int .i64 0, .slice none 0 0] 34 (by first | (go_simp; done) | (go_simp; rfl)) ?_
      intro g5 W' hgN e5 o5 HBn hb
      have m5 := Aside0.mk (show g1 ≠ g5 ∧ g2 ≠ g5 by have := hgN.out; omega)
      have m35 := Aside0.mk (show g3 ≠ g5 by have := hgN.out; omega)
      have m45 := Aside0.mk (show g4 ≠ g5 by have := hgN.out; omega)
      refine hK.out _ _ ⟨pw_cell_below hb.out c0, b1.below hb.out, b2.below hb.out, HBn⟩ (fun hS => ?_)
      exact n1345 W' A1 k1 g3 g4 g5 hS ⟨row_below r1.out hb.out⟩ (o3.below hb.out) e3 m3 (o4.below hb.out) e4 m4 (o5) e5 m5 m34 m35 m45
    exact AllReadyH.nil
  have n135 : ∀ (W : World) (A1 : Option Addr) (k1 : Nat) (g3 g5 : Nat) (hS : W.cell? ⟨g1, 0, none⟩ = some (.string s) ∧ Blk W g1 #[.string s] 9 ∧ Blk W g2 #[.bool false] 4 ∧ BelowH w W) (r1 : Aside0 (W.ownsRow 0 75 1 (.slice A1 l1.length k1) l1.length (l1.map (Value.int .u64)))) (o3 : Blk W g3 #[.int .i64 0, .slice none 0 0] 34) (e3 : Aside0 (w.heap.size ≤ g3)) (m3 : Aside0 (g1 ≠ g3 ∧ g2 ≠ g3)) (o5 : Blk W g5 #[.int .i64 0, .slice none 0 0] 34) (e5 : Aside0 (w.heap.size ≤ g5)) (m5 : Aside0 (g1 ≠ g5 ∧ g2 ≠ g5)) (m35 : Aside0 (g3 ≠ g5)), wpAnyH Tryd.prog .any MpR.ops3 (NoPanic Q) (fun W => W.cell? ⟨g1, 0, none⟩ = some (.string s) ∧ Blk W g1 #[.string s] 9 ∧ Blk W g2 #[.bool false] 4 ∧ BelowH w W) 6 #[true, true, true, false, true, false, true, false, true, false, false, false] { tmps := ((.string s : Value) :: (.pointer (some ⟨g1, 0, none⟩) : Value) :: (.pointer (some ⟨g2, 0, none⟩) : Value) :: (.pointer (some ⟨g3, 0, none⟩) : Value) :: undef :: (.pointer (some ⟨g5, 0, none⟩) : Value) :: undef :: undef :: undef :: undef :: undef :: undef :: undef :: undef :: undef :: undef :: undef :: undef :: (.bool true : Value) :: (.bool false : Value) :: (.string s : Value) :: (.agg #[.int .i64 n, .slice A1 l1.length k1] : Value) :: (.string s : Value) :: undef :: (.string s : Value) :: undef :: tl).toArray, defers := [] } W := by
    intro W A1 k1 g3 g5 hS r1 o3 e3 m3 o5 e5 m5 m35
    refine wpAnyH_ready (rs := [3, 7]) (by kernel_rfl) (by simp) ?_
    refine AllReadyH.cons (o := Oper.mk _ _ _ _ _ _) rfl (fun K hK => ?_) ?_
    · obtain ⟨c0, b1, b2, HB⟩ := hS
      refine rg_callE (by rfl) _ _ (by first | (go_simp; done) | (go_simp; rfl)) (CI.out _) ?_
      intro v W' hv
      obtain ⟨A2, k2, hv1, r2, hb0⟩ := hv.out
      have hb := Aside0.mk hb0
      cases hv1
      clear hv hb0
      refine hK.out _ _ ⟨pw_cell_below hb.out c0, b1.below hb.out, b2.below hb.out, HB.step hb.out⟩ (fun hS => ?_)
      exact n235 W' A1 k1 A2 k2 g3 g5 hS ⟨row_below r1.out hb.out⟩ r2 (o3.below hb.out) e3 m3 (o5.below hb.out) e5 m5 m35
    refine AllReadyH.cons (o := Oper.mk _ _ _ _ _ _) rfl (fun K hK => ?_) ?_
    · obtain ⟨c0, b1, b2, HB⟩ := hS
      have l1_ := b1.lt
      have l2_ := b2.lt
      have l3_ := o3.lt
      have l5_ := o5.lt
      refine rg_alloc HB (by rfl) #[.int .i64 0, .slice none 0 0] 34 (by first | (go_simp; done) | (go_simp; rfl)) ?_
      intro g4 W' hgN e4 o4 HBn hb
      have m4 := Aside0.mk (show g1 ≠ g4 ∧ g2 ≠ g4 by have := hgN.out; omega)
      have m34 := Aside0.mk (show g3 ≠ g4 by have := hgN.out; omega)
      have m45 := Aside0.mk (show g4 ≠ g5 by have := hgN.out; omega)
      refine hK.out _ _ ⟨pw_cell_below hb.out c0, b1.below hb.out, b2.below hb.out, HBn⟩ (fun hS => ?_)
      exact n1345 W' A1 k1 g3 g4 g5 hS ⟨row_below r1.out hb.out⟩ (o3.below hb.out) e3 m3 (o4) e4 m4 (o5.below hb.out) e5 m5 m34 m35 m45
    exact AllReadyH.nil
  have n145 : ∀ (W : World) (A1 : Option Addr) (k1 : Nat) (g4 g5 : Nat) (hS : W.cell? ⟨g1, 0, none⟩ = some (.string s) ∧ Blk W g1 #[.string s] 9 ∧ Blk W g2 #[.bool false] 4 ∧ BelowH w W) (r1 : Aside0 (W.ownsRow 0 75 1 (.slice A1 l1.length k1) l1.length (l1.map (Value.int .u64)))) (o4 : Blk W g4 #[.int .i64 0, .slice none 0 0] 34) (e4 : Aside0 (w.heap.size ≤ g4)) (m4 : Aside0 (g1 ≠ g4 ∧ g2 ≠ g4)) (o5 : Blk W g5 #[.int .i64 0, .slice none 0 0] 34) (e5 : Aside0 (w.heap.size ≤ g5)) (m5 : Aside0 (g1 ≠ g5 ∧ g2 ≠ g5)) (m45 : Aside0 (g4 ≠ g5)), wpAnyH Tryd.prog .any MpR.ops3 (NoPanic Q) (fun W => W.cell? ⟨g1, 0, none⟩ = some (.string s) ∧ Blk W g1 #[.string s] 9 ∧ Blk W g2 #[.bool false] 4 ∧ BelowH w W) 6 #[true, true, true, false, true, false, false, true, true, false, false, false] { tmps := ((.string s : Value) :: (.pointer (some ⟨g1, 0, none⟩) : Value) :: (.pointer (some ⟨g2, 0, none⟩) : Value) :: undef :: (.pointer (some ⟨g4, 0, none⟩) : Value) :: (.pointer (some ⟨g5, 0, none⟩) : Value) :: undef :: undef :: undef :: undef :: undef :: undef :: undef :: undef :: undef :: undef :: undef :: undef :: (.bool true : Value) :: (.bool false : Value) :: (.string s : Value) :: (.agg #[.int .i64 n, .slice A1 l1.length k1] : Value) :: (.string s : Value) :: undef :: (.string s : Value) :: undef :: tl).toArray, defers := [] } W := by
    intro W A1 k1 g4 g5 hS r1 o4 e4 m4 o5 e5 m5 m45
    refine wpAnyH_ready (rs := [3, 6]) (by kernel_rfl) (by simp) ?_
    refine AllReadyH.cons (o := Oper.mk _ _ _ _ _ _) rfl (fun K hK => ?_) ?_
    · obtain ⟨c0, b1, b2, HB⟩ := hS
      refine rg_callE (by rfl) _ _ (by first | (go_simp; done) | (go_simp; rfl)) (CI.out _) ?_
      intro v W' hv
      obtain ⟨A2, k2, hv1, r2, hb0⟩ := hv.out
      have hb := Aside0.mk hb0
      cases hv1
      clear hv hb0
      refine hK.out _ _ ⟨pw_cell_below hb.out c0, b1.below hb.out, b2.below hb.out, HB.step hb.out⟩ (fun hS => ?_)
      exact n245 W' A1 k1 A2 k2 g4 g5 hS ⟨row_below r1.out hb.out⟩ r2 (o4.below hb.out) e4 m4 (o5.below hb.out) e5 m5 m45
    refine AllReadyH.cons (o := Oper.mk _ _ _ _ _ _) rfl (fun K hK => ?_) ?_
    · obtain ⟨c0, b1, b2, HB⟩ := hS
      have l1_ := b1.lt
      have l2_ := b2.lt
      have l4_ := o4.lt
      have l5_ := o5.lt
      refine rg_alloc HB (by rfl) #[.int .i64 0, .slice none 0 0] 34 (by first | (go_simp; done) | (go_simp; rfl)) ?_
      intro g3 W' hgN e3 o3 HBn hb
      have m3 := Aside0.mk (show g1 ≠ g3 ∧ g2 ≠ g3 by have := hgN.out; omega)
      have m34 := Aside0.mk (show g3 ≠ g4 by have := hgN.out; omega)
      have m35 := Aside0.mk (show g3 ≠ g5 by have := hgN.out; omega)
      refine hK.out _ _ ⟨pw_cell_below hb.out c0, b1.below hb.out, b2.below hb.out, HBn⟩ (fun hS => ?_)
      exact n1345 W' A1 k1 g3 g4 g5 hS ⟨row_below r1.out hb.out⟩ (o3) e3 m3 (o4.below hb.out) e4 m4 (o5.below hb.out) e5 m5 m34 m35 m45
    exact AllReadyH.nil
  have n23 : ∀ (W : World) (A1 : Option Addr) (k1 : Nat) (A2 : Option Addr) (k2 : Nat) (g3 : Nat) (hS : W.cell? ⟨g1, 0, none⟩ = some (.string s) ∧ Blk W g1 #[.string s] 9 ∧ Blk W g2 #[.bool false] 4 ∧ BelowH w W) (r1 : Aside0 (W.ownsRow 0 75 1 (.slice A1 l1.length k1) l1.length (l1.map (Value.int .u64)))) (r2 : Aside0 (W.ownsRow 0 75 1 (.slice A2 l2.length k2) l2.length (l2.map (Value.int .u64)))) (o3 : Blk W g3 #[.int .i64 0, .slice none 0 0] 34) (e3 : Aside0 (w.heap.size ≤ g3)) (m3 : Aside0 (g1 ≠ g3 ∧ g2 ≠ g3)), wpAnyH Tryd.prog .any MpR.ops3 (NoPanic Q) (fun W => W.cell? ⟨g1, 0, none⟩ = some (.string s) ∧ Blk W g1 #[.string s] 9 ∧ Blk W g2 #[.bool false] 4 ∧ BelowH w W) 6 #[true, true, true, true, true, false, true, false, false, false, false, false] { tmps := ((.string s : Value) :: (.pointer (some ⟨g1, 0, none⟩) : Value) :: (.pointer (some ⟨g2, 0, none⟩) : Value) :: (.pointer (some ⟨g3, 0, none⟩) : Value) :: undef :: undef :: undef :: undef :: undef :: undef :: undef :: undef :: undef :: undef :: undef :: undef :: undef :: undef :: (.bool true : Value) :: (.bool false : Value) :: (.string s : Value) :: (.agg #[.int .i64 n, .slice A1 l1.length k1] : Value) :: (.string s : Value) :: (.agg #[.int .i64 n, .slice A2 l2.length k2] : Value) :: (.string s : Value) :: undef :: tl).toArray, defers := [] } W := by
    intro W A1 k1 A2 k2 g3 hS r1 r2 o3 e3 m3 
    refine wpAnyH_ready (rs := [5, 7, 8]) (by kernel_rfl) (by simp) ?_
    refine AllReadyH.cons (o := Oper.mk _ _ _ _ _ _) rfl (fun K hK => ?_) ?_
    · obtain ⟨c0, b1, b2, HB⟩ := hS
      refine rg_callE (by rfl) _ _ (by first | (go_simp; done) | (go_simp; rfl)) (CB.out _) ?_
      intro v W' hv
      obtain ⟨A3, k3, hv1, r3, hb0⟩ := hv.out
      have hb := Aside0.mk hb0
      cases hv1
      clear hv hb0
      refine hK.out _ _ ⟨pw_cell_below hb.out c0, b1.below hb.out, b2.below hb.out, HB.step hb.out⟩ (fun hS => ?_)
      exact n33 W' A1 k1 A2 k2 A3 k3 g3 hS ⟨row_below r1.out hb.out⟩ ⟨row_below r2.out hb.out⟩ r3 (o3.below hb.out) e3 m3 
    refine AllReadyH.cons (o := Oper.mk _ _ _ _ _ _) rfl (fun K hK => ?_) ?_
    · obtain ⟨c0, b1, b2, HB⟩ := hS
      have l1_ := b1.lt
      have l2_ := b2.lt
      have l3_ := o3.lt
      refine rg_alloc HB (by rfl) #[.int .i64 0, .slice none 0 0] 34 (by first | (go_simp; done) | (go_simp; rfl)) ?_
      intro g4 W' hgN e4 o4 HBn hb
      have m4 := Aside0.mk (show g1 ≠ g4 ∧ g2 ≠ g4 by have := hgN.out; omega)
      have m34 := Aside0.mk (show g3 ≠ g4 by have := hgN.out; omega)
      refine hK.out _ _ ⟨pw_cell_below hb.out c0, b1.below hb.out, b2.below hb.out, HBn⟩ (fun hS => ?_)
      exact n234 W' A1 k1 A2 k2 g3 g4 hS ⟨row_below r1.out hb.out⟩ ⟨row_below r2.out hb.out⟩ (o3.below hb.out) e3 m3 (o4) e4 m4 m34
    refine AllReadyH.cons (o := Oper.mk _ _ _ _ _ _) rfl (fun K hK => ?_) ?_
    · obtain ⟨c0, b1, b2, HB⟩ := hS
      have l1_ := b1.lt
      have l2_ := b2.lt
      have l3_ := o3.lt
      refine rg_alloc HB (by rfl) #[.int .i64 0, .slice none 0 0] 34 (by first | (go_simp; done) | (go_simp; rfl)) ?_
      intro g5 W' hgN e5 o5 HBn hb
      have m5 := Aside0.mk (show g1 ≠ g5 ∧ g2 ≠ g5 by have := hgN.out; omega)
      have m35 := Aside0.mk (show g3 ≠ g5 by have := hgN.out; omega)
      refine hK.out _ _ ⟨pw_cell_below hb.out c0, b1.below hb.out, b2.below hb.out, HBn⟩ (fun hS => ?_)
      exact n235 W' A1 k1 A2 k2 g3 g5 hS ⟨row_below r1.out hb.out⟩ ⟨row_below r2.out hb.out⟩ (o3.below hb.out) e3 m3 (o5) e5 m5 m35
    exact AllReadyH.nil
  have n24 : ∀ (W : World) (A1 : Option Addr) (k1 : Nat) (A2 : Option Addr) (k2 : Nat) (g4 : Nat) (hS : W.cell? ⟨g1, 0, none⟩ = some (.string s) ∧ Blk W g1 #[.string s] 9 ∧ Blk W g2 #[.bool false] 4 ∧ BelowH w W) (r1 : Aside0 (W.ownsRow 0 75 1 (.slice A1 l1.length k1) l1.length (l1.map (Value.int .u64)))) (r2 : Aside0 (W.ownsRow 0 75 1 (.slice A2 l2.length k2) l2.length (l2.map (Value.int .u64)))) (o4 : Blk W g4 #[.int .i64 0, .slice none 0 0] 34) (e4 : Aside0 (w.heap.size ≤ g4)) (m4 : Aside0 (g1 ≠ g4 ∧ g2 ≠ g4)), wpAnyH Tryd.prog .any MpR.ops3 (NoPanic Q) (fun W => W.cell? ⟨g1, 0, none⟩ = some (.string s) ∧ Blk W g1 #[.string s] 9 ∧ Blk W g2 #[.bool false] 4 ∧ BelowH w W) 6 #[true, true, true, true, true, false, false, true, false, false, false, false] { tmps := ((.string s : Value) :: (.pointer (some ⟨g1, 0, none⟩) : Value) :: (.pointer (some ⟨g2, 0, none⟩) : Value) :: undef :: (.pointer (some ⟨g4, 0, none⟩) : Value) :: undef :: undef :: undef :: undef :: undef :: undef :: undef :: undef :: undef :: undef :: undef :: undef :: undef :: (.bool true : Value) :: (.bool false : Value) :: (.string s : Value) :: (.agg #[.int .i64 n, .slice A1 l1.length k1] : Value) :: (.string s : Value) :: (.agg #[.int .i64 n, .slice A2 l2.length k2] : Value) :: (.string s : Value) :: undef :: tl).toArray, defers := [] } W := by
    intro W A1 k1 A2 k2 g4 hS r1 r2 o4 e4 m4 
    refine wpAnyH_ready (rs := [5, 6, 8]) (by kernel_rfl) (by simp) ?_
    refine AllReadyH.cons (o := Oper.mk _ _ _ _ _ _) rfl (fun K hK => ?_) ?_
    · obtain ⟨c0, b1, b2, HB⟩ := hS
      refine rg_callE (by rfl) _ _ (by first | (go_simp; done) | (go_simp; rfl)) (CB.out _) ?_
      intro v W' hv
      obtain ⟨A3, k3, hv1, r3, hb0⟩ := hv.out
      have hb := Aside0.mk hb0
      cases hv1
      clear hv hb0
      refine hK.out _ _ ⟨pw_cell_below hb.out c0, b1.below hb.out, b2.below hb.out, HB.step hb.out⟩ (fun hS => ?_)
      exact n34 W' A1 k1 A2 k2 A3 k3 g4 hS ⟨row_below r1.out hb.out⟩ ⟨row_below r2.out hb.out⟩ r3 (o4.below hb.out) e4 m4 
    refine AllReadyH.cons (o := Oper.mk _ _ _ _ _ _) rfl (fun K hK => ?_) ?_
    · obtain ⟨c0, b1, b2, HB⟩ := hS
      have l1_ := b1.lt
      have l2_ := b2.lt
      have l4_ := o4.lt
      refine rg_alloc HB (by rfl) #[.int .i64 0, .slice none 0 0] 34 (by first | (go_simp; done) | (go_simp; rfl)) ?_
      intro g3 W' hgN e3 o3 HBn hb
      have m3 := Aside0.mk (show g1 ≠ g3 ∧ g2 ≠ g3 by have := hgN.out; omega)
      have m34 := Aside0.mk (show g3 ≠ g4 by have := hgN.out; omega)
      refine hK.out _ _ ⟨pw_cell_below hb.out c0, b1.below hb.out, b2.below hb.out, HBn⟩ (fun hS => ?_)
      exact n234 W' A1 k1 A2 k2 g3 g4 hS ⟨row_below r1.out hb.out⟩ ⟨row_below r2.out hb.out⟩ (o3) e3 m3 (o4.below hb.out) e4 m4 m34
    refine AllReadyH.cons (o := Oper.mk _ _ _ _ _ _) rfl (fun K hK => ?_) ?_
    · obtain ⟨c0, b1, b2, HB⟩ := hS
      have l1_ := b1.lt
      have l2_ := b2.lt
      have l4_ := o4.lt
      refine rg_alloc HB (by rfl) #[.int .i64 0, .slice none 0 0] 34 (by first | (go_simp; done) | (go_simp; rfl)) ?_
      intro g5 W' hgN e5 o5 HBn hb
      have m5 := Aside0.mk (show g1 ≠ g5 ∧ g2 ≠ g5 by have := hgN.out; omega)
      have m45 := Aside0.mk (show g4 ≠ g5 by have := hgN.out; omega)
      refine hK.out _ _ ⟨pw_cell_below hb.out c0, b1.below hb.out, b2.below hb.out, HBn⟩ (fun hS => ?_)
      exact n245 W' A1 k1 A2 k2 g4 g5 hS ⟨row_below r1.out hb.out⟩ ⟨row_below r2.out hb.out⟩ (o4.below hb.out) e4 m4 (o5) e5 m5 m45
    exact AllReadyH.nil
  have n25 : ∀ (W : World) (A1 : Option Addr) (k1 : Nat) (A2 : Option Addr) (k2 : Nat) (g5 : Nat) (hS : W.cell? ⟨g1, 0, none⟩ = some (.string s) ∧ Blk W g1 #[.string s] 9 ∧ Blk W g2 #[.bool false] 4 ∧ BelowH w W) (r1 : Aside0 (W.ownsRow 0 75 1 (.slice A1 l1.length k1) l1.length (l1.map (Value.int .u64)))) (r2 : Aside0 (W.ownsRow 0 75 1 (.slice A2 l2.length k2) l2.length (l2.map (Value.int .u64)))) (o5 : Blk W g5 #[.int .i64 0, .slice none 0 0] 34) (e5 : Aside0 (w.heap.size ≤ g5)) (m5 : Aside0 (g1 ≠ g5 ∧ g2 ≠ g5)), wpAnyH Tryd.prog .any MpR.ops3 (NoPanic Q) (fun W => W.cell? ⟨g1, 0, none⟩ = some (.string s) ∧ Blk W g1 #[.string s] 9 ∧ Blk W g2 #[.bool false] 4 ∧ BelowH w W) 6 #[true, true, true, true, true, false, false, false, true, false, false, false] { tmps := ((.string s : Value) :: (.pointer (some ⟨g1, 0, none⟩) : Value) :: (.pointer (some ⟨g2, 0, none⟩) : Value) :: undef :: undef :: (.pointer (some ⟨g5, 0, none⟩) : Value) :: undef :: undef :: undef :: undef :: undef :: undef :: undef :: undef :: undef :: undef :: undef :: undef :: (.bool true : Value) :: (.bool false : Value) :: (.string s : Value) :: (.agg #[.int .i64 n, .slice A1 l1.length k1] : Value) :: (.string s : Value) :: (.agg #[.int .i64 n, .slice A2 l2.length k2] : Value) :: (.string s : Value) :: undef :: tl).toArray, defers := [] } W := by
    intro W A1 k1 A2 k2 g5 hS r1 r2 o5 e5 m5 
    refine wpAnyH_ready (rs := [5, 6, 7]) (by kernel_rfl) (by simp) ?_
    refine AllReadyH.cons (o := Oper.mk _ _ _ _ _ _) rfl (fun K hK => ?_) ?_
    · obtain ⟨c0, b1, b2, HB⟩ := hS
      refine rg_callE (by rfl) _ _ (by first | (go_simp; done) | (go_simp; rfl)) (CB.out _) ?_
      intro v W' hv
      obtain ⟨A3, k3, hv1, r3, hb0⟩ := hv.out
      have hb := Aside0.mk hb0
      cases hv1
      clear hv hb0
      refine hK.out _ _ ⟨pw_cell_below hb.out c0, b1.below hb.out, b2.below hb.out, HB.step hb.out⟩ (fun hS => ?_)
      exact n35 W' A1 k1 A2 k2 A3 k3 g5 hS ⟨row_below r1.out hb.out⟩ ⟨row_below r2.out hb.out⟩ r3 (o5.below hb.out) e5 m5 
    refine AllReadyH.cons (o := Oper.mk _ _ _ _ _ _) rfl (fun K hK => ?_) ?_
    · obtain ⟨c0, b1, b2, HB⟩ := hS
      have l1_ := b1.lt
      have l2_ := b2.lt
      have l5_ := o5.lt
      refine rg_alloc HB (by rfl) #[.int .i64 0, .slice none 0 0] 34 (by first | (go_simp; done) | (go_simp; rfl)) ?_
      intro g3 W' hgN e3 o3 HBn hb
      have m3 := Aside0.mk (show g1 ≠ g3 ∧ g2 ≠ g3 by have := hgN.out; omega)
      have m35 := Aside0.mk (show g3 ≠ g5 by have := hgN.out; omega)
      refine hK.out _ _ ⟨pw_cell_below hb.out c0, b1.below hb.out, b2.below hb.out, HBn⟩ (fun hS => ?_)
      exact n235 W' A1 k1 A2 k2 g3 g5 hS ⟨row_below r1.out hb.out⟩ ⟨row_below r2.out hb.out⟩ (o3) e3 m3 (o5.below hb.out) e5 m5 m35
    refine AllReadyH.cons (o := Oper.mk _ _ _ _ _ _) rfl (fun K hK => ?_) ?_
    · obtain ⟨c0, b1, b2, HB⟩ := hS
      have l1_ := b1.lt
      have l2_ := b2.lt
      have l5_ := o5.lt
      refine rg_alloc HB (by rfl) #[.int .i64 0, .slice none 0 0] 34 (by first | (go_simp; done) | (go_simp; rfl)) ?_
      intro g4 W' hgN e4 o4 HBn hb
      have m4 := Aside0.mk (show g1 ≠ g4 ∧ g2 ≠ g4 by have := hgN.out; omega)
      have m45 := Aside0.mk (show g4 ≠ g5 by have := hgN.out; omega)
      refine hK.out _ _ ⟨pw_cell_below hb.out c0, b1.below hb.out, b2.below hb.out, HBn⟩ (fun hS => ?_)
      exact n245 W' A1 k1 A2 k2 g4 g5 hS ⟨row_below r1.out hb.out⟩ ⟨row_below r2.out hb.out⟩ (o4) e4 m4 (o5.below hb.out) e5 m5 m45
    exact AllReadyH.nil
  have n3 : ∀ (W : World) (A1 : Option Addr) (k1 : Nat) (A2 : Option Addr) (k2 : Nat) (A3 : Option Addr) (k3 : Nat) (hS : W.cell? ⟨g1, 0, none⟩ = some (.string s) ∧ Blk W g1 #[.string s] 9 ∧ Blk W g2 #[.bool false] 4 ∧ BelowH w W) (r1 : Aside0 (W.ownsRow 0 75 1 (.slice A1 l1.length k1) l1.length (l1.map (Value.int .u64)))) (r2 : Aside0 (W.ownsRow 0 75 1 (.slice A2 l2.length k2) l2.length (l2.map (Value.int .u64)))) (r3 : Aside0 (W.ownsRow 0 75 1 (.slice A3 l3.length k3) l3.length (l3.map (Value.int .u64)))), wpAnyH Tryd.prog .any MpR.ops3 (NoPanic Q) (fun W => W.cell? ⟨g1, 0, none⟩ = some (.string s) ∧ Blk W g1 #[.string s] 9 ∧ Blk W g2 #[.bool false] 4 ∧ BelowH w W) 6 #[true, true, true, true, true, true, false, false, false, false, false, false] { tmps := ((.string s : Value) :: (.pointer (some ⟨g1, 0, none⟩) : Value) :: (.pointer (some ⟨g2, 0, none⟩) : Value) :: undef :: undef :: undef :: undef :: undef :: undef :: undef :: undef :: undef :: undef :: undef :: undef :: undef :: undef :: undef :: (.bool true : Value) :: (.bool false : Value) :: (.string s : Value) :: (.agg #[.int .i64 n, .slice A1 l1.length k1] : Value) :: (.string s : Value) :: (.agg #[.int .i64 n, .slice A2 l2.length k2] : Value) :: (.string s : Value) :: (.agg #[.int .i64 n, .slice A3 l3.length k3] : Value) :: tl).toArray, defers := [] } W := by
    intro W A1 k1 A2 k2 A3 k3  hS r1 r2 r3  
    refine wpAnyH_ready (rs := [6, 7, 8]) (by kernel_rfl) (by simp) ?_
    refine AllReadyH.cons (o := Oper.mk _ _ _ _ _ _) rfl (fun K hK => ?_) ?_
    · obtain ⟨c0, b1, b2, HB⟩ := hS
      have l1_ := b1.lt
      have l2_ := b2.lt
      refine rg_alloc HB (by rfl) #[.int .i64 0, .slice none 0 0] 34 (by first | (go_simp; done) | (go_simp; rfl)) ?_
      intro g3 W' hgN e3 o3 HBn hb
      have m3 := Aside0.mk (show g1 ≠ g3 ∧ g2 ≠ g3 by have := hgN.out; omega)
      refine hK.out _ _ ⟨pw_cell_below hb.out c0, b1.below hb.out, b2.below hb.out, HBn⟩ (fun hS => ?_)
      exact n33 W' A1 k1 A2 k2 A3 k3 g3 hS ⟨row_below r1.out hb.out⟩ ⟨row_below r2.out hb.out⟩ ⟨row_below r3.out hb.out⟩ (o3) e3 m3 
    refine AllReadyH.cons (o := Oper.mk _ _ _ _ _ _) rfl (fun K hK => ?_) ?_
    · obtain ⟨c0, b1, b2, HB⟩ := hS
      have l1_ := b1.lt
      have l2_ := b2.lt
      refine rg_alloc HB (by rfl) #[.int .i64 0, .slice none 0 0] 34 (by first | (go_simp; done) | (go_simp; rfl)) ?_
      intro g4 W' hgN e4 o4 HBn hb
      have m4 := Aside0.mk (show g1 ≠ g4 ∧ g2 ≠ g4 by have := hgN.out; omega)
      refine hK.out _ _ ⟨pw_cell_below hb.out c0, b1.below hb.out, b2.below hb.out, HBn⟩ (fun hS => ?_)
      exact n34 W' A1 k1 A2 k2 A3 k3 g4 hS ⟨row_below r1.out hb.out⟩ ⟨row_below r2.out hb.out⟩ ⟨row_below r3.out hb.out⟩ (o4) e4 m4 
    refine AllReadyH.cons (o := Oper.mk _ _ _ _ _ _) rfl (fun K hK => ?_) ?_
    · obtain ⟨c0, b1, b2, HB⟩ := hS
      have l1_ := b1.lt
      have l2_ := b2.lt
      refine rg_alloc HB (by rfl) #[.int .i64 0, .slice none 0 0] 34 (by first | (go_simp; done) | (go_simp; rfl)) ?_
      intro g5 W' hgN e5 o5 HBn hb
      have m5 := Aside0.mk (show g1 ≠ g5 ∧ g2 ≠ g5 by have := hgN.out; omega)
      refine hK.out _ _ ⟨pw_cell_below hb.out c0, b1.below hb.out, b2.below hb.out, HBn⟩ (fun hS => ?_)
      exact n35 W' A1 k1 A2 k2 A3 k3 g5 hS ⟨row_below r1.out hb.out⟩ ⟨row_below r2.out hb.out⟩ ⟨row_below r3.out hb.out⟩ (o5) e5 m5 
    exact AllReadyH.nil
  have n034 : ∀ (W : World) (g3 g4 : Nat) (hS : W.cell? ⟨g1, 0, none⟩ = some (.string s) ∧ Blk W g1 #[.string s] 9 ∧ Blk W g2 #[.bool false] 4 ∧ BelowH w W) (o3 : Blk W g3 #[.int .i64 0, .slice none 0 0] 34) (e3 : Aside0 (w.heap.size ≤ g3)) (m3 : Aside0 (g1 ≠ g3 ∧ g2 ≠ g3)) (o4 : Blk W g4 #[.int .i64 0, .slice none 0 0] 34) (e4 : Aside0 (w.heap.size ≤ g4)) (m4 : Aside0 (g1 ≠ g4 ∧ g2 ≠ g4)) (m34 : Aside0 (g3 ≠ g4)), wpAnyH Tryd.prog .any MpR.ops3 (NoPanic Q) (fun W => W.cell? ⟨g1, 0, none⟩ = some (.string s) ∧ Blk W g1 #[.string s] 9 ∧ Blk W g2 #[.bool false] 4 ∧ BelowH w W) 7 #[true, false, true, false, true, false, true, true, false, false, false, false] { tmps := ((.string s : Value) :: (.pointer (some ⟨g1, 0, none⟩) : Value) :: (.pointer (some ⟨g2, 0, none⟩) : Value) :: (.pointer (some ⟨g3, 0, none⟩) : Value) :: (.pointer (some ⟨g4, 0, none⟩) : Value) :: undef :: undef :: undef :: undef :: undef :: undef :: undef :: undef :: undef :: undef :: undef :: undef :: undef :: (.bool true : Value) :: (.bool false : Value) :: (.string s : Value) :: undef :: (.string s : Value) :: undef :: (.string s : Value) :: undef :: tl).toArray, defers := [] } W := by
    intro W  g3 g4 hS  o3 e3 m3 o4 e4 m4 m34
    refine wpAnyH_ready (rs := [1, 8]) (by kernel_rfl) (by simp) ?_
    refine AllReadyH.cons (o := Oper.mk _ _ _ _ _ _) rfl (fun K hK => ?_) ?_
    · obtain ⟨c0, b1, b2, HB⟩ := hS
      refine rg_callE (by rfl) _ _ (by first | (go_simp; done) | (go_simp; rfl)) (CM.out _) ?_
      intro v W' hv
      obtain ⟨A1, k1, hv1, r1, hb0⟩ := hv.out
      have hb := Aside0.mk hb0
      cases hv1
      clear hv hb0
      refine hK.out _ _ ⟨pw_cell_below hb.out c0, b1.below hb.out, b2.below hb.out, HB.step hb.out⟩ (fun hS => ?_)
      exact n134 W' A1 k1 g3 g4 hS  r1 (o3.below hb.out) e3 m3 (o4.below hb.out) e4 m4 m34
    refine AllReadyH.cons (o := Oper.mk _ _ _ _ _ _) rfl (fun K hK => ?_) ?_
    · obtain ⟨c0, b1, b2, HB⟩ := hS
      have l1_ := b1.lt
      have l2_ := b2.lt
      have l3_ := o3.lt
      have l4_ := o4.lt
      refine rg_alloc HB (by rfl) #[.int .i64 0, .slice none 0 0] 34 (by first | (go_simp; done) | (go_simp; rfl)) ?_
      intro g5 W' hgN e5 o5 HBn hb
      have m5 := Aside0.mk (show g1 ≠ g5 ∧ g2 ≠ g5 by have := hgN.out; omega)
      have m35 := Aside0.mk (show g3 ≠ g5 by have := hgN.out; omega)
      have m45 := Aside0.mk (show g4 ≠ g5 by have := hgN.out; omega)
      refine hK.out _ _ ⟨pw_cell_below hb.out c0, b1.below hb.out, b2.below hb.out, HBn⟩ (fun hS => ?_)
      exact n0345 W'  g3 g4 g5 hS  (o3.below hb.out) e3 m3 (o4.below hb.out) e4 m4 (o5) e5 m5 m34 m35 m45
    exact AllReadyH.nil
  have n035 : ∀ (W : World) (g3 g5 : Nat) (hS : W.cell? ⟨g1, 0, none⟩ = some (.string s) ∧ Blk W g1 #[.string s] 9 ∧ Blk W g2 #[.bool false] 4 ∧ BelowH w W) (o3 : Blk W g3 #[.int .i64 0, .slice none 0 0] 34) (e3 : Aside0 (w.heap.size ≤ g3)) (m3 : Aside0 (g1 ≠ g3 ∧ g2 ≠ g3)) (o5 : Blk W g5 #[.int .i64 0, .slice none 0 0] 34) (e5 : Aside0 (w.heap.size ≤ g5)) (m5 : Aside0 (g1 ≠ g5 ∧ g2 ≠ g5)) (m35 : Aside0 (g3 ≠ g5)), wpAnyH Tryd.prog .any MpR.ops3 (NoPanic Q) (fun W => W.cell? ⟨g1, 0, none⟩ = some (.string s) ∧ Blk W g1 #[.string s] 9 ∧ Blk W g2 #[.bool false] 4 ∧ BelowH w W) 7 #[true, false, true, false, true, false, true, false, true, false, false, false] { tmps := ((.string s : Value) :: (.pointer (some ⟨g1, 0, none⟩) : Value) :: (.pointer (some ⟨g2, 0, none⟩) : Value) :: (.pointer (some ⟨g3, 0, none⟩) : Value) :: undef :: (.pointer (some ⟨g5, 0, none⟩) : Value) :: undef :: undef :: undef :: undef :: undef :: undef :: undef :: undef :: undef :: undef :: undef :: undef :: (.bool true : Value) :: (.bool false : Value) :: (.string s : Value) :: undef :: (.string s : Value) :: undef :: (.string s : Value) :: undef :: tl).toArray, defers := [] } W := by
    intro W  g3 g5 hS  o3 e3 m3 o5 e5 m5 m35
    refine wpAnyH_ready (rs := [1, 7]) (by kernel_rfl) (by simp) ?_
    refine AllReadyH.cons (o := Oper.mk _ _ _ _ _ _) rfl (fun K hK => ?_) ?_
    · obtain ⟨c0, b1, b2, HB⟩ := hS
      refine rg_callE (by rfl) _ _ (by first | (go_simp; done) | (go_simp; rfl)) (CM.out _) ?_
      intro v W' hv
      obtain ⟨A1, k1, hv1, r1, hb0⟩ := hv.out
      have hb := Aside0.mk hb0
      cases hv1
      clear hv hb0
      refine hK.out _ _ ⟨pw_cell_below hb.out c0, b1.below hb.out, b2.below hb.out, HB.step hb.out⟩ (fun hS => ?_)
      exact n135 W' A1 k1 g3 g5 hS  r1 (o3.below hb.out) e3 m3 (o5.below hb.out) e5 m5 m35
    refine AllReadyH.cons (o := Oper.mk _ _ _ _ _ _) rfl (fun K hK => ?_) ?_
    · obtain ⟨c0, b1, b2, HB⟩ := hS
      have l1_ := b1.lt
      have l2_ := b2.lt
      have l3_ := o3.lt
      have l5_ := o5.lt
      refine rg_alloc HB (by rfl) #[.int .i64 0, .slice none 0 0] 34 (by first | (go_simp; done) | (go_simp; rfl)) ?_
      intro g4 W' hgN e4 o4 HBn hb
      have m4 := Aside0.mk (show g1 ≠ g4 ∧ g2 ≠ g4 by have := hgN.out; omega)
      have m34 := Aside0.mk (show g3 ≠ g4 by have := hgN.out; omega)
      have m45 := Aside0.mk (show g4 ≠ g5 by have := hgN.out; omega)
      refine hK.out _ _ ⟨pw_cell_below hb.out c0, b1.below hb.out, b2.below hb.out, HBn⟩ (fun hS => ?_)
      exact n0345 W'  g3 g4 g5 hS  (o3.below hb.out) e3 m3 (o4) e4 m4 (o5.below hb.out) e5 m5 m34 m35 m45
    exact AllReadyH.nil
  have n045 : ∀ (W : World) (g4 g5 : Nat) (hS : W.cell? ⟨g1, 0, none⟩ = some (.string s) ∧ Blk W g1 #[.string s] 9 ∧ Blk W g2 #[.bool false] 4 ∧ BelowH w W) (o4 : Blk W g4 #[.int .i64 0, .slice none 0 0] 34) (e4 : Aside0 (w.heap.size ≤ g4)) (m4 : Aside0 (g1 ≠ g4 ∧ g2 ≠ g4)) (o5 : Blk W g5 #[.int .i64 0, .slice none 0 0] 34) (e5 : Aside0 (w.heap.size ≤ g5)) (m5 : Aside0 (g1 ≠ g5 ∧ g2 ≠ g5)) (m45 : Aside0 (g4 ≠ g5)), wpAnyH Tryd.prog .any MpR.ops3 (NoPanic Q) (fun W => W.cell? ⟨g1, 0, none⟩ = some (.string s) ∧ Blk W g1 #[.string s] 9 ∧ Blk W g2 #[.bool false] 4 ∧ BelowH w W) 7 #[true, false, true, false, true, false, false, true, true, false, false, false] { tmps := ((.string s : Value) :: (.pointer (some ⟨g1, 0, none⟩) : Value) :: (.pointer (some ⟨g2, 0, none⟩) : Value) :: undef :: (.pointer (some ⟨g4, 0, none⟩) : Value) :: (.pointer (some ⟨g5, 0, none⟩) : Value) :: undef :: undef :: undef :: undef :: undef :: undef :: undef :: undef :: undef :: undef :: undef :: undef :: (.bool true : Value) :: (.bool false : Value) :: (.string s : Value) :: undef :: (.string s : Value) :: undef :: (.string s : Value) :: undef :: tl).toArray, defers := [] } W := by
    intro W  g4 g5 hS  o4 e4 m4 o5 e5 m5 m45
    refine wpAnyH_ready (rs := [1, 6]) (by kernel_rfl) (by simp) ?_
    refine AllReadyH.cons (o := Oper.mk _ _ _ _ _ _) rfl (fun K hK => ?_) ?_
    · obtain ⟨c0, b1, b2, HB⟩ := hS
      refine rg_callE (by rfl) _ _ (by first | (go_simp; done) | (go_simp; rfl)) (CM.out _) ?_
      intro v W' hv
      obtain ⟨A1, k1, hv1, r1, hb0⟩ := hv.out
      have hb := Aside0.mk hb0
      cases hv1
      clear hv hb0
      refine hK.out _ _ ⟨pw_cell_below hb.out c0, b1.below hb.out, b2.below hb.out, HB.step hb.out⟩ (fun hS => ?_)
      exact n145 W' A1 k1 g4 g5 hS  r1 (o4.below hb.out) e4 m4 (o5.below hb.out) e5 m5 m45
    refine AllReadyH.cons (o := Oper.mk _ _ _ _ _ _) rfl (fun K hK => ?_) ?_
    · obtain ⟨c0, b1, b2, HB⟩ := hS
      have l1_ := b1.lt
      have l2_ := b2.lt
      have l4_ := o4.lt
      have l5_ := o5.lt
      refine rg_alloc HB (by rfl) #[.int .i64 0, .slice none 0 0] 34 (by first | (go_simp; done) | (go_simp; rfl)) ?_
      intro g3 W' hgN e3 o3 HBn hb
      have m3 := Aside0.mk (show g1 ≠ g3 ∧ g2 ≠ g3 by have := hgN.out; omega)
      have m34 := Aside0.mk (show g3 ≠ g4 by have := hgN.out; omega)
      have m35 := Aside0.mk (show g3 ≠ g5 by have := hgN.out; omega)
      refine hK.out _ _ ⟨pw_cell_below hb.out c0, b1.below hb.out, b2.below hb.out, HBn⟩ (fun hS => ?_)
      exact n0345 W'  g3 g4 g5 hS  (o3) e3 m3 (o4.below hb.out) e4 m4 (o5.below hb.out) e5 m5 m34 m35 m45
    exact AllReadyH.nil
  have n13 : ∀ (W : World) (A1 : Option Addr) (k1 : Nat) (g3 : Nat) (hS : W.cell? ⟨g1, 0, none⟩ = some (.string s) ∧ Blk W g1 #[.string s] 9 ∧ Blk W g2 #[.bool false] 4 ∧ BelowH w W) (r1 : Aside0 (W.ownsRow 0 75 1 (.slice A1 l1.length k1) l1.length (l1.map (Value.int .u64)))) (o3 : Blk W g3 #[.int .i64 0, .slice none 0 0] 34) (e3 : Aside0 (w.heap.size ≤ g3)) (m3 : Aside0 (g1 ≠ g3 ∧ g2 ≠ g3)), wpAnyH Tryd.prog .any MpR.ops3 (NoPanic Q) (fun W => W.cell? ⟨g1, 0, none⟩ = some (.string s) ∧ Blk W g1 #[.string s] 9 ∧ Blk W g2 #[.bool false] 4 ∧ BelowH w W) 7 #[true, true, true, false, true, false, true, false, false, false, false, false] { tmps := ((.string s : Value) :: (.pointer (some ⟨g1, 0, none⟩) : Value) :: (.pointer (some ⟨g2, 0, none⟩) : Value) :: (.pointer (some ⟨g3, 0, none⟩) : Value) :: undef :: undef :: undef :: undef :: undef :: undef :: undef :: undef :: undef :: undef :: undef :: undef :: undef :: undef :: (.bool true : Value) :: (.bool false : Value) :: (.string s : Value) :: (.agg #[.int .i64 n, .slice A1 l1.length k1] : Value) :: (.string s : Value) :: undef :: (.string s : Value) :: undef :: tl).toArray, defers := [] } W := by
    intro W A1 k1 g3 hS r1 o3 e3 m3 
    refine wpAnyH_ready (rs := [3, 7, 8]) (by kernel_rfl) (by simp) ?_
    refine AllReadyH.cons (o := Oper.mk _ _ _ _ _ _) rfl (fun K hK => ?_) ?_
    · obtain ⟨c0, b1, b2, HB⟩ := hS
      refine rg_callE (by rfl) _ _ (by first | (go_simp; done) | (go_simp; rfl)) (CI.out _) ?_
      intro v W' hv
      obtain ⟨A2, k2, hv1, r2, hb0⟩ := hv.out
      have hb := Aside0.mk hb0
      cases hv1
      clear hv hb0
      refine hK.out _ _ ⟨pw_cell_below hb.out c0, b1.below hb.out, b2.below hb.out, HB.step hb.out⟩ (fun hS => ?_)
      exact n23 W' A1 k1 A2 k2 g3 hS ⟨row_below r1.out hb.out⟩ r2 (o3.below hb.out) e3 m3 
    refine AllReadyH.cons (o := Oper.mk _ _ _ _ _ _) rfl (fun K hK => ?_) ?_
    · obtain ⟨c0, b1, b2, HB⟩ := hS
      have l1_ := b1.lt
      have l2_ := b2.lt
      have l3_ := o3.lt
      refine rg_alloc HB (by rfl) #[.int .i64 0, .slice none 0 0] 34 (by first | (go_simp; done) | (go_simp; rfl)) ?_
      intro g4 W' hgN e4 o4 HBn hb
      have m4 := Aside0.mk (show g1 ≠ g4 ∧ g2 ≠ g4 by have := hgN.out; omega)
      have m34 := Aside0.mk (show g3 ≠ g4 by have := hgN.out; omega)
      refine hK.out _ _ ⟨pw_cell_below hb.out c0, b1.below hb.out, b2.below hb.out, HBn⟩ (fun hS => ?_)
      exact n134 W' A1 k1 g3 g4 hS ⟨row_below r1.out hb.out⟩ (o3.below hb.out) e3 m3 (o4) e4 m4 m34
    refine AllReadyH.cons (o := Oper.mk _ _ _ _ _ _) rfl (fun K hK => ?_) ?_
    · obtain ⟨c0, b1, b2, HB⟩ := hS
      have l1_ := b1.lt
      have l2_ := b2.lt
      have l3_ := o3.lt
      refine rg_alloc HB (by rfl) #[.int .i64 0, .slice none 0 0] 34 (by first | (go_simp; done) | (go_simp; rfl)) ?_
      intro g5 W' hgN e5 o5 HBn hb
      have m5 := Aside0.mk (show g1 ≠ g5 ∧ g2 ≠ g5 by have := hgN.out; omega)
      have m35 := Aside0.mk (show g3 ≠ g5 by have := hgN.out; omega)
      refine hK.out _ _ ⟨pw_cell_below hb.out c0, b1.below hb.out, b2.below hb.out, HBn⟩ (fun hS => ?_)
      exact n135 W' A1 k1 g3 g5 hS ⟨row_below r1.out hb.out⟩ (o3.below hb.out) e3 m3 (o5) e5 m5 m35
    exact AllReadyH.nil
  have n14 : ∀ (W : World) (A1 : Option Addr) (k1 : Nat) (g4 : Nat) (hS : W.cell? ⟨g1, 0, none⟩ = some (.string s) ∧ Blk W g1 #[.string s] 9 ∧ Blk W g2 #[.bool false] 4 ∧ BelowH w W) (r1 : Aside0 (W.ownsRow 0 75 1 (.slice A1 l1.length k1) l1.length (l1.map (Value.int .u64)))) (o4 : Blk W g4 #[.int .i64 0, .slice none 0 0] 34) (e4 : Aside0 (w.heap.size ≤ g4)) (m4 : Aside0 (g1 ≠ g4 ∧ g2 ≠ g4)), wpAnyH Tryd.prog .any MpR.ops3 (NoPanic Q) (fun W => W.cell? ⟨g1, 0, none⟩ = some (.string s) ∧ Blk W g1 #[.string s] 9 ∧ Blk W g2 #[.bool false] 4 ∧ BelowH w W) 7 #[true, true, true, false, true, false, false, true, false, false, false, false] { tmps := ((.string s : Value) :: (.pointer (some ⟨g1, 0, none⟩) : Value) :: (.pointer (some ⟨g2, 0, none⟩) : Value) :: undef :: (.pointer (some ⟨g4, 0, none⟩) : Value) :: undef :: undef :: undef :: undef :: undef :: undef :: undef :: undef :: undef :: undef :: undef :: undef :: undef :: (.bool true : Value) :: (.bool false : Value) :: (.string s : Value) :: (.agg #[.int .i64 n, .slice A1 l1.length k1] : Value) :: (.string s : Value) :: undef :: (.string s : Value) :: undef :: tl).toArray, defers := [] } W := by
    intro W A1 k1 g4 hS r1 o4 e4 m4 
    refine wpAnyH_ready (rs := [3, 6, 8]) (by kernel_rfl) (by simp) ?_
    refine AllReadyH.cons (o := Oper.mk _ _ _ _ _ _) rfl (fun K hK => ?_) ?_
    · obtain ⟨c0, b1, b2, HB⟩ := hS
      refine rg_callE (by rfl) _ _ (by first | (go_simp; done) | (go_simp; rfl)) (CI.out _) ?_
      intro v W' hv
      obtain ⟨A2, k2, hv1, r2, hb0⟩ := hv.out
      have hb := Aside0.mk hb0
      cases hv1
      clear hv hb0
      refine hK.out _ _ ⟨pw_cell_below hb.out c0, b1.below hb.out, b2.below hb.out, HB.step hb.out⟩ (fun hS => ?_)
      exact n24 W' A1 k1 A2 k2 g4 hS ⟨row_below r1.out hb.out⟩ r2 (o4.below hb.out) e4 m4 
    refine AllReadyH.cons (o := Oper.mk _ _ _ _ _ _) rfl (fun K hK => ?_) ?_
    · obtain ⟨c0, b1, b2, HB⟩ := hS
      have l1_ := b1.lt
      have l2_ := b2.lt
      have l4_ := o4.lt
      refine rg_alloc HB (by rfl) #[.int .i64 0, .slice none 0 0] 34 (by first | (go_simp; done) | (go_simp; rfl)) ?_
      intro g3 W' hgN e3 o3 HBn hb
      have m3 := Aside0.mk (show g1 ≠ g3 ∧ g2 ≠ g3 by have := hgN.out; omega)
      have m34 := Aside0.mk (show g3 ≠ g4 by have := hgN.out; omega)
      refine hK.out _ _ ⟨pw_cell_below hb.out c0, b1.below hb.out, b2.below hb.out, HBn⟩ (fun hS => ?_)
      exact n134 W' A1 k1 g3 g4 hS ⟨row_below r1.out hb.out⟩ (o3) e3 m3 (o4.below hb.out) e4 m4 m34
    refine AllReadyH.cons (o := Oper.mk _ _ _ _ _ _) rfl (fun K hK => ?_) ?_
    · obtain ⟨c0, b1, b2, HB⟩ := hS
      have l1_ := b1.lt
      have l2_ := b2.lt
      have l4_ := o4.lt
      refine rg_alloc HB (by rfl) #[.int .i64 0, .slice none 0 0] 34 (by first | (go_simp; done) | (go_simp; rfl)) ?_
      intro g5 W' hgN e5 o5 HBn hb
      have m5 := Aside0.mk (show g1 ≠ g5 ∧ g2 ≠ g5 by have := hgN.out; omega)
      have m45 := Aside0.mk (show g4 ≠ g5 by have := hgN.out; omega)
      refine hK.out _ _ ⟨pw_cell_below hb.out c0, b1.below hb.out, b2.below hb.out, HBn⟩ (fun hS => ?_)
      exact n145 W' A1 k1 g4 g5 hS ⟨row_below r1.out hb.out⟩ (o4.below hb.out) e4 m4 (o5) e5 m5 m45
    exact AllReadyH.nil
  have n15 : ∀ (W : World) (A1 : Option Addr) (k1 : Nat) (g5 : Nat) (hS : W.cell? ⟨g1, 0, none⟩ = some (.string s) ∧ Blk W g1 #[.string s] 9 ∧ Blk W g2 #[.bool false] 4 ∧ BelowH w W) (r1 : Aside0 (W.ownsRow 0 75 1 (.slice A1 l1.length k1) l1.length (l1.map (Value.int .u64)))) (o5 : Blk W g5 #[.int .i64 0, .slice none 0 0] 34) (e5 : Aside0 (w.heap.size ≤ g5)) (m5 : Aside0 (g1 ≠ g5 ∧ g2 ≠ g5)), wpAnyH Tryd.prog .any MpR.ops3 (NoPanic Q) (fun W => W.cell? ⟨g1, 0, none⟩ = some (.string s) ∧ Blk W g1 #[.string s] 9 ∧ Blk W g2 #[.bool false] 4 ∧ BelowH w W) 7 #[true, true, true, false, true, false, false, false, true, false, false, false] { tmps := ((.string s : Value) :: (.pointer (some ⟨g1, 0, none⟩) : Value) :: (.pointer (some ⟨g2, 0, none⟩) : Value) :: undef :: undef :: (.pointer (some ⟨g5, 0, none⟩) : Value) :: undef :: undef :: undef :: undef :: undef :: undef :: undef :: undef :: undef :: undef :: undef :: undef :: (.bool true : Value) :: (.bool false : Value) :: (.string s : Value) :: (.agg #[.int .i64 n, .slice A1 l1.length k1] : Value) :: (.string s : Value) :: undef :: (.string s : Value) :: undef :: tl).toArray, defers := [] } W := by
    intro W A1 k1 g5 hS r1 o5 e5 m5 
    refine wpAnyH_ready (rs := [3, 6, 7]) (by kernel_rfl) (by simp) ?_
    refine AllReadyH.cons (o := Oper.mk _ _ _ _ _ _) rfl (fun K hK => ?_) ?_
    · obtain ⟨c0, b1, b2, HB⟩ := hS
      refine rg_callE (by rfl) _ _ (by first | (go_simp; done) | (go_simp; rfl)) (CI.out _) ?_
      intro v W' hv
      obtain ⟨A2, k2, hv1, r2, hb0⟩ := hv.out
      have hb := Aside0.mk hb0
      cases hv1
      clear hv hb0
      refine hK.out _ _ ⟨pw_cell_below hb.out c0, b1.below hb.out, b2.below hb.out, HB.step hb.out⟩ (fun hS => ?_)
      exact n25 W' A1 k1 A2 k2 g5 hS ⟨row_below r1.out hb.out⟩ r2 (o5.below hb.out) e5 m5 
    refine AllReadyH.cons (o := Oper.mk _ _ _ _ _ _) rfl (fun K hK => ?_) ?_
    · obtain ⟨c0, b1, b2, HB⟩ := hS
      have l1_ := b1.lt
      have l2_ := b2.lt
      have l5_ := o5.lt
      refine rg_alloc HB (by rfl) #[.int .i64 0, .slice none 0 0] 34 (by first | (go_simp; done) | (go_simp; rfl)) ?_
      intro g3 W' hgN e3 o3 HBn hb
      have m3 := Aside0.mk (show g1 ≠ g3 ∧ g2 ≠ g3 by have := hgN.out; omega)
      have m35 := Aside0.mk (show g3 ≠ g5 by have := hgN.out; omega)
      refine hK.out _ _ ⟨pw_cell_below hb.out c0, b1.below hb.out, b2.below hb.out, HBn⟩ (fun hS => ?_)
      exact n135 W' A1 k1 g3 g5 hS ⟨row_below r1.out hb.out⟩ (o3) e3 m3 (o5.below hb.out) e5 m5 m35
    refine AllReadyH.cons (o := Oper.mk _ _ _ _ _ _) rfl (fun K hK => ?_) ?_
    · obtain ⟨c0, b1, b2, HB⟩ := hS
      have l1_ := b1.lt
      have l2_ := b2.lt
      have l5_ := o5.lt
      refine rg_alloc HB (by rfl) #[.int .i64 0, .slice none 0 0] 34 (by first | (go_simp; done) | (go_simp; rfl)) ?_
      intro g4 W' hgN e4 o4 HBn hb
      have m4 := Aside0.mk (show g1 ≠ g4 ∧ g2 ≠ g4 by have := hgN.out; omega)
      have m45 := Aside0.mk (show g4 ≠ g5 by have := hgN.out; omega)
      refine hK.out _ _ ⟨pw_cell_below hb.out c0, b1.below hb.out, b2.below hb.out, HBn⟩ (fun hS => ?_)
      exact n145 W' A1 k1 g4 g5 hS ⟨row_below r1.out hb.out⟩ (o4) e4 m4 (o5.below hb.out) e5 m5 m45
    exact AllReadyH.nil
  have n2 : ∀ (W : World) (A1 : Option Addr) (k1 : Nat) (A2 : Option Addr) (k2 : Nat) (hS : W.cell? ⟨g1, 0, none⟩ = some (.string s) ∧ Blk W g1 #[.string s] 9 ∧ Blk W g2 #[.bool false] 4 ∧ BelowH w W) (r1 : Aside0 (W.ownsRow 0 75 1 (.slice A1 l1.length k1) l1.length (l1.map (Value.int .u64)))) (r2 : Aside0 (W.ownsRow 0 75 1 (.slice A2 l2.length k2) l2.length (l2.map (Value.int .u64)))), wpAnyH Tryd.prog .any MpR.ops3 (NoPanic Q) (fun W => W.cell? ⟨g1, 0, none⟩ = some (.string s) ∧ Blk W g1 #[.string s] 9 ∧ Blk W g2 #[.bool false] 4 ∧ BelowH w W) 7 #[true, true, true, true, true, false, false, false, false, false, false, false] { tmps := ((.string s : Value) :: (.pointer (some ⟨g1, 0, none⟩) : Value) :: (.pointer (some ⟨g2, 0, none⟩) : Value) :: undef :: undef :: undef :: undef :: undef :: undef :: undef :: undef :: undef :: undef :: undef :: undef :: undef :: undef :: undef :: (.bool true : Value) :: (.bool false : Value) :: (.string s : Value) :: (.agg #[.int .i64 n, .slice A1 l1.length k1] : Value) :: (.string s : Value) :: (.agg #[.int .i64 n, .slice A2 l2.length k2] : Value) :: (.string s : Value) :: undef :: tl).toArray, defers := [] } W := by
    intro W A1 k1 A2 k2  hS r1 r2  
    refine wpAnyH_ready (rs := [5, 6, 7, 8]) (by kernel_rfl) (by simp) ?_
    refine AllReadyH.cons (o := Oper.mk _ _ _ _ _ _) rfl (fun K hK => ?_) ?_
    · obtain ⟨c0, b1, b2, HB⟩ := hS
      refine rg_callE (by rfl) _ _ (by first | (go_simp; done) | (go_simp; rfl)) (CB.out _) ?_
      intro v W' hv
      obtain ⟨A3, k3, hv1, r3, hb0⟩ := hv.out
      have hb := Aside0.mk hb0
      cases hv1
      clear hv hb0
      refine hK.out _ _ ⟨pw_cell_below hb.out c0, b1.below hb.out, b2.below hb.out, HB.step hb.out⟩ (fun hS => ?_)
      exact n3 W' A1 k1 A2 k2 A3 k3  hS ⟨row_below r1.out hb.out⟩ ⟨row_below r2.out hb.out⟩ r3  
    refine AllReadyH.cons (o := Oper.mk _ _ _ _ _ _) rfl (fun K hK => ?_) ?_
    · obtain ⟨c0, b1, b2, HB⟩ := hS
      have l1_ := b1.lt
      have l2_ := b2.lt
      refine rg_alloc HB (by rfl) #[.int .i64 0, .slice none 0 0] 34 (by first | (go_simp; done) | (go_simp; rfl)) ?_
      intro g3 W' hgN e3 o3 HBn hb
      have m3 := Aside0.mk (show g1 ≠ g3 ∧ g2 ≠ g3 by have := hgN.out; omega)
      refine hK.out _ _ ⟨pw_cell_below hb.out c0, b1.below hb.out, b2.below hb.out, HBn⟩ (fun hS => ?_)
      exact n23 W' A1 k1 A2 k2 g3 hS ⟨row_below r1.out hb.out⟩ ⟨row_below r2.out hb.out⟩ (o3) e3 m3 
    refine AllReadyH.cons (o := Oper.mk _ _ _ _ _ _) rfl (fun K hK => ?_) ?_
    · obtain ⟨c0, b1, b2, HB⟩ := hS
      have l1_ := b1.lt
      have l2_ := b2.lt
      refine rg_alloc HB (by rfl) #[.int .i64 0, .slice none 0 0] 34 (by first | (go_simp; done) | (go_simp; rfl)) ?_
      intro g4 W' hgN e4 o4 HBn hb
      have m4 := Aside0.mk (show g1 ≠ g4 ∧ g2 ≠ g4 by have := hgN.out; omega)
      refine hK.out _ _ ⟨pw_cell_below hb.out c0, b1.below hb.out, b2.below hb.out, HBn⟩ (fun hS => ?_)
      exact n24 W' A1 k1 A2 k2 g4 hS ⟨row_below r1.out hb.out⟩ ⟨row_below r2.out hb.out⟩ (o4) e4 m4 
    refine AllReadyH.cons (o := Oper.mk _ _ _ _ _ _) rfl (fun K hK => ?_) ?_
    · obtain ⟨c0, b1, b2, HB⟩ := hS
      have l1_ := b1.lt
      have l2_ := b2.lt
      refine rg_alloc HB (by rfl) #[.int .i64 0, .slice none 0 0] 34 (by first | (go_simp; done) | (go_simp; rfl)) ?_
      intro g5 W' hgN e5 o5 HBn hb
      have m5 := Aside0.mk (show g1 ≠ g5 ∧ g2 ≠ g5 by have := hgN.out; omega)
      refine hK.out _ _ ⟨pw_cell_below hb.out c0, b1.below hb.out, b2.below hb.out, HBn⟩ (fun hS => ?_)
      exact n25 W' A1 k1 A2 k2 g5 hS ⟨row_below r1.out hb.out⟩ ⟨row_below r2.out hb.out⟩ (o5) e5 m5 
    exact AllReadyH.nil
  have n03 : ∀ (W : World) (g3 : Nat) (hS : W.cell? ⟨g1, 0, none⟩ = some (.string s) ∧ Blk W g1 #[.string s] 9 ∧ Blk W g2 #[.bool false] 4 ∧ BelowH w W) (o3 : Blk W g3 #[.int .i64 0, .slice none 0 0] 34) (e3 : Aside0 (w.heap.size ≤ g3)) (m3 : Aside0 (g1 ≠ g3 ∧ g2 ≠ g3)), wpAnyH Tryd.prog .any MpR.ops3 (NoPanic Q) (fun W => W.cell? ⟨g1, 0, none⟩ = some (.string s) ∧ Blk W g1 #[.string s] 9 ∧ Blk W g2 #[.bool false] 4 ∧ BelowH w W) 8 #[true, false, true, false, true, false, true, false, false, false, false, false] { tmps := ((.string s : Value) :: (.pointer (some ⟨g1, 0, none⟩) : Value) :: (.pointer (some ⟨g2, 0, none⟩) : Value) :: (.pointer (some ⟨g3, 0, none⟩) : Value) :: undef :: undef :: undef :: undef :: undef :: undef :: undef :: undef :: undef :: undef :: undef :: undef :: undef :: undef :: (.bool true : Value) :: (.bool false : Value) :: (.string s : Value) :: undef :: (.string s : Value) :: undef :: (.string s : Value) :: undef :: tl).toArray, defers := [] } W := by
    intro W  g3 hS  o3 e3 m3 
    refine wpAnyH_ready (rs := [1, 7, 8]) (by kernel_rfl) (by simp) ?_
    refine AllReadyH.cons (o := Oper.mk _ _ _ _ _ _) rfl (fun K hK => ?_) ?_
    · obtain ⟨c0, b1, b2, HB⟩ := hS
      refine rg_callE (by rfl) _ _ (by first | (go_simp; done) | (go_simp; rfl)) (CM.out _) ?_
      intro v W' hv
      obtain ⟨A1, k1, hv1, r1, hb0⟩ := hv.out
      have hb := Aside0.mk hb0
      cases hv1
      clear hv hb0
      refine hK.out _ _ ⟨pw_cell_below hb.out c0, b1.below hb.out, b2.below hb.out, HB.step hb.out⟩ (fun hS => ?_)
      exact n13 W' A1 k1 g3 hS  r1 (o3.below hb.out) e3 m3 
    refine AllReadyH.cons (o := Oper.mk _ _ _ _ _ _) rfl (fun K hK => ?_) ?_
    · obtain ⟨c0, b1, b2, HB⟩ := hS
      have l1_ := b1.lt
      have l2_ := b2.lt
      have l3_ := o3.lt
      refine rg_alloc HB (by rfl) #[.int .i64 0, .slice none 0 0] 34 (by first | (go_simp; done) | (go_simp; rfl)) ?_
      intro g4 W' hgN e4 o4 HBn hb
      have m4 := Aside0.mk (show g1 ≠ g4 ∧ g2 ≠ g4 by have := hgN.out; omega)
      have m34 := Aside0.mk (show g3 ≠ g4 by have := hgN.out; omega)
      refine hK.out _ _ ⟨pw_cell_below hb.out c0, b1.below hb.out, b2.below hb.out, HBn⟩ (fun hS => ?_)
      exact n034 W'  g3 g4 hS  (o3.below hb.out) e3 m3 (o4) e4 m4 m34
    refine AllReadyH.cons (o := Oper.mk _ _ _ _ _ _) rfl (fun K hK => ?_) ?_
    · obtain ⟨c0, b1, b2, HB⟩ := hS
      have l1_ := b1.lt
      have l2_ := b2.lt
      have l3_ := o3.lt
      refine rg_alloc HB (by rfl) #[.int .i64 0, .slice none 0 0] 34 (by first | (go_simp; done) | (go_simp; rfl)) ?_
      intro g5 W' hgN e5 o5 HBn hb
      have m5 := Aside0.mk (show g1 ≠ g5 ∧ g2 ≠ g5 by have := hgN.out; omega)
      have m35 := Aside0.mk (show g3 ≠ g5 by have := hgN.out; omega)
      refine hK.out _ _ ⟨pw_cell_below hb.out c0, b1.below hb.out, b2.below hb.out, HBn⟩ (fun hS => ?_)
      exact n035 W'  g3 g5 hS  (o3.below hb.out) e3 m3 (o5) e5 m5 m35
    exact AllReadyH.nil
  have n04 : ∀ (W : World) (g4 : Nat) (hS : W.cell? ⟨g1, 0, none⟩ = some (.string s) ∧ Blk W g1 #[.string s] 9 ∧ Blk W g2 #[.bool false] 4 ∧ BelowH w W) (o4 : Blk W g4 #[.int .i64 0, .slice none 0 0] 34) (e4 : Aside0 (w.heap.size ≤ g4)) (m4 : Aside0 (g1 ≠ g4 ∧ g2 ≠ g4)), wpAnyH Tryd.prog .any MpR.ops3 (NoPanic Q) (fun W => W.cell? ⟨g1, 0, none⟩ = some (.string s) ∧ Blk W g1 #[.string s] 9 ∧ Blk W g2 #[.bool false] 4 ∧ BelowH w W) 8 #[true, false, true, false, true, false, false, true, false, false, false, false] { tmps := ((.string s : Value) :: (.pointer (some ⟨g1, 0, none⟩) : Value) :: (.pointer (some ⟨g2, 0, none⟩) : Value) :: undef :: (.pointer (some ⟨g4, 0, none⟩) : Value) :: undef :: undef :: undef :: undef :: undef :: undef :: undef :: undef :: undef :: undef :: undef :: undef :: undef :: (.bool true : Value) :: (.bool false : Value) :: (.string s : Value) :: undef :: (.string s : Value) :: undef :: (.string s : Value) :: undef :: tl).toArray, defers := [] } W := by
    intro W  g4 hS  o4 e4 m4 
    refine wpAnyH_ready (rs := [1, 6, 8]) (by kernel_rfl) (by simp) ?_
    refine AllReadyH.cons (o := Oper.mk _ _ _ _ _ _) rfl (fun K hK => ?_) ?_
    · obtain ⟨c0, b1, b2, HB⟩ := hS
      refine rg_callE (by rfl) _ _ (by first | (go_simp; done) | (go_simp; rfl)) (CM.out _) ?_
      intro v W' hv
      obtain ⟨A1, k1, hv1, r1, hb0⟩ := hv.out
      have hb := Aside0.mk hb0
      cases hv1
      clear hv hb0
      refine hK.out _ _ ⟨pw_cell_below hb.out c0, b1.below hb.out, b2.below hb.out, HB.step hb.out⟩ (fun hS => ?_)
      exact n14 W' A1 k1 g4 hS  r1 (o4.below hb.out) e4 m4 
    refine AllReadyH.cons (o := Oper.mk _ _ _ _ _ _) rfl (fun K hK => ?_) ?_
    · obtain ⟨c0, b1, b2, HB⟩ := hS
      have l1_ := b1.lt
      have l2_ := b2.lt
      have l4_ := o4.lt
      refine rg_alloc HB (by rfl) #[.int .i64 0, .slice none 0 0] 34 (by first | (go_simp; done) | (go_simp; rfl)) ?_
      intro g3 W' hgN e3 o3 HBn hb
      have m3 := Aside0.mk (show g1 ≠ g3 ∧ g2 ≠ g3 by have := hgN.out; omega)
      have m34 := Aside0.mk (show g3 ≠ g4 by have := hgN.out; omega)
      refine hK.out _ _ ⟨pw_cell_below hb.out c0, b1.below hb.out, b2.below hb.out, HBn⟩ (fun hS => ?_)
      exact n034 W'  g3 g4 hS  (o3) e3 m3 (o4.below hb.out) e4 m4 m34
    refine AllReadyH.cons (o := Oper.mk _ _ _ _ _ _) rfl (fun K hK => ?_) ?_
    · obtain ⟨c0, b1, b2, HB⟩ := hS
      have l1_ := b1.lt
      have l2_ := b2.lt
      have l4_ := o4.lt
      refine rg_alloc HB (by rfl) #[.int .i64 0, .slice none 0 0] 34 (by first | (go_simp; done) | (go_simp; rfl)) ?_
      intro g5 W' hgN e5 o5 HBn hb
      have m5 := Aside0.mk (show g1 ≠ g5 ∧ g2 ≠ g5 by have := hgN.out; omega)
      have m45 := Aside0.mk (show g4 ≠ g5 by have := hgN.out; omega)
      refine hK.out _ _ ⟨pw_cell_below hb.out c0, b1.below hb.out, b2.below hb.out, HBn⟩ (fun hS => ?_)
      exact n045 W'  g4 g5 hS  (o4.below hb.out) e4 m4 (o5) e5 m5 m45
    exact AllReadyH.nil
  have n05 : ∀ (W : World) (g5 : Nat) (hS : W.cell? ⟨g1, 0, none⟩ = some (.string s) ∧ Blk W g1 #[.string s] 9 ∧ Blk W g2 #[.bool false] 4 ∧ BelowH w W) (o5 : Blk W g5 #[.int .i64 0, .slice none 0 0] 34) (e5 : Aside0 (w.heap.size ≤ g5)) (m5 : Aside0 (g1 ≠ g5 ∧ g2 ≠ g5)), wpAnyH Tryd.prog .any MpR.ops3 (NoPanic Q) (fun W => W.cell? ⟨g1, 0, none⟩ = some (.string s) ∧ Blk W g1 #[.string s] 9 ∧ Blk W g2 #[.bool false] 4 ∧ BelowH w W) 8 #[true, false, true, false, true, false, false, false, true, false, false, false] { tmps := ((.string s : Value) :: (.pointer (some ⟨g1, 0, none⟩) : Value) :: (.pointer (some ⟨g2, 0, none⟩) : Value) :: undef :: undef :: (.pointer (some ⟨g5, 0, none⟩) : Value) :: undef :: undef :: undef :: undef :: undef :: undef :: undef :: undef :: undef :: undef :: undef :: undef :: (.bool true : Value) :: (.bool false : Value) :: (.string s : Value) :: undef :: (.string s : Value) :: undef :: (.string s : Value) :: undef :: tl).toArray, defers := [] } W := by
    intro W  g5 hS  o5 e5 m5 
    refine wpAnyH_ready (rs := [1, 6, 7]) (by kernel_rfl) (by simp) ?_
    refine AllReadyH.cons (o := Oper.mk _ _ _ _ _ _) rfl (fun K hK => ?_) ?_
    · obtain ⟨c0, b1, b2, HB⟩ := hS
      refine rg_callE (by rfl) _ _ (by first | (go_simp; done) | (go_simp; rfl)) (CM.out _) ?_
      intro v W' hv
      obtain ⟨A1, k1, hv1, r1, hb0⟩ := hv.out
      have hb := Aside0.mk hb0
      cases hv1
      clear hv hb0
      refine hK.out _ _ ⟨pw_cell_below hb.out c0, b1.below hb.out, b2.below hb.out, HB.step hb.out⟩ (fun hS => ?_)
      exact n15 W' A1 k1 g5 hS  r1 (o5.below hb.out) e5 m5 
    refine AllReadyH.cons (o := Oper.mk _ _ _ _ _ _) rfl (fun K hK => ?_) ?_
    · obtain ⟨c0, b1, b2, HB⟩ := hS
      have l1_ := b1.lt
      have l2_ := b2.lt
      have l5_ := o5.lt
      refine rg_alloc HB (by rfl) #[.int .i64 0, .slice none 0 0] 34 (by first | (go_simp; done) | (go_simp; rfl)) ?_
      intro g3 W' hgN e3 o3 HBn hb
      have m3 := Aside0.mk (show g1 ≠ g3 ∧ g2 ≠ g3 by have := hgN.out; omega)
      have m35 := Aside0.mk (show g3 ≠ g5 by have := hgN.out; omega)
      refine hK.out _ _ ⟨pw_cell_below hb.out c0, b1.below hb.out, b2.below hb.out, HBn⟩ (fun hS => ?_)
      exact n035 W'  g3 g5 hS  (o3) e3 m3 (o5.below hb.out) e5 m5 m35
    refine AllReadyH.cons (o := Oper.mk _ _ _ _ _ _) rfl (fun K hK => ?_) ?_
    · obtain ⟨c0, b1, b2, HB⟩ := hS
      have l1_ := b1.lt
      have l2_ := b2.lt
      have l5_ := o5.lt
      refine rg_alloc HB (by rfl) #[.int .i64 0, .slice none 0 0] 34 (by first | (go_simp; done) | (go_simp; rfl)) ?_
      intro g4 W' hgN e4 o4 HBn hb
      have m4 := Aside0.mk (show g1 ≠ g4 ∧ g2 ≠ g4 by have := hgN.out; omega)
      have m45 := Aside0.mk (show g4 ≠ g5 by have := hgN.out; omega)
      refine hK.out _ _ ⟨pw_cell_below hb.out c0, b1.below hb.out, b2.below hb.out, HBn⟩ (fun hS => ?_)
      exact n045 W'  g4 g5 hS  (o4) e4 m4 (o5.below hb.out) e5 m5 m45
    exact AllReadyH.nil
  have n1 : ∀ (W : World) (A1 : Option Addr) (k1 : Nat) (hS : W.cell? ⟨g1, 0, none⟩ = some (.string s) ∧ Blk W g1 #[.string s] 9 ∧ Blk W g2 #[.bool false] 4 ∧ BelowH w W) (r1 : Aside0 (W.ownsRow 0 75 1 (.slice A1 l1.length k1) l1.length (l1.map (Value.int .u64)))), wpAnyH Tryd.prog .any MpR.ops3 (NoPanic Q) (fun W => W.cell? ⟨g1, 0, none⟩ = some (.string s) ∧ Blk W g1 #[.string s] 9 ∧ Blk W g2 #[.bool false] 4 ∧ BelowH w W) 8 #[true, true, true, false, true, false, false, false, false, false, false, false] { tmps := ((.string s : Value) :: (.pointer (some ⟨g1, 0, none⟩) : Value) :: (.pointer (some ⟨g2, 0, none⟩) : Value) :: undef :: undef :: undef :: undef :: undef :: undef :: undef :: undef :: undef :: undef :: undef :: undef :: undef :: undef :: undef :: (.bool true : Value) :: (.bool false : Value) :: (.string s : Value) :: (.agg #[.int .i64 n, .slice A1 l1.length k1] : Value) :: (.string s : Value) :: undef :: (.string s : Value) :: undef :: tl).toArray, defers := [] } W := by
    intro W A1 k1  hS r1  
    refine wpAnyH_ready (rs := [3, 6, 7, 8]) (by kernel_rfl) (by simp) ?_
    refine AllReadyH.cons (o := Oper.mk _ _ _ _ _ _) rfl (fun K hK => ?_) ?_
    · obtain ⟨c0, b1, b2, HB⟩ := hS
      refine rg_callE (by rfl) _ _ (by first | (go_simp; done) | (go_simp; rfl)) (CI.out _) ?_
      intro v W' hv
      obtain ⟨A2, k2, hv1, r2, hb0⟩ := hv.out
      have hb := Aside0.mk hb0
      cases hv1
      clear hv hb0
      refine hK.out _ _ ⟨pw_cell_below hb.out c0, b1.below hb.out, b2.below hb.out, HB.step hb.out⟩ (fun hS => ?_)
      exact n2 W' A1 k1 A2 k2  hS ⟨row_below r1.out hb.out⟩ r2  
    refine AllReadyH.cons (o := Oper.mk _ _ _ _ _ _) rfl (fun K hK => ?_) ?_
    · obtain ⟨c0, b1, b2, HB⟩ := hS
      have l1_ := b1.lt
      have l2_ := b2.lt
      refine rg_alloc HB (by rfl) #[.int .i64 0, .slice none 0 0] 34 (by first | (go_simp; done) | (go_simp; rfl)) ?_
      intro g3 W' hgN e3 o3 HBn hb
      have m3 := Aside0.mk (show g1 ≠ g3 ∧ g2 ≠ g3 by have := hgN.out; omega)
      refine hK.out _ _ ⟨pw_cell_below hb.out c0, b1.below hb.out, b2.below hb.out, HBn⟩ (fun hS => ?_)
      exact n13 W' A1 k1 g3 hS ⟨row_below r1.out hb.out⟩ (o3) e3 m3 
    refine AllReadyH.cons (o := Oper.mk _ _ _ _ _ _) rfl (fun K hK => ?_) ?_
    · obtain ⟨c0, b1, b2, HB⟩ := hS
      have l1_ := b1.lt
      have l2_ := b2.lt
      refine rg_alloc HB (by rfl) #[.int .i64 0, .slice none 0 0] 34 (by first | (go_simp; done) | (go_simp; rfl)) ?_
      intro g4 W' hgN e4 o4 HBn hb
      have m4 := Aside0.mk (show g1 ≠ g4 ∧ g2 ≠ g4 by have := hgN.out; omega)
      refine hK.out _ _ ⟨pw_cell_below hb.out c0, b1.below hb.out, b2.below hb.out, HBn⟩ (fun hS => ?_)
      exact n14 W' A1 k1 g4 hS ⟨row_below r1.out hb.out⟩ (o4) e4 m4 
    refine AllReadyH.cons (o := Oper.mk _ _ _ _ _ _) rfl (fun K hK => ?_) ?_
    · obtain ⟨c0, b1, b2, HB⟩ := hS
      have l1_ := b1.lt
      have l2_ := b2.lt
      refine rg_alloc HB (by rfl) #[.int .i64 0, .slice none 0 0] 34 (by first | (go_simp; done) | (go_simp; rfl)) ?_
      intro g5 W' hgN e5 o5 HBn hb
      have m5 := Aside0.mk (show g1 ≠ g5 ∧ g2 ≠ g5 by have := hgN.out; omega)
      refine hK.out _ _ ⟨pw_cell_below hb.out c0, b1.below hb.out, b2.below hb.out, HBn⟩ (fun hS => ?_)
      exact n15 W' A1 k1 g5 hS ⟨row_below r1.out hb.out⟩ (o5) e5 m5 
    exact AllReadyH.nil
  have n0 : ∀ (W : World) (hS : W.cell? ⟨g1, 0, none⟩ = some (.string s) ∧ Blk W g1 #[.string s] 9 ∧ Blk W g2 #[.bool false] 4 ∧ BelowH w W), wpAnyH Tryd.prog .any MpR.ops3 (NoPanic Q) (fun W => W.cell? ⟨g1, 0, none⟩ = some (.string s) ∧ Blk W g1 #[.string s] 9 ∧ Blk W g2 #[.bool false] 4 ∧ BelowH w W) 9 #[true, false, true, false, true, false, false, false, false, false, false, false] { tmps := ((.string s : Value) :: (.pointer (some ⟨g1, 0, none⟩) : Value) :: (.pointer (some ⟨g2, 0, none⟩) : Value) :: undef :: undef :: undef :: undef :: undef :: undef :: undef :: undef :: undef :: undef :: undef :: undef :: undef :: undef :: undef :: (.bool true : Value) :: (.bool false : Value) :: (.string s : Value) :: undef :: (.string s : Value) :: undef :: (.string s : Value) :: undef :: tl).toArray, defers := [] } W := by
    intro W   hS   
    refine wpAnyH_ready (rs := [1, 6, 7, 8]) (by kernel_rfl) (by simp) ?_
    refine AllReadyH.cons (o := Oper.mk _ _ _ _ _ _) rfl (fun K hK => ?_) ?_
    · obtain ⟨c0, b1, b2, HB⟩ := hS
      refine rg_callE (by rfl) _ _ (by first | (go_simp; done) | (go_simp; rfl)) (CM.out _) ?_
      intro v W' hv
      obtain ⟨A1, k1, hv1, r1, hb0⟩ := hv.out
      have hb := Aside0.mk hb0
      cases hv1
      clear hv hb0
      refine hK.out _ _ ⟨pw_cell_below hb.out c0, b1.below hb.out, b2.below hb.out, HB.step hb.out⟩ (fun hS => ?_)
      exact n1 W' A1 k1  hS  r1  
    refine AllReadyH.cons (o := Oper.mk _ _ _ _ _ _) rfl (fun K hK => ?_) ?_
    · obtain ⟨c0, b1, b2, HB⟩ := hS
      have l1_ := b1.lt
      have l2_ := b2.lt
      refine rg_alloc HB (by rfl) #[.int .i64 0, .slice none 0 0] 34 (by first | (go_simp; done) | (go_simp; rfl)) ?_
      intro g3 W' hgN e3 o3 HBn hb
      have m3 := Aside0.mk (show g1 ≠ g3 ∧ g2 ≠ g3 by have := hgN.out; omega)
      refine hK.out _ _ ⟨pw_cell_below hb.out c0, b1.below hb.out, b2.below hb.out, HBn⟩ (fun hS => ?_)
      exact n03 W'  g3 hS  (o3) e3 m3 
    refine AllReadyH.cons (o := Oper.mk _ _ _ _ _ _) rfl (fun K hK => ?_) ?_
    · obtain ⟨c0, b1, b2, HB⟩ := hS
      have l1_ := b1.lt
      have l2_ := b2.lt
      refine rg_alloc HB (by rfl) #[.int .i64 0, .slice none 0 0] 34 (by first | (go_simp; done) | (go_simp; rfl)) ?_
      intro g4 W' hgN e4 o4 HBn hb
      have m4 := Aside0.mk (show g1 ≠ g4 ∧ g2 ≠ g4 by have := hgN.out; omega)
      refine hK.out _ _ ⟨pw_cell_below hb.out c0, b1.below hb.out, b2.below hb.out, HBn⟩ (fun hS => ?_)
      exact n04 W'  g4 hS  (o4) e4 m4 
    refine AllReadyH.cons (o := Oper.mk _ _ _ _ _ _) rfl (fun K hK => ?_) ?_
    · obtain ⟨c0, b1, b2, HB⟩ := hS
      have l1_ := b1.lt
      have l2_ := b2.lt
      refine rg_alloc HB (by rfl) #[.int .i64 0, .slice none 0 0] 34 (by first | (go_simp; done) | (go_simp; rfl)) ?_
      intro g5 W' hgN e5 o5 HBn hb
      have m5 := Aside0.mk (show g1 ≠ g5 ∧ g2 ≠ g5 by have := hgN.out; omega)
      refine hK.out _ _ ⟨pw_cell_below hb.out c0, b1.below hb.out, b2.below hb.out, HBn⟩ (fun hS => ?_)
      exact n05 W'  g5 hS  (o5) e5 m5 
    exact AllReadyH.nil
  obtain ⟨c0, b1, b2, HB⟩ := hS0
  refine wp_region_noPanic ?_
  refine wp_region_held_drew (S := fun W => W.cell? ⟨g1, 0, none⟩ = some (.string s) ∧ Blk W g1 #[.string s] 9 ∧ Blk W g2 #[.bool false] 4 ∧ BelowH w W) (by kernel_rfl) ⟨pw_cell_below (below_drew (Below.refl _ _)) c0, b1.drew, b2.drew, HB.drew⟩ (fun hS => ?_)
  clear c0 b1 b2 HB
  refine' wpAnyH_take (i := 0) (oi := Oper.mk _ _ _ _ _ _) rfl (by kernel_rfl) (by kernel_rfl) (by kernel_rfl) (fun _ _ _ h => h) (Or.inl ⟨by rfl, ?hy1⟩) hS ?rest1
  case hy1 => (intro w hSw; (try dsimp only at hSw); first | (go_simp; done) | (go_simp; with_reducible rfl))
  try simp only [Act.put, List.setIfInBounds_toArray, List.set_cons_zero, List.set_cons_succ]
  refine' wpAnyH_take (i := 2) (oi := Oper.mk _ _ _ _ _ _) rfl (by kernel_rfl) (by kernel_rfl) (by kernel_rfl) (fun _ _ _ h => h) (Or.inl ⟨by rfl, ?hy2⟩) hS ?rest2
  case hy2 => (intro w hSw; (try dsimp only at hSw); first | (go_simp; done) | (go_simp; with_reducible rfl))
  try simp only [Act.put, List.setIfInBounds_toArray, List.set_cons_zero, List.set_cons_succ]
  refine' wpAnyH_take (i := 4) (oi := Oper.mk _ _ _ _ _ _) rfl (by kernel_rfl) (by kernel_rfl) (by kernel_rfl) (fun _ _ _ h => h) (Or.inl ⟨by rfl, ?hy3⟩) hS ?rest3
  case hy3 => (intro w hSw; (try dsimp only at hSw); first | (go_simp; done) | (go_simp; with_reducible rfl))
  try simp only [Act.put, List.setIfInBounds_toArray, List.set_cons_zero, List.set_cons_succ]
  exact n0 _ hS
theorem quarrylaw08_MarksParts.region3In {F : Fence} (HF : Aside0 (F = Fence.wide)) {m : Nat} (s : ByteArray) (n : Int) (l1 l2 l3 : List Int) (w W0 : World) (tl : List Value) (g1 g2 : Nat) (CM : Aside0 (∀ W, Calls Tryd.prog 18 #[.string s] W fun e w' => ∃ v, e = .returned v ∧ ∃ A1 k1, v = .agg #[.int .i64 n, .slice A1 l1.length k1] ∧ Aside0 (w'.ownsRow 0 75 1 (.slice A1 l1.length k1) l1.length (l1.map (Value.int .u64))) ∧ Below W.heap.size W w')) (CI : Aside0 (∀ W, Calls Tryd.prog 19 #[.string s] W fun e w' => ∃ v, e = .returned v ∧ ∃ A2 k2, v = .agg #[.int .i64 n, .slice A2 l2.length k2] ∧ Aside0 (w'.ownsRow 0 75 1 (.slice A2 l2.length k2) l2.length (l2.map (Value.int .u64))) ∧ Below W.heap.size W w')) (CB : Aside0 (∀ W, Calls Tryd.prog 20 #[.string s] W fun e w' => ∃ v, e = .returned v ∧ ∃ A3 k3, v = .agg #[.int .i64 n, .slice A3 l3.length k3] ∧ Aside0 (w'.ownsRow 0 75 1 (.slice A3 l3.length k3) l3.length (l3.map (Value.int .u64))) ∧ Below W.heap.size W w'))
    (Q : Exit → Act → World → Prop) (hS0 : W0.cell? ⟨g1, 0, none⟩ = some (.string s) ∧ Blk W0 g1 #[.string s] 9 ∧ Blk W0 g2 #[.bool false] 4 ∧ BelowH w W0)
    (H : ∀ (A1 : Option Addr) (k1 : Nat) (A2 : Option Addr) (k2 : Nat) (A3 : Option Addr) (k3 : Nat) (g3 g4 g5 : Nat) (W : World), (W.cell? ⟨g1, 0, none⟩ = some (.string s) ∧ Blk W g1 #[.string s] 9 ∧ Blk W g2 #[.bool false] 4 ∧ BelowH w W) → Aside0 (W.ownsRow 0 75 1 (.slice A1 l1.length k1) l1.length (l1.map (Value.int .u64))) → Aside0 (W.ownsRow 0 75 1 (.slice A2 l2.length k2) l2.length (l2.map (Value.int .u64))) → Aside0 (W.ownsRow 0 75 1 (.slice A3 l3.length k3) l3.length (l3.map (Value.int .u64))) → Blk W g3 #[.int .i64 n, .slice A1 l1.length k1] 34 → Blk W g4 #[.int .i64 n, .slice A2 l2.length k2] 34 → Blk W g5 #[.int .i64 n, .slice A3 l3.length k3] 34 → Aside0 (w.heap.size ≤ g3 ∧ w.heap.size ≤ g4 ∧ w.heap.size ≤ g5) → Q .normal { tmps := ((.string s : Value) :: (.pointer (some ⟨g1, 0, none⟩) : Value) :: (.pointer (some ⟨g2, 0, none⟩) : Value) :: (.pointer (some ⟨g3, 0, none⟩) : Value) :: (.pointer (some ⟨g4, 0, none⟩) : Value) :: (.pointer (some ⟨g5, 0, none⟩) : Value) :: undef :: undef :: undef :: undef :: undef :: undef :: undef :: undef :: undef :: undef :: undef :: undef :: (.bool true : Value) :: (.bool false : Value) :: (.string s : Value) :: (.agg #[.int .i64 n, .slice A1 l1.length k1] : Value) :: (.string s : Value) :: (.agg #[.int .i64 n, .slice A2 l2.length k2] : Value) :: (.string s : Value) :: (.agg #[.int .i64 n, .slice A3 l3.length k3] : Value) :: tl).toArray, defers := [] } W) :
    (Code.region 3 MpR.ops3 true).wpIn F m Tryd.prog Q { tmps := ((.string s : Value) :: (.pointer (some ⟨g1, 0, none⟩) : Value) :: (.pointer (some ⟨g2, 0, none⟩) : Value) :: undef :: undef :: undef :: undef :: undef :: undef :: undef :: undef :: undef :: undef :: undef :: undef :: undef :: undef :: undef :: (.bool true : Value) :: (.bool false : Value) :: undef :: undef :: undef :: undef :: undef :: undef :: tl).toArray, defers := [] } W0 := by
  obtain ⟨rfl⟩ := HF
  exact wpIn_wide.2 (quarrylaw08_MarksParts.region3 s n l1 l2 l3 w W0 tl g1 g2 CM CI CB Q hS0 H)
/-- A row of bools. -/
def covA (f : Nat → Bool) (n : Nat) : Array Value := ((List.range n).map fun i => Value.bool (f i)).toArray
theorem covA_size (f : Nat → Bool) (n : Nat) : (covA f n).size = n := by simp [covA]
theorem covA_at (f : Nat → Bool) {n i : Nat} (h : i < n) : (covA f n)[i]? = some (Value.bool (f i)) := by
  simp [covA, h]
theorem covA_made (n : Nat) : madeCells #[Value.bool false] n = covA (fun _ => false) n := by
  refine Array.ext (by rw [size_madeCells, covA_size]) fun i h1 h2 => ?_
  have h : i < n := by rw [size_madeCells] at h1; exact h1
  have e := covA_at (fun _ => false) h
  rw [Array.getElem?_eq_getElem h2] at e
  rw [Option.some.inj e]
  simp [madeCells, Nat.mod_one]
theorem ev_makeRowIn {F : Fence} {n : Nat} {P : Program} {ops : Array Oper} {rest : List Oper} {o : Oper} {a : Act} {Q : Exit → Act → World → Prop} {W : World} {w : World} (HB : BelowH w W) (hgd : o.guard = none) (t e : TypeId) (x y : Operand) (c : Nat) (hop : o.op = .makeSlice t x y) (hx : a.eval x = .int .i64 (c : Int)) (hy : a.eval y = .int .i64 (c : Int))
    (h1 : P.underlying t = some (.slice e)) (hinfo : (P.info? e).map (fun i => (i.zero, i.size, i.bytes)) = some (some (.bool false), 1, 1)) (hb : c ≤ 281474976710656)
    (h : ∀ g w1, Aside0 (W.heap.size ≤ g) → Aside0 (w.heap.size ≤ g) → Blk w1 g (covA (fun _ => false) c) e → BelowH w w1 → Aside0 (Below W.heap.size W w1) → Aside0 (KeepsOthers W w1) → wpListIn F n P ops Q rest (a.put o.dst (.slice (some ⟨g, 0, none⟩) c c)) w1) : wpListIn F n P ops Q (o :: rest) a W := by
  have hr := run_make_row' (P := P) t e (.bool false) 1 h1 hinfo rfl .i64 .i64 c (by omega) (by omega) W
  rw [covA_made] at hr
  refine event_runIn (by simp [Oper.plainOp, hop]) hgd (v := .slice (some ⟨W.heap.size, 0, none⟩) c c) (w1 := W.alloc (.cells (covA (fun _ => false) c) e)) ?_ (h _ _ ⟨Nat.le_refl _⟩ ⟨HB.le⟩ ⟨blk_new W _⟩ (HB.step (below_alloc (Below.refl _ _) _)) ⟨below_alloc (Below.refl _ _) _⟩ ⟨KeepsOthers.alloc W _⟩)
  unfold execOp
  simp [hop, hx, hy, hr, Result.andThen]
theorem covA_congr {f g : Nat → Bool} {n : Nat} (h : ∀ i, i < n → f i = g i) : covA f n = covA g n := by
  unfold covA
  rw [List.map_congr_left fun i hi => by rw [h i (List.mem_range.1 hi)]]
theorem covA_set (f : Nat → Bool) (n i : Nat) : (covA f n).setIfInBounds i (.bool true) = covA (fun j => f j || decide (j = i)) n := by
  refine Array.ext (by simp [covA]) fun j h1 h2 => ?_
  have hj : j < n := by simpa [covA] using h2
  simp only [covA, Array.getElem_setIfInBounds, List.getElem_toArray, List.getElem_map, List.getElem_range]
  by_cases e : i = j
  · subst e
    simp
  · simp [e, Ne.symm e]
/-- The round of a word: the rows and the span. -/
structure MpW (s : ByteArray) (W3 : World) (gc g9 gb : Nat) (za zb : Int) (W : World) (cv : Nat → Bool) (wr : World) : Prop where mk ::
  bc : Blk wr gc (covA cv s.size) 4
  b9 : Blk wr g9 #[.slice (some ⟨gc, 0, none⟩) s.size s.size] 38
  bx : Blk wr gb #[.int .i64 za, .int .i64 zb] 26
  hb : BelowH W3 wr
  ko : KeepsOthers W wr
  same : ∀ k, k < W.heap.size → k ≠ gc → wr.heap[k]? = W.heap[k]?
  le : W.heap.size ≤ wr.heap.size
theorem MpW.put {s : ByteArray} {W3 : World} {gc g9 gb : Nat} {za zb : Int} {W : World} {cv cv' : Nat → Bool} {wr w1 : World} {i : Nat} (h : MpW s W3 gc g9 gb za zb W cv wr) (hc : ∀ j, j < s.size → (cv j || decide (j = i)) = cv' j) (B : Blk w1 gc ((covA cv s.size).setIfInBounds i (.bool true)) 4) (HB : BelowH W3 w1)
    (K : Aside0 (wr.heap.size ≤ w1.heap.size ∧ ∀ k, k ≠ gc → w1.heap[k]? = wr.heap[k]?)) (KO : Aside0 (KeepsOthers wr w1)) (h9 : g9 ≠ gc) (hx : gb ≠ gc) : MpW s W3 gc g9 gb za zb W cv' w1 :=
  ⟨by rw [covA_set, covA_congr hc] at B; exact B, h.b9.other K h9, h.bx.other K hx, HB, h.ko.trans KO.out, fun k h1 h2 => (K.out.2 k h2).trans (h.same k h1 h2), Nat.le_trans h.le K.out.1⟩
/-- What stands ahead of a round of the main loop. -/
structure MpI (s : ByteArray) (W3 : World) (gc g9 : Nat) (cv : Nat → Bool) (v6 v7 : Value) (xs ys : List Value) (W : World) : Prop where mk ::
  bc : Blk W gc (covA cv s.size) 4
  b9 : Blk W g9 #[.slice (some ⟨gc, 0, none⟩) s.size s.size] 38
  r6 : W.ownsRow W3.heap.size 3 1 v6 xs.length xs
  r7 : W.ownsRow W3.heap.size 5 1 v7 ys.length ys
  hb : BelowH W3 W
section
variable {s : ByteArray} {W3 : World} {gc g9 : Nat} {cv : Nat → Bool} {v6 v7 v : Value} {xs ys : List Value} {u : Value} {W W' : World}
theorem MpI.below (h : MpI s W3 gc g9 cv v6 v7 xs ys W) (hb : Below W.heap.size W W') : MpI s W3 gc g9 cv v6 v7 xs ys W' := ⟨h.bc.below hb, h.b9.below hb, row_below h.r6 hb, row_below h.r7 hb, h.hb.step hb⟩
theorem MpI.add6 (h : MpI s W3 gc g9 cv v6 v7 xs ys W) (hr : W'.ownsRow W3.heap.size 3 1 v (xs.length + 1) (xs ++ [u])) (HB : BelowH W3 W') (K : Aside0 (W.heap.size ≤ W'.heap.size ∧ ∀ j, j < W.heap.size → some j ≠ v6.ownBlock → W'.heap[j]? = W.heap[j]?)) : MpI s W3 gc g9 cv v v7 (xs ++ [u]) ys W' :=
  ⟨h.bc.appendedN (by decide) h.r6 K, h.b9.appendedN (by decide) h.r6 K, by rw [List.length_append, List.length_singleton]; exact hr, row_appended h.r7 (by decide) h.r6 K, HB⟩
theorem MpI.add7 (h : MpI s W3 gc g9 cv v6 v7 xs ys W) (hr : W'.ownsRow W3.heap.size 5 1 v (ys.length + 1) (ys ++ [u])) (HB : BelowH W3 W') (K : Aside0 (W.heap.size ≤ W'.heap.size ∧ ∀ j, j < W.heap.size → some j ≠ v7.ownBlock → W'.heap[j]? = W.heap[j]?)) : MpI s W3 gc g9 cv v6 v xs (ys ++ [u]) W' :=
  ⟨h.bc.appendedN (by decide) h.r7 K, h.b9.appendedN (by decide) h.r7 K, row_appended h.r6 (by decide) h.r7 K, by rw [List.length_append, List.length_singleton]; exact hr, HB⟩
end
theorem rg_convY {ops : Array Oper} {P : Program} {S : World → Prop} {o : Oper} {a : Act} {v : Value} {t : ByteArray} (hw : Region.wanted o (yielded ops a.tmps) = true) (src dst : TypeId) (x : Operand) (ho : o.op = .convert src dst x) (hx : a.eval x = v) (hr : ∀ W, S W → (convert src dst v).run P W = .ok (.string t) W) : YieldsIf P ops S o (.string t) a :=
  .inl ⟨hw, fun W hS => by
    unfold execOp
    simp [ho, hx, hr W hS, Result.andThen]⟩
theorem gate_skipIn {F : Fence} {n : Nat} {P : Program} {ops : Array Oper} {Q : Exit → Act → World → Prop} {a : Act} {W : World} {rest : List Oper} {o : Oper} (HF : Aside0 (F = Fence.wide)) (hw : Region.wanted o (yielded ops a.tmps) = false) (h : wpListIn F n P ops Q rest (a.put o.dst undef) W) : wpListIn F n P ops Q (o :: rest) a W := by
  unfold wpListIn
  rw [if_neg (by simp [hw])]
  exact ⟨fun f _ => wide_fn HF f, h⟩
theorem act_in {K : Act → World → Prop} {a : Act} {w : World} (h : ∀ a', a' = a → K a' w) : K a w := h a rfl
def wasQ (f : Nat → Bool) : Nat → Bool
  | 0 => false
  | i + 1 => f i
def xsL (bg : Nat → Bool) (i : Nat) : List Int := ((List.range i).filter bg).map fun j : Nat => (j : Int)
def xsB (bg : Nat → Bool) (i : Nat) : List Value := (xsL bg i).map (Value.int .i64)
def ysB (s : ByteArray) (kb : Nat → Bool) (i : Nat) : List Value := ((List.range i).filter fun j => !kb j).map fun j : Nat => Value.int .u8 (bt s (j : Int))
theorem xsB_yes {bg : Nat → Bool} {i : Nat} (h : bg i = true) : xsB bg (i + 1) = xsB bg i ++ [Value.int .i64 (i : Int)] := by
  unfold xsB xsL
  rw [List.range_succ, List.filter_append, List.map_append, List.map_append]
  simp [h]
theorem xsB_no {bg : Nat → Bool} {i : Nat} (h : bg i = false) : xsB bg (i + 1) = xsB bg i := by
  unfold xsB xsL
  rw [List.range_succ, List.filter_append, List.map_append, List.map_append]
  simp [h]
theorem ysB_yes {s : ByteArray} {kb : Nat → Bool} {i : Nat} (h : kb i = true) : ysB s kb (i + 1) = ysB s kb i := by
  unfold ysB
  rw [List.range_succ, List.filter_append, List.map_append]
  simp [h]
theorem ysB_no {s : ByteArray} {kb : Nat → Bool} {i : Nat} (h : kb i = false) : ysB s kb (i + 1) = ysB s kb i ++ [Value.int .u8 (bt s (i : Int))] := by
  unfold ysB
  rw [List.range_succ, List.filter_append, List.map_append]
  simp [h]
theorem xsB_len (bg : Nat → Bool) (i : Nat) : (xsB bg i).length ≤ i := by
  unfold xsB xsL
  rw [List.length_map, List.length_map]
  exact Nat.le_trans (List.length_filter_le _ _) (by rw [List.length_range]; exact Nat.le_refl _)
theorem ysB_len (s : ByteArray) (kb : Nat → Bool) (i : Nat) : (ysB s kb i).length ≤ i := by
  unfold ysB
  rw [List.length_map]
  exact Nat.le_trans (List.length_filter_le _ _) (by rw [List.length_range]; exact Nat.le_refl _)
def MpR.ops26 : Array Oper := #[{ dst := some 105, op := Go.Op.load 34 (Go.Operand.tmp 3), type := 34, pos := "outright.go:58", after := #[], guard := none }, { dst := some 106, op := Go.Op.move (Go.Operand.tmp 13), type := 3, pos := "outright.go:58", after := #[], guard := none }, { dst := some 107, op := Go.Op.call { callee := Go.Callee.value (Go.Operand.func 23), args := #[Go.Operand.tmp 105, Go.Operand.tmp 106], argTypes := #[34, 3] }, type := 4, pos := "outright.go:58", after := #[{ on := 0, ground := Go.Ground.data }, { on := 1, ground := Go.Ground.data }], guard := none }, { dst := some 108, op := Go.Op.unOp Go.UnOp.not 4 (Go.Operand.tmp 107), type := 4, pos := "outright.go:58", after := #[{ on := 2, ground := Go.Ground.data }], guard := none }, { dst := some 109, op := Go.Op.move (Go.Operand.tmp 108), type := 4, pos := "outright.go:58", after := #[{ on := 3, ground := Go.Ground.data }, { on := 2, ground := Go.Ground.chain }], guard := none }, { dst := some 110, op := Go.Op.load 34 (Go.Operand.tmp 4), type := 34, pos := "outright.go:58", after := #[{ on := 4, ground := Go.Ground.guard }], guard := some (4, true) }, { dst := some 111, op := Go.Op.move (Go.Operand.tmp 13), type := 3, pos := "outright.go:58", after := #[{ on := 4, ground := Go.Ground.guard }], guard := some (4, true) }, { dst := some 112, op := Go.Op.call { callee := Go.Callee.value (Go.Operand.func 23), args := #[Go.Operand.tmp 110, Go.Operand.tmp 111], argTypes := #[34, 3] }, type := 4, pos := "outright.go:58", after := #[{ on := 5, ground := Go.Ground.data }, { on := 6, ground := Go.Ground.data }, { on := 4, ground := Go.Ground.chain }, { on := 4, ground := Go.Ground.guard }], guard := some (4, true) }, { dst := some 113, op := Go.Op.unOp Go.UnOp.not 4 (Go.Operand.tmp 112), type := 4, pos := "outright.go:58", after := #[{ on := 7, ground := Go.Ground.data }, { on := 4, ground := Go.Ground.guard }], guard := some (4, true) }, { dst := some 114, op := Go.Op.pick (Go.Operand.tmp 109) (Go.Operand.tmp 113) (Go.Operand.const (Go.Value.bool false)), type := 4, pos := "outright.go:58", after := #[{ on := 4, ground := Go.Ground.data }, { on := 8, ground := Go.Ground.data }], guard := none }, { dst := some 14, op := Go.Op.assign (Go.Operand.tmp 114), type := 4, pos := "outright.go:58", after := #[{ on := 9, ground := Go.Ground.data }, { on := 7, ground := Go.Ground.chain }, { on := 0, ground := Go.Ground.phase }, { on := 1, ground := Go.Ground.phase }, { on := 2, ground := Go.Ground.phase }, { on := 3, ground := Go.Ground.phase }, { on := 4, ground := Go.Ground.phase }, { on := 5, ground := Go.Ground.phase }, { on := 6, ground := Go.Ground.phase }, { on := 7, ground := Go.Ground.phase }, { on := 8, ground := Go.Ground.phase }, { on := 9, ground := Go.Ground.phase }], guard := none }]
set_option maxHeartbeats 8000000 in
set_option maxRecDepth 100000 in
theorem MpR.reg26 {F : Fence} (HF : Aside0 (F = Fence.wide)) {u0 u1 u2 u5 u6 u7 u8 u9 u10 u11 u12 u14 u15 u16 u17 u18 u19 u20 u21 u22 u23 u24 u25 u26 u27 u28 u29 u30 u31 u32 u33 u34 u35 u36 u37 u38 u39 u40 u41 u42 u43 u44 u45 u46 u47 u48 u49 u50 u51 u52 u53 u54 u55 u56 u57 u58 u59 u60 u61 u62 u63 u64 u65 u66 u67 u68 u69 u70 u71 u72 u73 u74 u75 u76 u77 u78 u79 u80 u81 u82 u83 u84 u85 u86 u87 u88 u89 u90 u91 u92 u93 u94 u95 u96 u97 u98 u99 u100 u101 u102 u103 u104 u105 u106 u107 u108 u109 u110 u111 u112 u113 u114 u115 u116 u117 u118 u119 u120 u121 u122 u123 u124 u125 u126 u127 u128 u129 u130 u131 u132 u133 u134 u135 u136 u137 u138 u139 u140 u141 u142 u143 u144 u145 u146 u147 u148 u149 u150 u151 u152 u153 u154 u155 u156 u157 u158 u159 u160 u161 u162 u163 u164 u165 u166 u167 u168 u169 u170 u171 u172 u173 u174 u175 u176 u177 u178 u179 u180 u181 u182 u183 u184 u185 u186 u187 u188 u189 u190 u191 u192 u193 u194 u195 u196 u197 u198 u199 u200 u201 u202 u203 u204 u205 u206 u207 u208 u209 u210 u211 u212 u213 u214 u215 u216 u217 u218 u219 u220 u221 u222 u223 u224 u225 u226 : Value} {ds : List Deferred} (s : ByteArray) (i : Nat) {g3 g4 : Nat} {A1 A2 : Option Addr} {k1 k2 : Nat} {l1 l2 : List Int} (mb ib ob : Bool)
    (Q : Exit → Act → World → Prop) (W : World) (B3 : Blk W g3 #[.int .i64 s.size, .slice A1 l1.length k1] 34) (B4 : Blk W g4 #[.int .i64 s.size, .slice A2 l2.length k2] 34) (GM : Aside0 (∀ W', Below W.heap.size W W' → Calls Tryd.prog 23 #[.agg #[.int .i64 s.size, .slice A1 l1.length k1], .int .i64 (i : Int)] W' fun e w' => e = .returned (.bool mb) ∧ Below W'.heap.size W' w')) (GI : Aside0 (∀ W', Below W.heap.size W W' → Calls Tryd.prog 23 #[.agg #[.int .i64 s.size, .slice A2 l2.length k2], .int .i64 (i : Int)] W' fun e w' => e = .returned (.bool ib) ∧ Below W'.heap.size W' w')) (HOB : ob = (!mb && !ib))
    (H : Aside0 (∀ (x105 x106 x107 x108 x109 x110 x111 x112 x113 x114 : Value) (W' : World), Below W.heap.size W W' → Q .normal { tmps := (u0 :: u1 :: u2 :: (.pointer (some ⟨g3, 0, none⟩) : Value) :: (.pointer (some ⟨g4, 0, none⟩) : Value) :: u5 :: u6 :: u7 :: u8 :: u9 :: u10 :: u11 :: u12 :: (.int .i64 (i : Int) : Value) :: (.bool ob : Value) :: u15 :: u16 :: u17 :: u18 :: u19 :: u20 :: u21 :: u22 :: u23 :: u24 :: u25 :: u26 :: u27 :: u28 :: u29 :: u30 :: u31 :: u32 :: u33 :: u34 :: u35 :: u36 :: u37 :: u38 :: u39 :: u40 :: u41 :: u42 :: u43 :: u44 :: u45 :: u46 :: u47 :: u48 :: u49 :: u50 :: u51 :: u52 :: u53 :: u54 :: u55 :: u56 :: u57 :: u58 :: u59 :: u60 :: u61 :: u62 :: u63 :: u64 :: u65 :: u66 :: u67 :: u68 :: u69 :: u70 :: u71 :: u72 :: u73 :: u74 :: u75 :: u76 :: u77 :: u78 :: u79 :: u80 :: u81 :: u82 :: u83 :: u84 :: u85 :: u86 :: u87 :: u88 :: u89 :: u90 :: u91 :: u92 :: u93 :: u94 :: u95 :: u96 :: u97 :: u98 :: u99 :: u100 :: u101 :: u102 :: u103 :: u104 :: (x105 : Value) :: (x106 : Value) :: (x107 : Value) :: (x108 : Value) :: (x109 : Value) :: (x110 : Value) :: (x111 : Value) :: (x112 : Value) :: (x113 : Value) :: (x114 : Value) :: u115 :: u116 :: u117 :: u118 :: u119 :: u120 :: u121 :: u122 :: u123 :: u124 :: u125 :: u126 :: u127 :: u128 :: u129 :: u130 :: u131 :: u132 :: u133 :: u134 :: u135 :: u136 :: u137 :: u138 :: u139 :: u140 :: u141 :: u142 :: u143 :: u144 :: u145 :: u146 :: u147 :: u148 :: u149 :: u150 :: u151 :: u152 :: u153 :: u154 :: u155 :: u156 :: u157 :: u158 :: u159 :: u160 :: u161 :: u162 :: u163 :: u164 :: u165 :: u166 :: u167 :: u168 :: u169 :: u170 :: u171 :: u172 :: u173 :: u174 :: u175 :: u176 :: u177 :: u178 :: u179 :: u180 :: u181 :: u182 :: u183 :: u184 :: u185 :: u186 :: u187 :: u188 :: u189 :: u190 :: u191 :: u192 :: u193 :: u194 :: u195 :: u196 :: u197 :: u198 :: u199 :: u200 :: u201 :: u202 :: u203 :: u204 :: u205 :: u206 :: u207 :: u208 :: u209 :: u210 :: u211 :: u212 :: u213 :: u214 :: u215 :: u216 :: u217 :: u218 :: u219 :: u220 :: u221 :: u222 :: u223 :: u224 :: u225 :: u226 :: []).toArray, defers := ds } W')) :
    (Code.region 26 MpR.ops26 false).wpIn F 9 Tryd.prog Q { tmps := (u0 :: u1 :: u2 :: (.pointer (some ⟨g3, 0, none⟩) : Value) :: (.pointer (some ⟨g4, 0, none⟩) : Value) :: u5 :: u6 :: u7 :: u8 :: u9 :: u10 :: u11 :: u12 :: (.int .i64 (i : Int) : Value) :: u14 :: u15 :: u16 :: u17 :: u18 :: u19 :: u20 :: u21 :: u22 :: u23 :: u24 :: u25 :: u26 :: u27 :: u28 :: u29 :: u30 :: u31 :: u32 :: u33 :: u34 :: u35 :: u36 :: u37 :: u38 :: u39 :: u40 :: u41 :: u42 :: u43 :: u44 :: u45 :: u46 :: u47 :: u48 :: u49 :: u50 :: u51 :: u52 :: u53 :: u54 :: u55 :: u56 :: u57 :: u58 :: u59 :: u60 :: u61 :: u62 :: u63 :: u64 :: u65 :: u66 :: u67 :: u68 :: u69 :: u70 :: u71 :: u72 :: u73 :: u74 :: u75 :: u76 :: u77 :: u78 :: u79 :: u80 :: u81 :: u82 :: u83 :: u84 :: u85 :: u86 :: u87 :: u88 :: u89 :: u90 :: u91 :: u92 :: u93 :: u94 :: u95 :: u96 :: u97 :: u98 :: u99 :: u100 :: u101 :: u102 :: u103 :: u104 :: u105 :: u106 :: u107 :: u108 :: u109 :: u110 :: u111 :: u112 :: u113 :: u114 :: u115 :: u116 :: u117 :: u118 :: u119 :: u120 :: u121 :: u122 :: u123 :: u124 :: u125 :: u126 :: u127 :: u128 :: u129 :: u130 :: u131 :: u132 :: u133 :: u134 :: u135 :: u136 :: u137 :: u138 :: u139 :: u140 :: u141 :: u142 :: u143 :: u144 :: u145 :: u146 :: u147 :: u148 :: u149 :: u150 :: u151 :: u152 :: u153 :: u154 :: u155 :: u156 :: u157 :: u158 :: u159 :: u160 :: u161 :: u162 :: u163 :: u164 :: u165 :: u166 :: u167 :: u168 :: u169 :: u170 :: u171 :: u172 :: u173 :: u174 :: u175 :: u176 :: u177 :: u178 :: u179 :: u180 :: u181 :: u182 :: u183 :: u184 :: u185 :: u186 :: u187 :: u188 :: u189 :: u190 :: u191 :: u192 :: u193 :: u194 :: u195 :: u196 :: u197 :: u198 :: u199 :: u200 :: u201 :: u202 :: u203 :: u204 :: u205 :: u206 :: u207 :: u208 :: u209 :: u210 :: u211 :: u212 :: u213 :: u214 :: u215 :: u216 :: u217 :: u218 :: u219 :: u220 :: u221 :: u222 :: u223 :: u224 :: u225 :: u226 :: []).toArray, defers := ds } W := by
  unfold MpR.ops26
  have hro := wide_round HF
  have f6 := wide_fn HF 22
  have f7 := wide_fn HF 21
  have f10 := wide_fn HF 23
  have f11 := wide_fn HF 24
  have HK := Aside0.mk (Below.refl W.heap.size W)
  subst HOB
  have c30 := (B3.below HK.out).cell (i := 0) rfl; have c31 := (B3.below HK.out).cell (i := 1) rfl
  cases mb with
  | true =>
    gi_wp2_with (first
      | (gi_at_call 23; refine (callsIn_of HF (GM.out _ HK.out)).mono ?_; rintro e wk ⟨rfl, hb⟩; clear c30 c31; have HKn := Aside0.mk (HK.out.trans (hb.mono HK.out.size)); clear HK hb; have HK := HKn; clear HKn; skip))
    exact H.out _ _ _ _ _ _ _ _ _ _ _ HK.out
  | false =>
    have TK := Aside0.mk trivial
    gi_wp2_with (first
      | (gi_at_call 23; clear TK; refine (callsIn_of HF (GM.out _ HK.out)).mono ?_; rintro e wk ⟨rfl, hb⟩; clear c30 c31; have HKn := Aside0.mk (HK.out.trans (hb.mono HK.out.size)); clear HK hb; have HK := HKn; clear HKn; have c40 := (B4.below HK.out).cell (i := 0) rfl; have c41 := (B4.below HK.out).cell (i := 1) rfl)
      | (gi_at_call 23; refine (callsIn_of HF (GI.out _ HK.out)).mono ?_; rintro e wk ⟨rfl, hb⟩; clear c40 c41; have HKn := Aside0.mk (HK.out.trans (hb.mono HK.out.size)); clear HK hb; have HK := HKn; clear HKn; skip))
    exact H.out _ _ _ _ _ _ _ _ _ _ _ HK.out
def MpR.ops27 : Array Oper := #[{ dst := some 115, op := Go.Op.move (Go.Operand.tmp 14), type := 4, pos := "outright.go:59", after := #[], guard := none }, { dst := some 116, op := Go.Op.move (Go.Operand.tmp 115), type := 4, pos := "outright.go:59", after := #[{ on := 0, ground := Go.Ground.data }], guard := none }, { dst := some 117, op := Go.Op.load 9 (Go.Operand.tmp 1), type := 9, pos := "outright.go:59", after := #[{ on := 1, ground := Go.Ground.guard }], guard := some (1, true) }, { dst := some 118, op := Go.Op.move (Go.Operand.tmp 13), type := 3, pos := "outright.go:59", after := #[{ on := 1, ground := Go.Ground.guard }], guard := some (1, true) }, { dst := some 119, op := Go.Op.index 9 (Go.Operand.tmp 117) (Go.Operand.tmp 118), type := 5, pos := "outright.go:59", after := #[{ on := 2, ground := Go.Ground.data }, { on := 3, ground := Go.Ground.data }, { on := 1, ground := Go.Ground.guard }], guard := some (1, true) }, { dst := some 120, op := Go.Op.binOp Go.BinOp.eql 5 (Go.Operand.tmp 119) (Go.Operand.const (Go.Value.int Go.IntKind.u8 32)) 5, type := 4, pos := "outright.go:59", after := #[{ on := 4, ground := Go.Ground.data }, { on := 1, ground := Go.Ground.guard }], guard := some (1, true) }, { dst := some 121, op := Go.Op.move (Go.Operand.tmp 120), type := 4, pos := "outright.go:59", after := #[{ on := 5, ground := Go.Ground.data }, { on := 1, ground := Go.Ground.chain }, { on := 1, ground := Go.Ground.guard }], guard := some (1, true) }, { dst := some 122, op := Go.Op.load 9 (Go.Operand.tmp 1), type := 9, pos := "outright.go:59", after := #[{ on := 6, ground := Go.Ground.guard }], guard := some (6, false) }, { dst := some 123, op := Go.Op.move (Go.Operand.tmp 13), type := 3, pos := "outright.go:59", after := #[{ on := 6, ground := Go.Ground.guard }], guard := some (6, false) }, { dst := some 124, op := Go.Op.index 9 (Go.Operand.tmp 122) (Go.Operand.tmp 123), type := 5, pos := "outright.go:59", after := #[{ on := 7, ground := Go.Ground.data }, { on := 8, ground := Go.Ground.data }, { on := 6, ground := Go.Ground.guard }], guard := some (6, false) }, { dst := some 125, op := Go.Op.binOp Go.BinOp.eql 5 (Go.Operand.tmp 124) (Go.Operand.const (Go.Value.int Go.IntKind.u8 9)) 5, type := 4, pos := "outright.go:59", after := #[{ on := 9, ground := Go.Ground.data }, { on := 6, ground := Go.Ground.guard }], guard := some (6, false) }, { dst := some 126, op := Go.Op.pick (Go.Operand.tmp 121) (Go.Operand.const (Go.Value.bool true)) (Go.Operand.tmp 125), type := 4, pos := "outright.go:59", after := #[{ on := 6, ground := Go.Ground.data }, { on := 10, ground := Go.Ground.data }, { on := 1, ground := Go.Ground.guard }], guard := some (1, true) }, { dst := some 127, op := Go.Op.move (Go.Operand.tmp 126), type := 4, pos := "outright.go:59", after := #[{ on := 11, ground := Go.Ground.data }, { on := 6, ground := Go.Ground.chain }, { on := 1, ground := Go.Ground.guard }], guard := some (1, true) }, { dst := some 128, op := Go.Op.load 9 (Go.Operand.tmp 1), type := 9, pos := "outright.go:59", after := #[{ on := 12, ground := Go.Ground.guard }], guard := some (12, false) }, { dst := some 129, op := Go.Op.move (Go.Operand.tmp 13), type := 3, pos := "outright.go:59", after := #[{ on := 12, ground := Go.Ground.guard }], guard := some (12, false) }, { dst := some 130, op := Go.Op.index 9 (Go.Operand.tmp 128) (Go.Operand.tmp 129), type := 5, pos := "outright.go:59", after := #[{ on := 13, ground := Go.Ground.data }, { on := 14, ground := Go.Ground.data }, { on := 12, ground := Go.Ground.guard }], guard := some (12, false) }, { dst := some 131, op := Go.Op.binOp Go.BinOp.eql 5 (Go.Operand.tmp 130) (Go.Operand.const (Go.Value.int Go.IntKind.u8 10)) 5, type := 4, pos := "outright.go:59", after := #[{ on := 15, ground := Go.Ground.data }, { on := 12, ground := Go.Ground.guard }], guard := some (12, false) }, { dst := some 132, op := Go.Op.pick (Go.Operand.tmp 127) (Go.Operand.const (Go.Value.bool true)) (Go.Operand.tmp 131), type := 4, pos := "outright.go:59", after := #[{ on := 12, ground := Go.Ground.data }, { on := 16, ground := Go.Ground.data }, { on := 1, ground := Go.Ground.guard }], guard := some (1, true) }, { dst := some 133, op := Go.Op.move (Go.Operand.tmp 132), type := 4, pos := "outright.go:59", after := #[{ on := 17, ground := Go.Ground.data }, { on := 12, ground := Go.Ground.chain }, { on := 1, ground := Go.Ground.guard }], guard := some (1, true) }, { dst := some 134, op := Go.Op.load 9 (Go.Operand.tmp 1), type := 9, pos := "outright.go:59", after := #[{ on := 18, ground := Go.Ground.guard }], guard := some (18, false) }, { dst := some 135, op := Go.Op.move (Go.Operand.tmp 13), type := 3, pos := "outright.go:59", after := #[{ on := 18, ground := Go.Ground.guard }], guard := some (18, false) }, { dst := some 136, op := Go.Op.index 9 (Go.Operand.tmp 134) (Go.Operand.tmp 135), type := 5, pos := "outright.go:59", after := #[{ on := 19, ground := Go.Ground.data }, { on := 20, ground := Go.Ground.data }, { on := 18, ground := Go.Ground.guard }], guard := some (18, false) }, { dst := some 137, op := Go.Op.binOp Go.BinOp.eql 5 (Go.Operand.tmp 136) (Go.Operand.const (Go.Value.int Go.IntKind.u8 13)) 5, type := 4, pos := "outright.go:59", after := #[{ on := 21, ground := Go.Ground.data }, { on := 18, ground := Go.Ground.guard }], guard := some (18, false) }, { dst := some 138, op := Go.Op.pick (Go.Operand.tmp 133) (Go.Operand.const (Go.Value.bool true)) (Go.Operand.tmp 137), type := 4, pos := "outright.go:59", after := #[{ on := 18, ground := Go.Ground.data }, { on := 22, ground := Go.Ground.data }, { on := 1, ground := Go.Ground.guard }], guard := some (1, true) }, { dst := some 139, op := Go.Op.pick (Go.Operand.tmp 116) (Go.Operand.tmp 138) (Go.Operand.const (Go.Value.bool false)), type := 4, pos := "outright.go:59", after := #[{ on := 1, ground := Go.Ground.data }, { on := 23, ground := Go.Ground.data }], guard := none }, { dst := some 15, op := Go.Op.assign (Go.Operand.tmp 139), type := 4, pos := "outright.go:59", after := #[{ on := 24, ground := Go.Ground.data }, { on := 18, ground := Go.Ground.chain }, { on := 0, ground := Go.Ground.phase }, { on := 1, ground := Go.Ground.phase }, { on := 2, ground := Go.Ground.phase }, { on := 3, ground := Go.Ground.phase }, { on := 4, ground := Go.Ground.phase }, { on := 5, ground := Go.Ground.phase }, { on := 6, ground := Go.Ground.phase }, { on := 7, ground := Go.Ground.phase }, { on := 8, ground := Go.Ground.phase }, { on := 9, ground := Go.Ground.phase }, { on := 10, ground := Go.Ground.phase }, { on := 11, ground := Go.Ground.phase }, { on := 12, ground := Go.Ground.phase }, { on := 13, ground := Go.Ground.phase }, { on := 14, ground := Go.Ground.phase }, { on := 15, ground := Go.Ground.phase }, { on := 16, ground := Go.Ground.phase }, { on := 17, ground := Go.Ground.phase }, { on := 18, ground := Go.Ground.phase }, { on := 19, ground := Go.Ground.phase }, { on := 20, ground := Go.Ground.phase }, { on := 21, ground := Go.Ground.phase }, { on := 22, ground := Go.Ground.phase }, { on := 23, ground := Go.Ground.phase }, { on := 24, ground := Go.Ground.phase }], guard := none }]
set_option maxHeartbeats 8000000 in
set_option maxRecDepth 100000 in
theorem MpR.reg27 {F : Fence} (HF : Aside0 (F = Fence.wide)) {u0 u2 u3 u4 u5 u6 u7 u8 u9 u10 u11 u12 u15 u16 u17 u18 u19 u20 u21 u22 u23 u24 u25 u26 u27 u28 u29 u30 u31 u32 u33 u34 u35 u36 u37 u38 u39 u40 u41 u42 u43 u44 u45 u46 u47 u48 u49 u50 u51 u52 u53 u54 u55 u56 u57 u58 u59 u60 u61 u62 u63 u64 u65 u66 u67 u68 u69 u70 u71 u72 u73 u74 u75 u76 u77 u78 u79 u80 u81 u82 u83 u84 u85 u86 u87 u88 u89 u90 u91 u92 u93 u94 u95 u96 u97 u98 u99 u100 u101 u102 u103 u104 u105 u106 u107 u108 u109 u110 u111 u112 u113 u114 u115 u116 u117 u118 u119 u120 u121 u122 u123 u124 u125 u126 u127 u128 u129 u130 u131 u132 u133 u134 u135 u136 u137 u138 u139 u140 u141 u142 u143 u144 u145 u146 u147 u148 u149 u150 u151 u152 u153 u154 u155 u156 u157 u158 u159 u160 u161 u162 u163 u164 u165 u166 u167 u168 u169 u170 u171 u172 u173 u174 u175 u176 u177 u178 u179 u180 u181 u182 u183 u184 u185 u186 u187 u188 u189 u190 u191 u192 u193 u194 u195 u196 u197 u198 u199 u200 u201 u202 u203 u204 u205 u206 u207 u208 u209 u210 u211 u212 u213 u214 u215 u216 u217 u218 u219 u220 u221 u222 u223 u224 u225 u226 : Value} {ds : List Deferred} (s : ByteArray) (i : Nat) (cz : Int) {g1 : Nat} (ob kk : Bool)
    (Q : Exit → Act → World → Prop) (W : World) (B1 : Blk W g1 #[.string s] 9) (hq2 : (0 : Int) ≤ (i : Int)) (hq1 : (i : Int) < (s.size : Int)) (hby : ∀ h : i < s.size, ((s[i]'h).toNat : Int) = cz) (HKK2 : kk = (ob && (cz == 32 || cz == 9 || cz == 10 || cz == 13)))
    (H : Aside0 (∀ (x115 x116 x117 x118 x119 x120 x121 x122 x123 x124 x125 x126 x127 x128 x129 x130 x131 x132 x133 x134 x135 x136 x137 x138 x139 : Value) (W' : World), Below W.heap.size W W' → Q .normal { tmps := (u0 :: (.pointer (some ⟨g1, 0, none⟩) : Value) :: u2 :: u3 :: u4 :: u5 :: u6 :: u7 :: u8 :: u9 :: u10 :: u11 :: u12 :: (.int .i64 (i : Int) : Value) :: (.bool ob : Value) :: (.bool kk : Value) :: u16 :: u17 :: u18 :: u19 :: u20 :: u21 :: u22 :: u23 :: u24 :: u25 :: u26 :: u27 :: u28 :: u29 :: u30 :: u31 :: u32 :: u33 :: u34 :: u35 :: u36 :: u37 :: u38 :: u39 :: u40 :: u41 :: u42 :: u43 :: u44 :: u45 :: u46 :: u47 :: u48 :: u49 :: u50 :: u51 :: u52 :: u53 :: u54 :: u55 :: u56 :: u57 :: u58 :: u59 :: u60 :: u61 :: u62 :: u63 :: u64 :: u65 :: u66 :: u67 :: u68 :: u69 :: u70 :: u71 :: u72 :: u73 :: u74 :: u75 :: u76 :: u77 :: u78 :: u79 :: u80 :: u81 :: u82 :: u83 :: u84 :: u85 :: u86 :: u87 :: u88 :: u89 :: u90 :: u91 :: u92 :: u93 :: u94 :: u95 :: u96 :: u97 :: u98 :: u99 :: u100 :: u101 :: u102 :: u103 :: u104 :: u105 :: u106 :: u107 :: u108 :: u109 :: u110 :: u111 :: u112 :: u113 :: u114 :: (x115 : Value) :: (x116 : Value) :: (x117 : Value) :: (x118 : Value) :: (x119 : Value) :: (x120 : Value) :: (x121 : Value) :: (x122 : Value) :: (x123 : Value) :: (x124 : Value) :: (x125 : Value) :: (x126 : Value) :: (x127 : Value) :: (x128 : Value) :: (x129 : Value) :: (x130 : Value) :: (x131 : Value) :: (x132 : Value) :: (x133 : Value) :: (x134 : Value) :: (x135 : Value) :: (x136 : Value) :: (x137 : Value) :: (x138 : Value) :: (x139 : Value) :: u140 :: u141 :: u142 :: u143 :: u144 :: u145 :: u146 :: u147 :: u148 :: u149 :: u150 :: u151 :: u152 :: u153 :: u154 :: u155 :: u156 :: u157 :: u158 :: u159 :: u160 :: u161 :: u162 :: u163 :: u164 :: u165 :: u166 :: u167 :: u168 :: u169 :: u170 :: u171 :: u172 :: u173 :: u174 :: u175 :: u176 :: u177 :: u178 :: u179 :: u180 :: u181 :: u182 :: u183 :: u184 :: u185 :: u186 :: u187 :: u188 :: u189 :: u190 :: u191 :: u192 :: u193 :: u194 :: u195 :: u196 :: u197 :: u198 :: u199 :: u200 :: u201 :: u202 :: u203 :: u204 :: u205 :: u206 :: u207 :: u208 :: u209 :: u210 :: u211 :: u212 :: u213 :: u214 :: u215 :: u216 :: u217 :: u218 :: u219 :: u220 :: u221 :: u222 :: u223 :: u224 :: u225 :: u226 :: []).toArray, defers := ds } W')) :
    (Code.region 27 MpR.ops27 false).wpIn F 9 Tryd.prog Q { tmps := (u0 :: (.pointer (some ⟨g1, 0, none⟩) : Value) :: u2 :: u3 :: u4 :: u5 :: u6 :: u7 :: u8 :: u9 :: u10 :: u11 :: u12 :: (.int .i64 (i : Int) : Value) :: (.bool ob : Value) :: u15 :: u16 :: u17 :: u18 :: u19 :: u20 :: u21 :: u22 :: u23 :: u24 :: u25 :: u26 :: u27 :: u28 :: u29 :: u30 :: u31 :: u32 :: u33 :: u34 :: u35 :: u36 :: u37 :: u38 :: u39 :: u40 :: u41 :: u42 :: u43 :: u44 :: u45 :: u46 :: u47 :: u48 :: u49 :: u50 :: u51 :: u52 :: u53 :: u54 :: u55 :: u56 :: u57 :: u58 :: u59 :: u60 :: u61 :: u62 :: u63 :: u64 :: u65 :: u66 :: u67 :: u68 :: u69 :: u70 :: u71 :: u72 :: u73 :: u74 :: u75 :: u76 :: u77 :: u78 :: u79 :: u80 :: u81 :: u82 :: u83 :: u84 :: u85 :: u86 :: u87 :: u88 :: u89 :: u90 :: u91 :: u92 :: u93 :: u94 :: u95 :: u96 :: u97 :: u98 :: u99 :: u100 :: u101 :: u102 :: u103 :: u104 :: u105 :: u106 :: u107 :: u108 :: u109 :: u110 :: u111 :: u112 :: u113 :: u114 :: u115 :: u116 :: u117 :: u118 :: u119 :: u120 :: u121 :: u122 :: u123 :: u124 :: u125 :: u126 :: u127 :: u128 :: u129 :: u130 :: u131 :: u132 :: u133 :: u134 :: u135 :: u136 :: u137 :: u138 :: u139 :: u140 :: u141 :: u142 :: u143 :: u144 :: u145 :: u146 :: u147 :: u148 :: u149 :: u150 :: u151 :: u152 :: u153 :: u154 :: u155 :: u156 :: u157 :: u158 :: u159 :: u160 :: u161 :: u162 :: u163 :: u164 :: u165 :: u166 :: u167 :: u168 :: u169 :: u170 :: u171 :: u172 :: u173 :: u174 :: u175 :: u176 :: u177 :: u178 :: u179 :: u180 :: u181 :: u182 :: u183 :: u184 :: u185 :: u186 :: u187 :: u188 :: u189 :: u190 :: u191 :: u192 :: u193 :: u194 :: u195 :: u196 :: u197 :: u198 :: u199 :: u200 :: u201 :: u202 :: u203 :: u204 :: u205 :: u206 :: u207 :: u208 :: u209 :: u210 :: u211 :: u212 :: u213 :: u214 :: u215 :: u216 :: u217 :: u218 :: u219 :: u220 :: u221 :: u222 :: u223 :: u224 :: u225 :: u226 :: []).toArray, defers := ds } W := by
  unfold MpR.ops27
  have hro := wide_round HF
  have f6 := wide_fn HF 22
  have f7 := wide_fn HF 21
  have f10 := wide_fn HF 23
  have f11 := wide_fn HF 24
  have HK := Aside0.mk (Below.refl W.heap.size W)
  subst HKK2
  have c1 := B1.cell (i := 0) rfl
  cases ob with
  | false =>
    gi_wp2
    exact H.out _ _ _ _ _ _ _ _ _ _ _ _ _ _ _ _ _ _ _ _ _ _ _ _ _ _ HK.out
  | true =>
    by_cases h32 : cz = 32
    · have e32 : (cz == 32) = true := beq_iff_eq.mpr h32
      have ek : (true && (cz == 32 || cz == 9 || cz == 10 || cz == 13)) = true := by simp [e32]
      rw [ek] at H
      clear h32 ek
      gi_wp2
      exact H.out _ _ _ _ _ _ _ _ _ _ _ _ _ _ _ _ _ _ _ _ _ _ _ _ _ _ HK.out
    have e32 : (cz == 32) = false := beq_eq_false_iff_ne.mpr h32
    clear h32
    by_cases h9 : cz = 9
    · have e9 : (cz == 9) = true := beq_iff_eq.mpr h9
      have ek : (true && (cz == 32 || cz == 9 || cz == 10 || cz == 13)) = true := by simp [e32, e9]
      rw [ek] at H
      clear h9 ek
      gi_wp2
      exact H.out _ _ _ _ _ _ _ _ _ _ _ _ _ _ _ _ _ _ _ _ _ _ _ _ _ _ HK.out
    have e9 : (cz == 9) = false := beq_eq_false_iff_ne.mpr h9
    clear h9
    by_cases h10 : cz = 10
    · have e10 : (cz == 10) = true := beq_iff_eq.mpr h10
      have ek : (true && (cz == 32 || cz == 9 || cz == 10 || cz == 13)) = true := by simp [e32, e9, e10]
      rw [ek] at H
      clear h10 ek
      gi_wp2
      exact H.out _ _ _ _ _ _ _ _ _ _ _ _ _ _ _ _ _ _ _ _ _ _ _ _ _ _ HK.out
    have e10 : (cz == 10) = false := beq_eq_false_iff_ne.mpr h10
    clear h10
    by_cases h13 : cz = 13
    · have e13 : (cz == 13) = true := beq_iff_eq.mpr h13
      have ek : (true && (cz == 32 || cz == 9 || cz == 10 || cz == 13)) = true := by simp [e32, e9, e10, e13]
      rw [ek] at H
      clear h13 ek
      gi_wp2
      exact H.out _ _ _ _ _ _ _ _ _ _ _ _ _ _ _ _ _ _ _ _ _ _ _ _ _ _ HK.out
    have e13 : (cz == 13) = false := beq_eq_false_iff_ne.mpr h13
    clear h13
    have ek : (true && (cz == 32 || cz == 9 || cz == 10 || cz == 13)) = false := by simp [e32, e9, e10, e13]
    rw [ek] at H
    clear ek
    gi_wp2
    exact H.out _ _ _ _ _ _ _ _ _ _ _ _ _ _ _ _ _ _ _ _ _ _ _ _ _ _ HK.out
def MpR.ops29 : Array Oper := #[{ dst := some 141, op := Go.Op.move (Go.Operand.tmp 14), type := 4, pos := "outright.go:61", after := #[], guard := none }, { dst := some 142, op := Go.Op.move (Go.Operand.tmp 141), type := 4, pos := "outright.go:61", after := #[{ on := 0, ground := Go.Ground.data }], guard := none }, { dst := some 143, op := Go.Op.move (Go.Operand.tmp 15), type := 4, pos := "outright.go:61", after := #[{ on := 1, ground := Go.Ground.guard }], guard := some (1, true) }, { dst := some 144, op := Go.Op.unOp Go.UnOp.not 4 (Go.Operand.tmp 143), type := 4, pos := "outright.go:61", after := #[{ on := 2, ground := Go.Ground.data }, { on := 1, ground := Go.Ground.guard }], guard := some (1, true) }, { dst := some 145, op := Go.Op.pick (Go.Operand.tmp 142) (Go.Operand.tmp 144) (Go.Operand.const (Go.Value.bool false)), type := 4, pos := "outright.go:61", after := #[{ on := 1, ground := Go.Ground.data }, { on := 3, ground := Go.Ground.data }], guard := none }, { dst := some 146, op := Go.Op.move (Go.Operand.tmp 145), type := 4, pos := "outright.go:61", after := #[{ on := 4, ground := Go.Ground.data }, { on := 1, ground := Go.Ground.chain }], guard := none }, { dst := some 147, op := Go.Op.load 9 (Go.Operand.tmp 1), type := 9, pos := "outright.go:61", after := #[{ on := 5, ground := Go.Ground.guard }], guard := some (5, true) }, { dst := some 148, op := Go.Op.move (Go.Operand.tmp 13), type := 3, pos := "outright.go:61", after := #[{ on := 5, ground := Go.Ground.guard }], guard := some (5, true) }, { dst := some 149, op := Go.Op.index 9 (Go.Operand.tmp 147) (Go.Operand.tmp 148), type := 5, pos := "outright.go:61", after := #[{ on := 6, ground := Go.Ground.data }, { on := 7, ground := Go.Ground.data }, { on := 5, ground := Go.Ground.guard }], guard := some (5, true) }, { dst := some 150, op := Go.Op.call { callee := Go.Callee.value (Go.Operand.func 24), args := #[Go.Operand.tmp 149], argTypes := #[5] }, type := 4, pos := "outright.go:61", after := #[{ on := 8, ground := Go.Ground.data }, { on := 5, ground := Go.Ground.chain }, { on := 5, ground := Go.Ground.guard }], guard := some (5, true) }, { dst := some 151, op := Go.Op.unOp Go.UnOp.not 4 (Go.Operand.tmp 150), type := 4, pos := "outright.go:61", after := #[{ on := 9, ground := Go.Ground.data }, { on := 5, ground := Go.Ground.guard }], guard := some (5, true) }, { dst := some 152, op := Go.Op.pick (Go.Operand.tmp 146) (Go.Operand.tmp 151) (Go.Operand.const (Go.Value.bool false)), type := 4, pos := "outright.go:61", after := #[{ on := 5, ground := Go.Ground.data }, { on := 10, ground := Go.Ground.data }], guard := none }, { dst := some 8, op := Go.Op.assign (Go.Operand.tmp 152), type := 4, pos := "outright.go:61", after := #[{ on := 11, ground := Go.Ground.data }, { on := 9, ground := Go.Ground.chain }, { on := 0, ground := Go.Ground.phase }, { on := 1, ground := Go.Ground.phase }, { on := 2, ground := Go.Ground.phase }, { on := 3, ground := Go.Ground.phase }, { on := 4, ground := Go.Ground.phase }, { on := 5, ground := Go.Ground.phase }, { on := 6, ground := Go.Ground.phase }, { on := 7, ground := Go.Ground.phase }, { on := 8, ground := Go.Ground.phase }, { on := 9, ground := Go.Ground.phase }, { on := 10, ground := Go.Ground.phase }, { on := 11, ground := Go.Ground.phase }], guard := none }]
set_option maxHeartbeats 8000000 in
set_option maxRecDepth 100000 in
theorem MpR.reg29 {F : Fence} (HF : Aside0 (F = Fence.wide)) {u0 u2 u3 u4 u5 u6 u7 u8 u9 u10 u11 u12 u16 u17 u18 u19 u20 u21 u22 u23 u24 u25 u26 u27 u28 u29 u30 u31 u32 u33 u34 u35 u36 u37 u38 u39 u40 u41 u42 u43 u44 u45 u46 u47 u48 u49 u50 u51 u52 u53 u54 u55 u56 u57 u58 u59 u60 u61 u62 u63 u64 u65 u66 u67 u68 u69 u70 u71 u72 u73 u74 u75 u76 u77 u78 u79 u80 u81 u82 u83 u84 u85 u86 u87 u88 u89 u90 u91 u92 u93 u94 u95 u96 u97 u98 u99 u100 u101 u102 u103 u104 u105 u106 u107 u108 u109 u110 u111 u112 u113 u114 u115 u116 u117 u118 u119 u120 u121 u122 u123 u124 u125 u126 u127 u128 u129 u130 u131 u132 u133 u134 u135 u136 u137 u138 u139 u140 u141 u142 u143 u144 u145 u146 u147 u148 u149 u150 u151 u152 u153 u154 u155 u156 u157 u158 u159 u160 u161 u162 u163 u164 u165 u166 u167 u168 u169 u170 u171 u172 u173 u174 u175 u176 u177 u178 u179 u180 u181 u182 u183 u184 u185 u186 u187 u188 u189 u190 u191 u192 u193 u194 u195 u196 u197 u198 u199 u200 u201 u202 u203 u204 u205 u206 u207 u208 u209 u210 u211 u212 u213 u214 u215 u216 u217 u218 u219 u220 u221 u222 u223 u224 u225 u226 : Value} {ds : List Deferred} (s : ByteArray) (i : Nat) (cz : Int) {g1 : Nat} (ob kk sgb wd : Bool)
    (Q : Exit → Act → World → Prop) (W : World) (B1 : Blk W g1 #[.string s] 9) (hq2 : (0 : Int) ≤ (i : Int)) (hq1 : (i : Int) < (s.size : Int)) (hby : ∀ h : i < s.size, ((s[i]'h).toNat : Int) = cz) (SG : Aside0 (∀ W', Calls Tryd.prog 24 #[.int .u8 cz] W' fun e w' => e = .returned (.bool sgb) ∧ Below W'.heap.size W' w')) (HWW : wd = ((ob && !kk) && !sgb))
    (H : Aside0 (∀ (x141 x142 x143 x144 x145 x146 x147 x148 x149 x150 x151 x152 : Value) (W' : World), Below W.heap.size W W' → Q .normal { tmps := (u0 :: (.pointer (some ⟨g1, 0, none⟩) : Value) :: u2 :: u3 :: u4 :: u5 :: u6 :: u7 :: (.bool wd : Value) :: u9 :: u10 :: u11 :: u12 :: (.int .i64 (i : Int) : Value) :: (.bool ob : Value) :: (.bool kk : Value) :: u16 :: u17 :: u18 :: u19 :: u20 :: u21 :: u22 :: u23 :: u24 :: u25 :: u26 :: u27 :: u28 :: u29 :: u30 :: u31 :: u32 :: u33 :: u34 :: u35 :: u36 :: u37 :: u38 :: u39 :: u40 :: u41 :: u42 :: u43 :: u44 :: u45 :: u46 :: u47 :: u48 :: u49 :: u50 :: u51 :: u52 :: u53 :: u54 :: u55 :: u56 :: u57 :: u58 :: u59 :: u60 :: u61 :: u62 :: u63 :: u64 :: u65 :: u66 :: u67 :: u68 :: u69 :: u70 :: u71 :: u72 :: u73 :: u74 :: u75 :: u76 :: u77 :: u78 :: u79 :: u80 :: u81 :: u82 :: u83 :: u84 :: u85 :: u86 :: u87 :: u88 :: u89 :: u90 :: u91 :: u92 :: u93 :: u94 :: u95 :: u96 :: u97 :: u98 :: u99 :: u100 :: u101 :: u102 :: u103 :: u104 :: u105 :: u106 :: u107 :: u108 :: u109 :: u110 :: u111 :: u112 :: u113 :: u114 :: u115 :: u116 :: u117 :: u118 :: u119 :: u120 :: u121 :: u122 :: u123 :: u124 :: u125 :: u126 :: u127 :: u128 :: u129 :: u130 :: u131 :: u132 :: u133 :: u134 :: u135 :: u136 :: u137 :: u138 :: u139 :: u140 :: (x141 : Value) :: (x142 : Value) :: (x143 : Value) :: (x144 : Value) :: (x145 : Value) :: (x146 : Value) :: (x147 : Value) :: (x148 : Value) :: (x149 : Value) :: (x150 : Value) :: (x151 : Value) :: (x152 : Value) :: u153 :: u154 :: u155 :: u156 :: u157 :: u158 :: u159 :: u160 :: u161 :: u162 :: u163 :: u164 :: u165 :: u166 :: u167 :: u168 :: u169 :: u170 :: u171 :: u172 :: u173 :: u174 :: u175 :: u176 :: u177 :: u178 :: u179 :: u180 :: u181 :: u182 :: u183 :: u184 :: u185 :: u186 :: u187 :: u188 :: u189 :: u190 :: u191 :: u192 :: u193 :: u194 :: u195 :: u196 :: u197 :: u198 :: u199 :: u200 :: u201 :: u202 :: u203 :: u204 :: u205 :: u206 :: u207 :: u208 :: u209 :: u210 :: u211 :: u212 :: u213 :: u214 :: u215 :: u216 :: u217 :: u218 :: u219 :: u220 :: u221 :: u222 :: u223 :: u224 :: u225 :: u226 :: []).toArray, defers := ds } W')) :
    (Code.region 29 MpR.ops29 false).wpIn F 9 Tryd.prog Q { tmps := (u0 :: (.pointer (some ⟨g1, 0, none⟩) : Value) :: u2 :: u3 :: u4 :: u5 :: u6 :: u7 :: u8 :: u9 :: u10 :: u11 :: u12 :: (.int .i64 (i : Int) : Value) :: (.bool ob : Value) :: (.bool kk : Value) :: u16 :: u17 :: u18 :: u19 :: u20 :: u21 :: u22 :: u23 :: u24 :: u25 :: u26 :: u27 :: u28 :: u29 :: u30 :: u31 :: u32 :: u33 :: u34 :: u35 :: u36 :: u37 :: u38 :: u39 :: u40 :: u41 :: u42 :: u43 :: u44 :: u45 :: u46 :: u47 :: u48 :: u49 :: u50 :: u51 :: u52 :: u53 :: u54 :: u55 :: u56 :: u57 :: u58 :: u59 :: u60 :: u61 :: u62 :: u63 :: u64 :: u65 :: u66 :: u67 :: u68 :: u69 :: u70 :: u71 :: u72 :: u73 :: u74 :: u75 :: u76 :: u77 :: u78 :: u79 :: u80 :: u81 :: u82 :: u83 :: u84 :: u85 :: u86 :: u87 :: u88 :: u89 :: u90 :: u91 :: u92 :: u93 :: u94 :: u95 :: u96 :: u97 :: u98 :: u99 :: u100 :: u101 :: u102 :: u103 :: u104 :: u105 :: u106 :: u107 :: u108 :: u109 :: u110 :: u111 :: u112 :: u113 :: u114 :: u115 :: u116 :: u117 :: u118 :: u119 :: u120 :: u121 :: u122 :: u123 :: u124 :: u125 :: u126 :: u127 :: u128 :: u129 :: u130 :: u131 :: u132 :: u133 :: u134 :: u135 :: u136 :: u137 :: u138 :: u139 :: u140 :: u141 :: u142 :: u143 :: u144 :: u145 :: u146 :: u147 :: u148 :: u149 :: u150 :: u151 :: u152 :: u153 :: u154 :: u155 :: u156 :: u157 :: u158 :: u159 :: u160 :: u161 :: u162 :: u163 :: u164 :: u165 :: u166 :: u167 :: u168 :: u169 :: u170 :: u171 :: u172 :: u173 :: u174 :: u175 :: u176 :: u177 :: u178 :: u179 :: u180 :: u181 :: u182 :: u183 :: u184 :: u185 :: u186 :: u187 :: u188 :: u189 :: u190 :: u191 :: u192 :: u193 :: u194 :: u195 :: u196 :: u197 :: u198 :: u199 :: u200 :: u201 :: u202 :: u203 :: u204 :: u205 :: u206 :: u207 :: u208 :: u209 :: u210 :: u211 :: u212 :: u213 :: u214 :: u215 :: u216 :: u217 :: u218 :: u219 :: u220 :: u221 :: u222 :: u223 :: u224 :: u225 :: u226 :: []).toArray, defers := ds } W := by
  unfold MpR.ops29
  have hro := wide_round HF
  have f6 := wide_fn HF 22
  have f7 := wide_fn HF 21
  have f10 := wide_fn HF 23
  have f11 := wide_fn HF 24
  have HK := Aside0.mk (Below.refl W.heap.size W)
  subst HWW
  have c1 := B1.cell (i := 0) rfl
  cases ob with
  | false =>
    gi_wp2
    exact H.out _ _ _ _ _ _ _ _ _ _ _ _ _ HK.out
  | true =>
    cases kk with
    | true =>
      gi_wp2
      exact H.out _ _ _ _ _ _ _ _ _ _ _ _ _ HK.out
    | false =>
      gi_wp2_with (first
        | (gi_at_call 24; refine (callsIn_of HF (SG.out _)).mono ?_; rintro e wk ⟨rfl, hb⟩; clear c1; have HKn := Aside0.mk (HK.out.trans (hb.mono HK.out.size)); clear HK hb; have HK := HKn; clear HKn; skip))
      exact H.out _ _ _ _ _ _ _ _ _ _ _ _ _ HK.out
def MpR.ops30 : Array Oper := #[{ dst := some 153, op := Go.Op.move (Go.Operand.tmp 14), type := 4, pos := "outright.go:62", after := #[], guard := none }, { dst := some 154, op := Go.Op.move (Go.Operand.tmp 153), type := 4, pos := "outright.go:62", after := #[{ on := 0, ground := Go.Ground.data }], guard := none }, { dst := some 155, op := Go.Op.load 9 (Go.Operand.tmp 1), type := 9, pos := "outright.go:62", after := #[{ on := 1, ground := Go.Ground.guard }], guard := some (1, true) }, { dst := some 156, op := Go.Op.move (Go.Operand.tmp 13), type := 3, pos := "outright.go:62", after := #[{ on := 1, ground := Go.Ground.guard }], guard := some (1, true) }, { dst := some 157, op := Go.Op.index 9 (Go.Operand.tmp 155) (Go.Operand.tmp 156), type := 5, pos := "outright.go:62", after := #[{ on := 2, ground := Go.Ground.data }, { on := 3, ground := Go.Ground.data }, { on := 1, ground := Go.Ground.guard }], guard := some (1, true) }, { dst := some 158, op := Go.Op.call { callee := Go.Callee.value (Go.Operand.func 24), args := #[Go.Operand.tmp 157], argTypes := #[5] }, type := 4, pos := "outright.go:62", after := #[{ on := 4, ground := Go.Ground.data }, { on := 1, ground := Go.Ground.chain }, { on := 1, ground := Go.Ground.guard }], guard := some (1, true) }, { dst := some 159, op := Go.Op.pick (Go.Operand.tmp 154) (Go.Operand.tmp 158) (Go.Operand.const (Go.Value.bool false)), type := 4, pos := "outright.go:62", after := #[{ on := 1, ground := Go.Ground.data }, { on := 5, ground := Go.Ground.data }], guard := none }, { dst := some 160, op := Go.Op.move (Go.Operand.tmp 159), type := 4, pos := "outright.go:62", after := #[{ on := 6, ground := Go.Ground.data }, { on := 5, ground := Go.Ground.chain }], guard := none }, { dst := some 161, op := Go.Op.load 34 (Go.Operand.tmp 3), type := 34, pos := "outright.go:62", after := #[{ on := 7, ground := Go.Ground.guard }], guard := some (7, false) }, { dst := some 162, op := Go.Op.move (Go.Operand.tmp 13), type := 3, pos := "outright.go:62", after := #[{ on := 7, ground := Go.Ground.guard }], guard := some (7, false) }, { dst := some 163, op := Go.Op.call { callee := Go.Callee.value (Go.Operand.func 23), args := #[Go.Operand.tmp 161, Go.Operand.tmp 162], argTypes := #[34, 3] }, type := 4, pos := "outright.go:62", after := #[{ on := 8, ground := Go.Ground.data }, { on := 9, ground := Go.Ground.data }, { on := 7, ground := Go.Ground.chain }, { on := 7, ground := Go.Ground.guard }], guard := some (7, false) }, { dst := some 164, op := Go.Op.move (Go.Operand.tmp 163), type := 4, pos := "outright.go:62", after := #[{ on := 10, ground := Go.Ground.data }, { on := 10, ground := Go.Ground.chain }, { on := 7, ground := Go.Ground.guard }], guard := some (7, false) }, { dst := some 165, op := Go.Op.load 34 (Go.Operand.tmp 4), type := 34, pos := "outright.go:62", after := #[{ on := 11, ground := Go.Ground.guard }], guard := some (11, true) }, { dst := some 166, op := Go.Op.move (Go.Operand.tmp 13), type := 3, pos := "outright.go:62", after := #[{ on := 11, ground := Go.Ground.guard }], guard := some (11, true) }, { dst := some 167, op := Go.Op.call { callee := Go.Callee.value (Go.Operand.func 23), args := #[Go.Operand.tmp 165, Go.Operand.tmp 166], argTypes := #[34, 3] }, type := 4, pos := "outright.go:62", after := #[{ on := 12, ground := Go.Ground.data }, { on := 13, ground := Go.Ground.data }, { on := 11, ground := Go.Ground.chain }, { on := 11, ground := Go.Ground.guard }], guard := some (11, true) }, { dst := some 168, op := Go.Op.pick (Go.Operand.tmp 164) (Go.Operand.tmp 167) (Go.Operand.const (Go.Value.bool false)), type := 4, pos := "outright.go:62", after := #[{ on := 11, ground := Go.Ground.data }, { on := 14, ground := Go.Ground.data }, { on := 7, ground := Go.Ground.guard }], guard := some (7, false) }, { dst := some 169, op := Go.Op.pick (Go.Operand.tmp 160) (Go.Operand.const (Go.Value.bool true)) (Go.Operand.tmp 168), type := 4, pos := "outright.go:62", after := #[{ on := 7, ground := Go.Ground.data }, { on := 15, ground := Go.Ground.data }], guard := none }, { dst := some 170, op := Go.Op.move (Go.Operand.tmp 169), type := 4, pos := "outright.go:62", after := #[{ on := 16, ground := Go.Ground.data }, { on := 14, ground := Go.Ground.chain }], guard := none }, { dst := some 171, op := Go.Op.move (Go.Operand.tmp 8), type := 4, pos := "outright.go:62", after := #[{ on := 17, ground := Go.Ground.guard }], guard := some (17, false) }, { dst := some 172, op := Go.Op.move (Go.Operand.tmp 171), type := 4, pos := "outright.go:62", after := #[{ on := 18, ground := Go.Ground.data }, { on := 17, ground := Go.Ground.chain }, { on := 17, ground := Go.Ground.guard }], guard := some (17, false) }, { dst := some 173, op := Go.Op.move (Go.Operand.tmp 16), type := 4, pos := "outright.go:62", after := #[{ on := 19, ground := Go.Ground.guard }], guard := some (19, true) }, { dst := some 174, op := Go.Op.unOp Go.UnOp.not 4 (Go.Operand.tmp 173), type := 4, pos := "outright.go:62", after := #[{ on := 20, ground := Go.Ground.data }, { on := 19, ground := Go.Ground.guard }], guard := some (19, true) }, { dst := some 175, op := Go.Op.pick (Go.Operand.tmp 172) (Go.Operand.tmp 174) (Go.Operand.const (Go.Value.bool false)), type := 4, pos := "outright.go:62", after := #[{ on := 19, ground := Go.Ground.data }, { on := 21, ground := Go.Ground.data }, { on := 17, ground := Go.Ground.guard }], guard := some (17, false) }, { dst := some 176, op := Go.Op.pick (Go.Operand.tmp 170) (Go.Operand.const (Go.Value.bool true)) (Go.Operand.tmp 175), type := 4, pos := "outright.go:62", after := #[{ on := 17, ground := Go.Ground.data }, { on := 22, ground := Go.Ground.data }], guard := none }, { dst := some 17, op := Go.Op.assign (Go.Operand.tmp 176), type := 4, pos := "outright.go:62", after := #[{ on := 23, ground := Go.Ground.data }, { on := 19, ground := Go.Ground.chain }, { on := 0, ground := Go.Ground.phase }, { on := 1, ground := Go.Ground.phase }, { on := 2, ground := Go.Ground.phase }, { on := 3, ground := Go.Ground.phase }, { on := 4, ground := Go.Ground.phase }, { on := 5, ground := Go.Ground.phase }, { on := 6, ground := Go.Ground.phase }, { on := 7, ground := Go.Ground.phase }, { on := 8, ground := Go.Ground.phase }, { on := 9, ground := Go.Ground.phase }, { on := 10, ground := Go.Ground.phase }, { on := 11, ground := Go.Ground.phase }, { on := 12, ground := Go.Ground.phase }, { on := 13, ground := Go.Ground.phase }, { on := 14, ground := Go.Ground.phase }, { on := 15, ground := Go.Ground.phase }, { on := 16, ground := Go.Ground.phase }, { on := 17, ground := Go.Ground.phase }, { on := 18, ground := Go.Ground.phase }, { on := 19, ground := Go.Ground.phase }, { on := 20, ground := Go.Ground.phase }, { on := 21, ground := Go.Ground.phase }, { on := 22, ground := Go.Ground.phase }, { on := 23, ground := Go.Ground.phase }], guard := none }]
set_option maxHeartbeats 8000000 in
set_option maxRecDepth 100000 in
theorem MpR.reg30 {F : Fence} (HF : Aside0 (F = Fence.wide)) {u0 u2 u5 u6 u7 u9 u10 u11 u12 u15 u17 u18 u19 u20 u21 u22 u23 u24 u25 u26 u27 u28 u29 u30 u31 u32 u33 u34 u35 u36 u37 u38 u39 u40 u41 u42 u43 u44 u45 u46 u47 u48 u49 u50 u51 u52 u53 u54 u55 u56 u57 u58 u59 u60 u61 u62 u63 u64 u65 u66 u67 u68 u69 u70 u71 u72 u73 u74 u75 u76 u77 u78 u79 u80 u81 u82 u83 u84 u85 u86 u87 u88 u89 u90 u91 u92 u93 u94 u95 u96 u97 u98 u99 u100 u101 u102 u103 u104 u105 u106 u107 u108 u109 u110 u111 u112 u113 u114 u115 u116 u117 u118 u119 u120 u121 u122 u123 u124 u125 u126 u127 u128 u129 u130 u131 u132 u133 u134 u135 u136 u137 u138 u139 u140 u141 u142 u143 u144 u145 u146 u147 u148 u149 u150 u151 u152 u153 u154 u155 u156 u157 u158 u159 u160 u161 u162 u163 u164 u165 u166 u167 u168 u169 u170 u171 u172 u173 u174 u175 u176 u177 u178 u179 u180 u181 u182 u183 u184 u185 u186 u187 u188 u189 u190 u191 u192 u193 u194 u195 u196 u197 u198 u199 u200 u201 u202 u203 u204 u205 u206 u207 u208 u209 u210 u211 u212 u213 u214 u215 u216 u217 u218 u219 u220 u221 u222 u223 u224 u225 u226 : Value} {ds : List Deferred} (s : ByteArray) (i : Nat) (cz : Int) {g1 g3 g4 : Nat} {A1 A2 : Option Addr} {k1 k2 : Nat} {l1 l2 : List Int} (mb ib ob sgb wd wz bb : Bool)
    (Q : Exit → Act → World → Prop) (W : World) (B1 : Blk W g1 #[.string s] 9) (B3 : Blk W g3 #[.int .i64 s.size, .slice A1 l1.length k1] 34) (B4 : Blk W g4 #[.int .i64 s.size, .slice A2 l2.length k2] 34) (hq2 : (0 : Int) ≤ (i : Int)) (hq1 : (i : Int) < (s.size : Int)) (hby : ∀ h : i < s.size, ((s[i]'h).toNat : Int) = cz) (GM : Aside0 (∀ W', Below W.heap.size W W' → Calls Tryd.prog 23 #[.agg #[.int .i64 s.size, .slice A1 l1.length k1], .int .i64 (i : Int)] W' fun e w' => e = .returned (.bool mb) ∧ Below W'.heap.size W' w')) (GI : Aside0 (∀ W', Below W.heap.size W W' → Calls Tryd.prog 23 #[.agg #[.int .i64 s.size, .slice A2 l2.length k2], .int .i64 (i : Int)] W' fun e w' => e = .returned (.bool ib) ∧ Below W'.heap.size W' w')) (SG : Aside0 (∀ W', Calls Tryd.prog 24 #[.int .u8 cz] W' fun e w' => e = .returned (.bool sgb) ∧ Below W'.heap.size W' w')) (HBB : bb = ((ob && sgb || mb && ib) || wd && !wz))
    (H : Aside0 (∀ (x153 x154 x155 x156 x157 x158 x159 x160 x161 x162 x163 x164 x165 x166 x167 x168 x169 x170 x171 x172 x173 x174 x175 x176 : Value) (W' : World), Below W.heap.size W W' → Q .normal { tmps := (u0 :: (.pointer (some ⟨g1, 0, none⟩) : Value) :: u2 :: (.pointer (some ⟨g3, 0, none⟩) : Value) :: (.pointer (some ⟨g4, 0, none⟩) : Value) :: u5 :: u6 :: u7 :: (.bool wd : Value) :: u9 :: u10 :: u11 :: u12 :: (.int .i64 (i : Int) : Value) :: (.bool ob : Value) :: u15 :: (.bool wz : Value) :: (.bool bb : Value) :: u18 :: u19 :: u20 :: u21 :: u22 :: u23 :: u24 :: u25 :: u26 :: u27 :: u28 :: u29 :: u30 :: u31 :: u32 :: u33 :: u34 :: u35 :: u36 :: u37 :: u38 :: u39 :: u40 :: u41 :: u42 :: u43 :: u44 :: u45 :: u46 :: u47 :: u48 :: u49 :: u50 :: u51 :: u52 :: u53 :: u54 :: u55 :: u56 :: u57 :: u58 :: u59 :: u60 :: u61 :: u62 :: u63 :: u64 :: u65 :: u66 :: u67 :: u68 :: u69 :: u70 :: u71 :: u72 :: u73 :: u74 :: u75 :: u76 :: u77 :: u78 :: u79 :: u80 :: u81 :: u82 :: u83 :: u84 :: u85 :: u86 :: u87 :: u88 :: u89 :: u90 :: u91 :: u92 :: u93 :: u94 :: u95 :: u96 :: u97 :: u98 :: u99 :: u100 :: u101 :: u102 :: u103 :: u104 :: u105 :: u106 :: u107 :: u108 :: u109 :: u110 :: u111 :: u112 :: u113 :: u114 :: u115 :: u116 :: u117 :: u118 :: u119 :: u120 :: u121 :: u122 :: u123 :: u124 :: u125 :: u126 :: u127 :: u128 :: u129 :: u130 :: u131 :: u132 :: u133 :: u134 :: u135 :: u136 :: u137 :: u138 :: u139 :: u140 :: u141 :: u142 :: u143 :: u144 :: u145 :: u146 :: u147 :: u148 :: u149 :: u150 :: u151 :: u152 :: (x153 : Value) :: (x154 : Value) :: (x155 : Value) :: (x156 : Value) :: (x157 : Value) :: (x158 : Value) :: (x159 : Value) :: (x160 : Value) :: (x161 : Value) :: (x162 : Value) :: (x163 : Value) :: (x164 : Value) :: (x165 : Value) :: (x166 : Value) :: (x167 : Value) :: (x168 : Value) :: (x169 : Value) :: (x170 : Value) :: (x171 : Value) :: (x172 : Value) :: (x173 : Value) :: (x174 : Value) :: (x175 : Value) :: (x176 : Value) :: u177 :: u178 :: u179 :: u180 :: u181 :: u182 :: u183 :: u184 :: u185 :: u186 :: u187 :: u188 :: u189 :: u190 :: u191 :: u192 :: u193 :: u194 :: u195 :: u196 :: u197 :: u198 :: u199 :: u200 :: u201 :: u202 :: u203 :: u204 :: u205 :: u206 :: u207 :: u208 :: u209 :: u210 :: u211 :: u212 :: u213 :: u214 :: u215 :: u216 :: u217 :: u218 :: u219 :: u220 :: u221 :: u222 :: u223 :: u224 :: u225 :: u226 :: []).toArray, defers := ds } W')) :
    (Code.region 30 MpR.ops30 false).wpIn F 9 Tryd.prog Q { tmps := (u0 :: (.pointer (some ⟨g1, 0, none⟩) : Value) :: u2 :: (.pointer (some ⟨g3, 0, none⟩) : Value) :: (.pointer (some ⟨g4, 0, none⟩) : Value) :: u5 :: u6 :: u7 :: (.bool wd : Value) :: u9 :: u10 :: u11 :: u12 :: (.int .i64 (i : Int) : Value) :: (.bool ob : Value) :: u15 :: (.bool wz : Value) :: u17 :: u18 :: u19 :: u20 :: u21 :: u22 :: u23 :: u24 :: u25 :: u26 :: u27 :: u28 :: u29 :: u30 :: u31 :: u32 :: u33 :: u34 :: u35 :: u36 :: u37 :: u38 :: u39 :: u40 :: u41 :: u42 :: u43 :: u44 :: u45 :: u46 :: u47 :: u48 :: u49 :: u50 :: u51 :: u52 :: u53 :: u54 :: u55 :: u56 :: u57 :: u58 :: u59 :: u60 :: u61 :: u62 :: u63 :: u64 :: u65 :: u66 :: u67 :: u68 :: u69 :: u70 :: u71 :: u72 :: u73 :: u74 :: u75 :: u76 :: u77 :: u78 :: u79 :: u80 :: u81 :: u82 :: u83 :: u84 :: u85 :: u86 :: u87 :: u88 :: u89 :: u90 :: u91 :: u92 :: u93 :: u94 :: u95 :: u96 :: u97 :: u98 :: u99 :: u100 :: u101 :: u102 :: u103 :: u104 :: u105 :: u106 :: u107 :: u108 :: u109 :: u110 :: u111 :: u112 :: u113 :: u114 :: u115 :: u116 :: u117 :: u118 :: u119 :: u120 :: u121 :: u122 :: u123 :: u124 :: u125 :: u126 :: u127 :: u128 :: u129 :: u130 :: u131 :: u132 :: u133 :: u134 :: u135 :: u136 :: u137 :: u138 :: u139 :: u140 :: u141 :: u142 :: u143 :: u144 :: u145 :: u146 :: u147 :: u148 :: u149 :: u150 :: u151 :: u152 :: u153 :: u154 :: u155 :: u156 :: u157 :: u158 :: u159 :: u160 :: u161 :: u162 :: u163 :: u164 :: u165 :: u166 :: u167 :: u168 :: u169 :: u170 :: u171 :: u172 :: u173 :: u174 :: u175 :: u176 :: u177 :: u178 :: u179 :: u180 :: u181 :: u182 :: u183 :: u184 :: u185 :: u186 :: u187 :: u188 :: u189 :: u190 :: u191 :: u192 :: u193 :: u194 :: u195 :: u196 :: u197 :: u198 :: u199 :: u200 :: u201 :: u202 :: u203 :: u204 :: u205 :: u206 :: u207 :: u208 :: u209 :: u210 :: u211 :: u212 :: u213 :: u214 :: u215 :: u216 :: u217 :: u218 :: u219 :: u220 :: u221 :: u222 :: u223 :: u224 :: u225 :: u226 :: []).toArray, defers := ds } W := by
  unfold MpR.ops30
  have hro := wide_round HF
  have f6 := wide_fn HF 22
  have f7 := wide_fn HF 21
  have f10 := wide_fn HF 23
  have f11 := wide_fn HF 24
  have HK := Aside0.mk (Below.refl W.heap.size W)
  subst HBB
  have c1 := B1.cell (i := 0) rfl
  cases ob with
  | false =>
    have c30 := (B3.below HK.out).cell (i := 0) rfl
    have c31 := (B3.below HK.out).cell (i := 1) rfl
    cases mb with
    | false =>
      cases wd with
      | false =>
        gi_wp2_with (first
          | ((with_reducible refine gate_dstIn (N := 167) rfl ?_); refine gate_skipIn HF (by rfl) ?_)
          | (gi_at_call 23; refine (callsIn_of HF (GM.out _ HK.out)).mono ?_; rintro e wk ⟨rfl, hb⟩; clear c30 c31; have HKn := Aside0.mk (HK.out.trans (hb.mono HK.out.size)); clear HK hb; have HK := HKn; clear HKn; skip))
        exact H.out _ _ _ _ _ _ _ _ _ _ _ _ _ _ _ _ _ _ _ _ _ _ _ _ _ HK.out
      | true =>
        gi_wp2_with (first
          | ((with_reducible refine gate_dstIn (N := 167) rfl ?_); refine gate_skipIn HF (by rfl) ?_)
          | (gi_at_call 23; refine (callsIn_of HF (GM.out _ HK.out)).mono ?_; rintro e wk ⟨rfl, hb⟩; clear c30 c31; have HKn := Aside0.mk (HK.out.trans (hb.mono HK.out.size)); clear HK hb; have HK := HKn; clear HKn; skip))
        exact H.out _ _ _ _ _ _ _ _ _ _ _ _ _ _ _ _ _ _ _ _ _ _ _ _ _ HK.out
    | true =>
      have TK := Aside0.mk trivial
      cases ib with
      | false =>
        cases wd with
        | false =>
          gi_wp2_with (first
            | (gi_at_call 23; clear TK; refine (callsIn_of HF (GM.out _ HK.out)).mono ?_; rintro e wk ⟨rfl, hb⟩; clear c30 c31; have HKn := Aside0.mk (HK.out.trans (hb.mono HK.out.size)); clear HK hb; have HK := HKn; clear HKn; have c40 := (B4.below HK.out).cell (i := 0) rfl; have c41 := (B4.below HK.out).cell (i := 1) rfl)
            | (gi_at_call 23; refine (callsIn_of HF (GI.out _ HK.out)).mono ?_; rintro e wk ⟨rfl, hb⟩; clear c40 c41; have HKn := Aside0.mk (HK.out.trans (hb.mono HK.out.size)); clear HK hb; have HK := HKn; clear HKn; skip))
          exact H.out _ _ _ _ _ _ _ _ _ _ _ _ _ _ _ _ _ _ _ _ _ _ _ _ _ HK.out
        | true =>
          gi_wp2_with (first
            | (gi_at_call 23; clear TK; refine (callsIn_of HF (GM.out _ HK.out)).mono ?_; rintro e wk ⟨rfl, hb⟩; clear c30 c31; have HKn := Aside0.mk (HK.out.trans (hb.mono HK.out.size)); clear HK hb; have HK := HKn; clear HKn; have c40 := (B4.below HK.out).cell (i := 0) rfl; have c41 := (B4.below HK.out).cell (i := 1) rfl)
            | (gi_at_call 23; refine (callsIn_of HF (GI.out _ HK.out)).mono ?_; rintro e wk ⟨rfl, hb⟩; clear c40 c41; have HKn := Aside0.mk (HK.out.trans (hb.mono HK.out.size)); clear HK hb; have HK := HKn; clear HKn; skip))
          exact H.out _ _ _ _ _ _ _ _ _ _ _ _ _ _ _ _ _ _ _ _ _ _ _ _ _ HK.out
      | true =>
        gi_wp2_with (first
          | (gi_at_call 23; clear TK; refine (callsIn_of HF (GM.out _ HK.out)).mono ?_; rintro e wk ⟨rfl, hb⟩; clear c30 c31; have HKn := Aside0.mk (HK.out.trans (hb.mono HK.out.size)); clear HK hb; have HK := HKn; clear HKn; have c40 := (B4.below HK.out).cell (i := 0) rfl; have c41 := (B4.below HK.out).cell (i := 1) rfl)
          | (gi_at_call 23; refine (callsIn_of HF (GI.out _ HK.out)).mono ?_; rintro e wk ⟨rfl, hb⟩; clear c40 c41; have HKn := Aside0.mk (HK.out.trans (hb.mono HK.out.size)); clear HK hb; have HK := HKn; clear HKn; skip))
        exact H.out _ _ _ _ _ _ _ _ _ _ _ _ _ _ _ _ _ _ _ _ _ _ _ _ _ HK.out
  | true =>
    cases sgb with
    | true =>
      gi_wp2_with (first
        | ((with_reducible refine gate_dstIn (N := 167) rfl ?_); refine gate_skipIn HF (by rfl) ?_)
        | (gi_at_call 24; refine (callsIn_of HF (SG.out _)).mono ?_; rintro e wk ⟨rfl, hb⟩; clear c1; have HKn := Aside0.mk (HK.out.trans (hb.mono HK.out.size)); clear HK hb; have HK := HKn; clear HKn; skip))
      exact H.out _ _ _ _ _ _ _ _ _ _ _ _ _ _ _ _ _ _ _ _ _ _ _ _ _ HK.out
    | false =>
      cases mb with
      | false =>
        cases wd with
        | false =>
          gi_wp2_with (first
            | (gi_at_call 24; refine (callsIn_of HF (SG.out _)).mono ?_; rintro e wk ⟨rfl, hb⟩; clear c1; have HKn := Aside0.mk (HK.out.trans (hb.mono HK.out.size)); clear HK hb; have HK := HKn; clear HKn; have c30 := (B3.below HK.out).cell (i := 0) rfl; have c31 := (B3.below HK.out).cell (i := 1) rfl)
            | ((with_reducible refine gate_dstIn (N := 167) rfl ?_); refine gate_skipIn HF (by rfl) ?_)
            | (gi_at_call 23; refine (callsIn_of HF (GM.out _ HK.out)).mono ?_; rintro e wk ⟨rfl, hb⟩; clear c30 c31; have HKn := Aside0.mk (HK.out.trans (hb.mono HK.out.size)); clear HK hb; have HK := HKn; clear HKn; skip))
          exact H.out _ _ _ _ _ _ _ _ _ _ _ _ _ _ _ _ _ _ _ _ _ _ _ _ _ HK.out
        | true =>
          gi_wp2_with (first
            | (gi_at_call 24; refine (callsIn_of HF (SG.out _)).mono ?_; rintro e wk ⟨rfl, hb⟩; clear c1; have HKn := Aside0.mk (HK.out.trans (hb.mono HK.out.size)); clear HK hb; have HK := HKn; clear HKn; have c30 := (B3.below HK.out).cell (i := 0) rfl; have c31 := (B3.below HK.out).cell (i := 1) rfl)
            | ((with_reducible refine gate_dstIn (N := 167) rfl ?_); refine gate_skipIn HF (by rfl) ?_)
            | (gi_at_call 23; refine (callsIn_of HF (GM.out _ HK.out)).mono ?_; rintro e wk ⟨rfl, hb⟩; clear c30 c31; have HKn := Aside0.mk (HK.out.trans (hb.mono HK.out.size)); clear HK hb; have HK := HKn; clear HKn; skip))
          exact H.out _ _ _ _ _ _ _ _ _ _ _ _ _ _ _ _ _ _ _ _ _ _ _ _ _ HK.out
      | true =>
        have TK := Aside0.mk trivial
        cases ib with
        | false =>
          cases wd with
          | false =>
            gi_wp2_with (first
              | (gi_at_call 24; refine (callsIn_of HF (SG.out _)).mono ?_; rintro e wk ⟨rfl, hb⟩; clear c1; have HKn := Aside0.mk (HK.out.trans (hb.mono HK.out.size)); clear HK hb; have HK := HKn; clear HKn; have c30 := (B3.below HK.out).cell (i := 0) rfl; have c31 := (B3.below HK.out).cell (i := 1) rfl)
              | (gi_at_call 23; clear TK; refine (callsIn_of HF (GM.out _ HK.out)).mono ?_; rintro e wk ⟨rfl, hb⟩; clear c30 c31; have HKn := Aside0.mk (HK.out.trans (hb.mono HK.out.size)); clear HK hb; have HK := HKn; clear HKn; have c40 := (B4.below HK.out).cell (i := 0) rfl; have c41 := (B4.below HK.out).cell (i := 1) rfl)
              | (gi_at_call 23; refine (callsIn_of HF (GI.out _ HK.out)).mono ?_; rintro e wk ⟨rfl, hb⟩; clear c40 c41; have HKn := Aside0.mk (HK.out.trans (hb.mono HK.out.size)); clear HK hb; have HK := HKn; clear HKn; skip))
            exact H.out _ _ _ _ _ _ _ _ _ _ _ _ _ _ _ _ _ _ _ _ _ _ _ _ _ HK.out
          | true =>
            gi_wp2_with (first
              | (gi_at_call 24; refine (callsIn_of HF (SG.out _)).mono ?_; rintro e wk ⟨rfl, hb⟩; clear c1; have HKn := Aside0.mk (HK.out.trans (hb.mono HK.out.size)); clear HK hb; have HK := HKn; clear HKn; have c30 := (B3.below HK.out).cell (i := 0) rfl; have c31 := (B3.below HK.out).cell (i := 1) rfl)
              | (gi_at_call 23; clear TK; refine (callsIn_of HF (GM.out _ HK.out)).mono ?_; rintro e wk ⟨rfl, hb⟩; clear c30 c31; have HKn := Aside0.mk (HK.out.trans (hb.mono HK.out.size)); clear HK hb; have HK := HKn; clear HKn; have c40 := (B4.below HK.out).cell (i := 0) rfl; have c41 := (B4.below HK.out).cell (i := 1) rfl)
              | (gi_at_call 23; refine (callsIn_of HF (GI.out _ HK.out)).mono ?_; rintro e wk ⟨rfl, hb⟩; clear c40 c41; have HKn := Aside0.mk (HK.out.trans (hb.mono HK.out.size)); clear HK hb; have HK := HKn; clear HKn; skip))
            exact H.out _ _ _ _ _ _ _ _ _ _ _ _ _ _ _ _ _ _ _ _ _ _ _ _ _ HK.out
        | true =>
          gi_wp2_with (first
            | (gi_at_call 24; refine (callsIn_of HF (SG.out _)).mono ?_; rintro e wk ⟨rfl, hb⟩; clear c1; have HKn := Aside0.mk (HK.out.trans (hb.mono HK.out.size)); clear HK hb; have HK := HKn; clear HKn; have c30 := (B3.below HK.out).cell (i := 0) rfl; have c31 := (B3.below HK.out).cell (i := 1) rfl)
            | (gi_at_call 23; clear TK; refine (callsIn_of HF (GM.out _ HK.out)).mono ?_; rintro e wk ⟨rfl, hb⟩; clear c30 c31; have HKn := Aside0.mk (HK.out.trans (hb.mono HK.out.size)); clear HK hb; have HK := HKn; clear HKn; have c40 := (B4.below HK.out).cell (i := 0) rfl; have c41 := (B4.below HK.out).cell (i := 1) rfl)
            | (gi_at_call 23; refine (callsIn_of HF (GI.out _ HK.out)).mono ?_; rintro e wk ⟨rfl, hb⟩; clear c40 c41; have HKn := Aside0.mk (HK.out.trans (hb.mono HK.out.size)); clear HK hb; have HK := HKn; clear HKn; skip))
          exact H.out _ _ _ _ _ _ _ _ _ _ _ _ _ _ _ _ _ _ _ _ _ _ _ _ _ HK.out
def MpR.ops35 : Array Oper := #[{ dst := some 190, op := Go.Op.load 34 (Go.Operand.tmp 5), type := 34, pos := "outright.go:69", after := #[], guard := none }, { dst := some 191, op := Go.Op.move (Go.Operand.tmp 13), type := 3, pos := "outright.go:69", after := #[], guard := none }, { dst := some 192, op := Go.Op.call { callee := Go.Callee.value (Go.Operand.func 23), args := #[Go.Operand.tmp 190, Go.Operand.tmp 191], argTypes := #[34, 3] }, type := 4, pos := "outright.go:69", after := #[{ on := 0, ground := Go.Ground.data }, { on := 1, ground := Go.Ground.data }], guard := none }, { dst := some 193, op := Go.Op.move (Go.Operand.tmp 15), type := 4, pos := "outright.go:69", after := #[], guard := none }, { dst := some 194, op := Go.Op.binOp Go.BinOp.neq 4 (Go.Operand.tmp 192) (Go.Operand.tmp 193) 4, type := 4, pos := "outright.go:69", after := #[{ on := 2, ground := Go.Ground.data }, { on := 3, ground := Go.Ground.data }], guard := none }, { dst := some 195, op := Go.Op.move (Go.Operand.tmp 194), type := 4, pos := "outright.go:69", after := #[{ on := 4, ground := Go.Ground.data }, { on := 2, ground := Go.Ground.chain }], guard := none }, { dst := some 196, op := Go.Op.load 38 (Go.Operand.tmp 9), type := 38, pos := "outright.go:69", after := #[{ on := 5, ground := Go.Ground.guard }], guard := some (5, false) }, { dst := some 197, op := Go.Op.move (Go.Operand.tmp 13), type := 3, pos := "outright.go:69", after := #[{ on := 5, ground := Go.Ground.guard }], guard := some (5, false) }, { dst := some 198, op := Go.Op.indexAddr 38 (Go.Operand.tmp 196) (Go.Operand.tmp 197), type := 0, pos := "outright.go:69", after := #[{ on := 6, ground := Go.Ground.data }, { on := 7, ground := Go.Ground.data }, { on := 5, ground := Go.Ground.guard }], guard := some (5, false) }, { dst := some 199, op := Go.Op.load 4 (Go.Operand.tmp 198), type := 4, pos := "outright.go:69", after := #[{ on := 8, ground := Go.Ground.data }, { on := 5, ground := Go.Ground.guard }], guard := some (5, false) }, { dst := some 200, op := Go.Op.move (Go.Operand.tmp 8), type := 4, pos := "outright.go:69", after := #[{ on := 5, ground := Go.Ground.guard }], guard := some (5, false) }, { dst := some 201, op := Go.Op.binOp Go.BinOp.neq 4 (Go.Operand.tmp 199) (Go.Operand.tmp 200) 4, type := 4, pos := "outright.go:69", after := #[{ on := 9, ground := Go.Ground.data }, { on := 10, ground := Go.Ground.data }, { on := 5, ground := Go.Ground.guard }], guard := some (5, false) }, { dst := some 202, op := Go.Op.pick (Go.Operand.tmp 195) (Go.Operand.const (Go.Value.bool true)) (Go.Operand.tmp 201), type := 4, pos := "outright.go:69", after := #[{ on := 5, ground := Go.Ground.data }, { on := 11, ground := Go.Ground.data }], guard := none }, { dst := some 203, op := Go.Op.move (Go.Operand.tmp 202), type := 4, pos := "outright.go:69", after := #[{ on := 12, ground := Go.Ground.data }, { on := 5, ground := Go.Ground.chain }], guard := none }, { dst := some 204, op := Go.Op.load 9 (Go.Operand.tmp 1), type := 9, pos := "outright.go:69", after := #[{ on := 13, ground := Go.Ground.guard }], guard := some (13, false) }, { dst := some 205, op := Go.Op.move (Go.Operand.tmp 13), type := 3, pos := "outright.go:69", after := #[{ on := 13, ground := Go.Ground.guard }], guard := some (13, false) }, { dst := some 206, op := Go.Op.call { callee := Go.Callee.value (Go.Operand.func 21), args := #[Go.Operand.tmp 204, Go.Operand.tmp 205], argTypes := #[9, 3] }, type := 4, pos := "outright.go:69", after := #[{ on := 14, ground := Go.Ground.data }, { on := 15, ground := Go.Ground.data }, { on := 13, ground := Go.Ground.chain }, { on := 13, ground := Go.Ground.guard }], guard := some (13, false) }, { dst := some 207, op := Go.Op.move (Go.Operand.tmp 206), type := 4, pos := "outright.go:69", after := #[{ on := 16, ground := Go.Ground.data }, { on := 16, ground := Go.Ground.chain }, { on := 13, ground := Go.Ground.guard }], guard := some (13, false) }, { dst := some 208, op := Go.Op.load 9 (Go.Operand.tmp 1), type := 9, pos := "outright.go:69", after := #[{ on := 17, ground := Go.Ground.guard }], guard := some (17, true) }, { dst := some 209, op := Go.Op.move (Go.Operand.tmp 13), type := 3, pos := "outright.go:69", after := #[{ on := 17, ground := Go.Ground.guard }], guard := some (17, true) }, { dst := some 210, op := Go.Op.call { callee := Go.Callee.value (Go.Operand.func 22), args := #[Go.Operand.tmp 208, Go.Operand.tmp 209], argTypes := #[9, 3] }, type := 5, pos := "outright.go:69", after := #[{ on := 18, ground := Go.Ground.data }, { on := 19, ground := Go.Ground.data }, { on := 17, ground := Go.Ground.chain }, { on := 17, ground := Go.Ground.guard }], guard := some (17, true) }, { dst := some 211, op := Go.Op.binOp Go.BinOp.neq 5 (Go.Operand.tmp 210) (Go.Operand.const (Go.Value.int Go.IntKind.u8 0)) 5, type := 4, pos := "outright.go:69", after := #[{ on := 20, ground := Go.Ground.data }, { on := 17, ground := Go.Ground.guard }], guard := some (17, true) }, { dst := some 212, op := Go.Op.move (Go.Operand.tmp 17), type := 4, pos := "outright.go:69", after := #[{ on := 17, ground := Go.Ground.guard }], guard := some (17, true) }, { dst := some 213, op := Go.Op.binOp Go.BinOp.neq 4 (Go.Operand.tmp 211) (Go.Operand.tmp 212) 4, type := 4, pos := "outright.go:69", after := #[{ on := 21, ground := Go.Ground.data }, { on := 22, ground := Go.Ground.data }, { on := 17, ground := Go.Ground.guard }], guard := some (17, true) }, { dst := some 214, op := Go.Op.pick (Go.Operand.tmp 207) (Go.Operand.tmp 213) (Go.Operand.const (Go.Value.bool false)), type := 4, pos := "outright.go:69", after := #[{ on := 17, ground := Go.Ground.data }, { on := 23, ground := Go.Ground.data }, { on := 13, ground := Go.Ground.guard }], guard := some (13, false) }, { dst := some 215, op := Go.Op.pick (Go.Operand.tmp 203) (Go.Operand.const (Go.Value.bool true)) (Go.Operand.tmp 214), type := 4, pos := "outright.go:69", after := #[{ on := 13, ground := Go.Ground.data }, { on := 24, ground := Go.Ground.data }], guard := none }]
set_option maxHeartbeats 8000000 in
set_option maxRecDepth 100000 in
theorem MpR.reg35 {F : Fence} (HF : Aside0 (F = Fence.wide)) {u0 u2 u3 u4 u6 u7 u10 u11 u12 u14 u16 u18 u19 u20 u21 u22 u23 u24 u25 u26 u27 u28 u29 u30 u31 u32 u33 u34 u35 u36 u37 u38 u39 u40 u41 u42 u43 u44 u45 u46 u47 u48 u49 u50 u51 u52 u53 u54 u55 u56 u57 u58 u59 u60 u61 u62 u63 u64 u65 u66 u67 u68 u69 u70 u71 u72 u73 u74 u75 u76 u77 u78 u79 u80 u81 u82 u83 u84 u85 u86 u87 u88 u89 u90 u91 u92 u93 u94 u95 u96 u97 u98 u99 u100 u101 u102 u103 u104 u105 u106 u107 u108 u109 u110 u111 u112 u113 u114 u115 u116 u117 u118 u119 u120 u121 u122 u123 u124 u125 u126 u127 u128 u129 u130 u131 u132 u133 u134 u135 u136 u137 u138 u139 u140 u141 u142 u143 u144 u145 u146 u147 u148 u149 u150 u151 u152 u153 u154 u155 u156 u157 u158 u159 u160 u161 u162 u163 u164 u165 u166 u167 u168 u169 u170 u171 u172 u173 u174 u175 u176 u177 u178 u179 u180 u181 u182 u183 u184 u185 u186 u187 u188 u189 u190 u191 u192 u193 u194 u195 u196 u197 u198 u199 u200 u201 u202 u203 u204 u205 u206 u207 u208 u209 u210 u211 u212 u213 u214 u215 u216 u217 u218 u219 u220 u221 u222 u223 u224 u225 u226 : Value} {ds : List Deferred} (s : ByteArray) (i : Nat) {g1 g5 g9 gc : Nat} {A3 : Option Addr} {k3 : Nat} {l3 : List Int} (cv : Nat → Bool) (kz : Int) (kk wd bb lb : Bool)
    (Q : Exit → Act → World → Prop) (W : World) (B1 : Blk W g1 #[.string s] 9) (B5 : Blk W g5 #[.int .i64 s.size, .slice A3 l3.length k3] 34) (B9 : Blk W g9 #[.slice (some ⟨gc, 0, none⟩) s.size s.size] 38) (Bc : Blk W gc (covA cv s.size) 4) (CVI : Aside0 ((covA cv s.size)[i]? = some (.bool wd))) (hq2 : (0 : Int) ≤ (i : Int)) (hq1 : (i : Int) < (s.size : Int)) (GB : Aside0 (∀ W', Below W.heap.size W W' → Calls Tryd.prog 23 #[.agg #[.int .i64 s.size, .slice A3 l3.length k3], .int .i64 (i : Int)] W' fun e w' => e = .returned (.bool kk) ∧ Below W'.heap.size W' w')) (LK : Aside0 (∀ W', Calls Tryd.prog 21 #[.string s, .int .i64 (i : Int)] W' fun e w' => e = .returned (.bool lb) ∧ Below W'.heap.size W' w')) (KD : Aside0 (∀ W', Calls Tryd.prog 22 #[.string s, .int .i64 (i : Int)] W' fun e w' => e = .returned (.int .u8 kz) ∧ Below W'.heap.size W' w')) (HKB : Aside0 ((kz != 0) = bb))
    (H : Aside0 (∀ (x190 x191 x192 x193 x194 x195 x196 x197 x198 x199 x200 x201 x202 x203 x204 x205 x206 x207 x208 x209 x210 x211 x212 x213 x214 : Value) (W' : World), Below W.heap.size W W' → Q .normal { tmps := (u0 :: (.pointer (some ⟨g1, 0, none⟩) : Value) :: u2 :: u3 :: u4 :: (.pointer (some ⟨g5, 0, none⟩) : Value) :: u6 :: u7 :: (.bool wd : Value) :: (.pointer (some ⟨g9, 0, none⟩) : Value) :: u10 :: u11 :: u12 :: (.int .i64 (i : Int) : Value) :: u14 :: (.bool kk : Value) :: u16 :: (.bool bb : Value) :: u18 :: u19 :: u20 :: u21 :: u22 :: u23 :: u24 :: u25 :: u26 :: u27 :: u28 :: u29 :: u30 :: u31 :: u32 :: u33 :: u34 :: u35 :: u36 :: u37 :: u38 :: u39 :: u40 :: u41 :: u42 :: u43 :: u44 :: u45 :: u46 :: u47 :: u48 :: u49 :: u50 :: u51 :: u52 :: u53 :: u54 :: u55 :: u56 :: u57 :: u58 :: u59 :: u60 :: u61 :: u62 :: u63 :: u64 :: u65 :: u66 :: u67 :: u68 :: u69 :: u70 :: u71 :: u72 :: u73 :: u74 :: u75 :: u76 :: u77 :: u78 :: u79 :: u80 :: u81 :: u82 :: u83 :: u84 :: u85 :: u86 :: u87 :: u88 :: u89 :: u90 :: u91 :: u92 :: u93 :: u94 :: u95 :: u96 :: u97 :: u98 :: u99 :: u100 :: u101 :: u102 :: u103 :: u104 :: u105 :: u106 :: u107 :: u108 :: u109 :: u110 :: u111 :: u112 :: u113 :: u114 :: u115 :: u116 :: u117 :: u118 :: u119 :: u120 :: u121 :: u122 :: u123 :: u124 :: u125 :: u126 :: u127 :: u128 :: u129 :: u130 :: u131 :: u132 :: u133 :: u134 :: u135 :: u136 :: u137 :: u138 :: u139 :: u140 :: u141 :: u142 :: u143 :: u144 :: u145 :: u146 :: u147 :: u148 :: u149 :: u150 :: u151 :: u152 :: u153 :: u154 :: u155 :: u156 :: u157 :: u158 :: u159 :: u160 :: u161 :: u162 :: u163 :: u164 :: u165 :: u166 :: u167 :: u168 :: u169 :: u170 :: u171 :: u172 :: u173 :: u174 :: u175 :: u176 :: u177 :: u178 :: u179 :: u180 :: u181 :: u182 :: u183 :: u184 :: u185 :: u186 :: u187 :: u188 :: u189 :: (x190 : Value) :: (x191 : Value) :: (x192 : Value) :: (x193 : Value) :: (x194 : Value) :: (x195 : Value) :: (x196 : Value) :: (x197 : Value) :: (x198 : Value) :: (x199 : Value) :: (x200 : Value) :: (x201 : Value) :: (x202 : Value) :: (x203 : Value) :: (x204 : Value) :: (x205 : Value) :: (x206 : Value) :: (x207 : Value) :: (x208 : Value) :: (x209 : Value) :: (x210 : Value) :: (x211 : Value) :: (x212 : Value) :: (x213 : Value) :: (x214 : Value) :: (.bool false : Value) :: u216 :: u217 :: u218 :: u219 :: u220 :: u221 :: u222 :: u223 :: u224 :: u225 :: u226 :: []).toArray, defers := ds } W')) :
    (Code.region 35 MpR.ops35 false).wpIn F 9 Tryd.prog Q { tmps := (u0 :: (.pointer (some ⟨g1, 0, none⟩) : Value) :: u2 :: u3 :: u4 :: (.pointer (some ⟨g5, 0, none⟩) : Value) :: u6 :: u7 :: (.bool wd : Value) :: (.pointer (some ⟨g9, 0, none⟩) : Value) :: u10 :: u11 :: u12 :: (.int .i64 (i : Int) : Value) :: u14 :: (.bool kk : Value) :: u16 :: (.bool bb : Value) :: u18 :: u19 :: u20 :: u21 :: u22 :: u23 :: u24 :: u25 :: u26 :: u27 :: u28 :: u29 :: u30 :: u31 :: u32 :: u33 :: u34 :: u35 :: u36 :: u37 :: u38 :: u39 :: u40 :: u41 :: u42 :: u43 :: u44 :: u45 :: u46 :: u47 :: u48 :: u49 :: u50 :: u51 :: u52 :: u53 :: u54 :: u55 :: u56 :: u57 :: u58 :: u59 :: u60 :: u61 :: u62 :: u63 :: u64 :: u65 :: u66 :: u67 :: u68 :: u69 :: u70 :: u71 :: u72 :: u73 :: u74 :: u75 :: u76 :: u77 :: u78 :: u79 :: u80 :: u81 :: u82 :: u83 :: u84 :: u85 :: u86 :: u87 :: u88 :: u89 :: u90 :: u91 :: u92 :: u93 :: u94 :: u95 :: u96 :: u97 :: u98 :: u99 :: u100 :: u101 :: u102 :: u103 :: u104 :: u105 :: u106 :: u107 :: u108 :: u109 :: u110 :: u111 :: u112 :: u113 :: u114 :: u115 :: u116 :: u117 :: u118 :: u119 :: u120 :: u121 :: u122 :: u123 :: u124 :: u125 :: u126 :: u127 :: u128 :: u129 :: u130 :: u131 :: u132 :: u133 :: u134 :: u135 :: u136 :: u137 :: u138 :: u139 :: u140 :: u141 :: u142 :: u143 :: u144 :: u145 :: u146 :: u147 :: u148 :: u149 :: u150 :: u151 :: u152 :: u153 :: u154 :: u155 :: u156 :: u157 :: u158 :: u159 :: u160 :: u161 :: u162 :: u163 :: u164 :: u165 :: u166 :: u167 :: u168 :: u169 :: u170 :: u171 :: u172 :: u173 :: u174 :: u175 :: u176 :: u177 :: u178 :: u179 :: u180 :: u181 :: u182 :: u183 :: u184 :: u185 :: u186 :: u187 :: u188 :: u189 :: u190 :: u191 :: u192 :: u193 :: u194 :: u195 :: u196 :: u197 :: u198 :: u199 :: u200 :: u201 :: u202 :: u203 :: u204 :: u205 :: u206 :: u207 :: u208 :: u209 :: u210 :: u211 :: u212 :: u213 :: u214 :: u215 :: u216 :: u217 :: u218 :: u219 :: u220 :: u221 :: u222 :: u223 :: u224 :: u225 :: u226 :: []).toArray, defers := ds } W := by
  unfold MpR.ops35
  have hro := wide_round HF
  have f6 := wide_fn HF 22
  have f7 := wide_fn HF 21
  have f10 := wide_fn HF 23
  have f11 := wide_fn HF 24
  have HK := Aside0.mk (Below.refl W.heap.size W)
  have c50 := (B5.below HK.out).cell (i := 0) rfl; have c51 := (B5.below HK.out).cell (i := 1) rfl
  cases lb with
  | false =>
    gi_wp2_with (first
      | (gi_at_call 23; refine (callsIn_of HF (GB.out _ HK.out)).mono ?_; rintro e wk ⟨rfl, hb⟩; clear c50 c51; have HKn := Aside0.mk (HK.out.trans (hb.mono HK.out.size)); clear HK hb; have HK := HKn; clear HKn; have c9 := (B9.below HK.out).cell (i := 0) rfl; have cc := (Bc.below HK.out).cell (i := i) CVI.out; have c1 := (B1.below HK.out).cell (i := 0) rfl)
      | (gi_at_call 21; refine (callsIn_of HF (LK.out _)).mono ?_; rintro e wk ⟨rfl, hb⟩; clear c1 c9 cc; have HKn := Aside0.mk (HK.out.trans (hb.mono HK.out.size)); clear HK hb; have HK := HKn; clear HKn; skip))
    exact H.out _ _ _ _ _ _ _ _ _ _ _ _ _ _ _ _ _ _ _ _ _ _ _ _ _ _ HK.out
  | true =>
    gi_wp2_with (first
      | (gi_at_call 23; refine (callsIn_of HF (GB.out _ HK.out)).mono ?_; rintro e wk ⟨rfl, hb⟩; clear c50 c51; have HKn := Aside0.mk (HK.out.trans (hb.mono HK.out.size)); clear HK hb; have HK := HKn; clear HKn; have c9 := (B9.below HK.out).cell (i := 0) rfl; have cc := (Bc.below HK.out).cell (i := i) CVI.out; have c1 := (B1.below HK.out).cell (i := 0) rfl)
      | (gi_at_call 21; refine (callsIn_of HF (LK.out _)).mono ?_; rintro e wk ⟨rfl, hb⟩; clear c1 c9 cc; have HKn := Aside0.mk (HK.out.trans (hb.mono HK.out.size)); clear HK hb; have HK := HKn; clear HKn; have c1 := (B1.below HK.out).cell (i := 0) rfl)
      | (gi_at_call 22; refine (callsIn_of HF (KD.out _)).mono ?_; rintro e wk ⟨rfl, hb⟩; clear c1; have HKn := Aside0.mk (HK.out.trans (hb.mono HK.out.size)); clear HK hb; have HK := HKn; clear HKn; skip))
    have eb : (!(kz != 0) == bb) = false := by rw [HKB.out]; simp
    first | exact H.out _ _ _ _ _ _ _ _ _ _ _ _ _ _ _ _ _ _ _ _ _ _ _ _ _ _ HK.out | (rw [eb]; exact H.out _ _ _ _ _ _ _ _ _ _ _ _ _ _ _ _ _ _ _ _ _ _ _ _ _ _ HK.out)
def MpR.ops32 : Array Oper := #[{ dst := some 178, op := Go.Op.move (Go.Operand.tmp 6), type := 36, pos := "outright.go:64", after := #[], guard := none }, { dst := some 179, op := Go.Op.move (Go.Operand.tmp 13), type := 3, pos := "outright.go:64", after := #[], guard := none }, { dst := some 180, op := Go.Op.buildSlice 36 1 #[(0, Go.Operand.tmp 179)], type := 36, pos := "outright.go:64", after := #[{ on := 1, ground := Go.Ground.data }], guard := none }, { dst := some 181, op := Go.Op.call { callee := Go.Callee.builtin Go.Builtin.append, args := #[Go.Operand.tmp 178, Go.Operand.tmp 180], argTypes := #[36, 36] }, type := 36, pos := "outright.go:64", after := #[{ on := 0, ground := Go.Ground.data }, { on := 2, ground := Go.Ground.data }], guard := none }, { dst := some 6, op := Go.Op.assign (Go.Operand.tmp 181), type := 36, pos := "outright.go:64", after := #[{ on := 3, ground := Go.Ground.data }, { on := 3, ground := Go.Ground.chain }, { on := 0, ground := Go.Ground.phase }, { on := 1, ground := Go.Ground.phase }, { on := 2, ground := Go.Ground.phase }, { on := 3, ground := Go.Ground.phase }], guard := none }]
set_option maxHeartbeats 8000000 in
set_option maxRecDepth 100000 in
theorem MpR.reg32 {F : Fence} (HF : Aside0 (F = Fence.wide)) {u0 u2 u3 u4 u5 u7 u8 u9 u10 u11 u12 u14 u15 u16 u17 u18 u19 u20 u21 u22 u23 u24 u25 u26 u27 u28 u29 u30 u31 u32 u33 u34 u35 u36 u37 u38 u39 u40 u41 u42 u43 u44 u45 u46 u47 u48 u49 u50 u51 u52 u53 u54 u55 u56 u57 u58 u59 u60 u61 u62 u63 u64 u65 u66 u67 u68 u69 u70 u71 u72 u73 u74 u75 u76 u77 u78 u79 u80 u81 u82 u83 u84 u85 u86 u87 u88 u89 u90 u91 u92 u93 u94 u95 u96 u97 u98 u99 u100 u101 u102 u103 u104 u105 u106 u107 u108 u109 u110 u111 u112 u113 u114 u115 u116 u117 u118 u119 u120 u121 u122 u123 u124 u125 u126 u127 u128 u129 u130 u131 u132 u133 u134 u135 u136 u137 u138 u139 u140 u141 u142 u143 u144 u145 u146 u147 u148 u149 u150 u151 u152 u153 u154 u155 u156 u157 u158 u159 u160 u161 u162 u163 u164 u165 u166 u167 u168 u169 u170 u171 u172 u173 u174 u175 u176 u178 u179 u180 u181 u182 u183 u184 u185 u186 u187 u188 u189 u190 u191 u192 u193 u194 u195 u196 u197 u198 u199 u200 u201 u202 u203 u204 u205 u206 u207 u208 u209 u210 u211 u212 u213 u214 u215 u216 u217 u218 u219 u220 u221 u222 u223 u224 u225 u226 : Value} {ds : List Deferred} (s : ByteArray) (i : Nat) (bb : Bool) {g1 gc g9 : Nat} {W3 : World} (wq bg : Nat → Bool) {v6 v7 : Value} {ys : List Value}
    (Q : Exit → Act → World → Prop) (W : World) (HBQ : Aside0 (bb = bg i)) (HL6 : Aside0 (((xsB bg i).length + 1) * 8 ≤ 140737488355328)) (HI : Aside0 (MpI s W3 gc g9 wq v6 v7 (xsB bg i) ys W))
    (H : Aside0 (∀ (x178 x179 x180 x181 v' : Value) (W' : World), Aside0 (MpI s W3 gc g9 wq v' v7 (xsB bg (i + 1)) ys W') → Aside0 (KeepsOthers W W') → Q .normal { tmps := (u0 :: (.pointer (some ⟨g1, 0, none⟩) : Value) :: u2 :: u3 :: u4 :: u5 :: (v' : Value) :: u7 :: u8 :: u9 :: u10 :: u11 :: u12 :: (.int .i64 (i : Int) : Value) :: u14 :: u15 :: u16 :: u17 :: u18 :: u19 :: u20 :: u21 :: u22 :: u23 :: u24 :: u25 :: u26 :: u27 :: u28 :: u29 :: u30 :: u31 :: u32 :: u33 :: u34 :: u35 :: u36 :: u37 :: u38 :: u39 :: u40 :: u41 :: u42 :: u43 :: u44 :: u45 :: u46 :: u47 :: u48 :: u49 :: u50 :: u51 :: u52 :: u53 :: u54 :: u55 :: u56 :: u57 :: u58 :: u59 :: u60 :: u61 :: u62 :: u63 :: u64 :: u65 :: u66 :: u67 :: u68 :: u69 :: u70 :: u71 :: u72 :: u73 :: u74 :: u75 :: u76 :: u77 :: u78 :: u79 :: u80 :: u81 :: u82 :: u83 :: u84 :: u85 :: u86 :: u87 :: u88 :: u89 :: u90 :: u91 :: u92 :: u93 :: u94 :: u95 :: u96 :: u97 :: u98 :: u99 :: u100 :: u101 :: u102 :: u103 :: u104 :: u105 :: u106 :: u107 :: u108 :: u109 :: u110 :: u111 :: u112 :: u113 :: u114 :: u115 :: u116 :: u117 :: u118 :: u119 :: u120 :: u121 :: u122 :: u123 :: u124 :: u125 :: u126 :: u127 :: u128 :: u129 :: u130 :: u131 :: u132 :: u133 :: u134 :: u135 :: u136 :: u137 :: u138 :: u139 :: u140 :: u141 :: u142 :: u143 :: u144 :: u145 :: u146 :: u147 :: u148 :: u149 :: u150 :: u151 :: u152 :: u153 :: u154 :: u155 :: u156 :: u157 :: u158 :: u159 :: u160 :: u161 :: u162 :: u163 :: u164 :: u165 :: u166 :: u167 :: u168 :: u169 :: u170 :: u171 :: u172 :: u173 :: u174 :: u175 :: u176 :: (.bool bb : Value) :: (x178 : Value) :: (x179 : Value) :: (x180 : Value) :: (x181 : Value) :: u182 :: u183 :: u184 :: u185 :: u186 :: u187 :: u188 :: u189 :: u190 :: u191 :: u192 :: u193 :: u194 :: u195 :: u196 :: u197 :: u198 :: u199 :: u200 :: u201 :: u202 :: u203 :: u204 :: u205 :: u206 :: u207 :: u208 :: u209 :: u210 :: u211 :: u212 :: u213 :: u214 :: u215 :: u216 :: u217 :: u218 :: u219 :: u220 :: u221 :: u222 :: u223 :: u224 :: u225 :: u226 :: []).toArray, defers := ds } W')) :
    (Code.cond (.tmp 177) (Code.region 32 MpR.ops32 false) Code.skip).wpIn F 9 Tryd.prog Q { tmps := (u0 :: (.pointer (some ⟨g1, 0, none⟩) : Value) :: u2 :: u3 :: u4 :: u5 :: (v6 : Value) :: u7 :: u8 :: u9 :: u10 :: u11 :: u12 :: (.int .i64 (i : Int) : Value) :: u14 :: u15 :: u16 :: u17 :: u18 :: u19 :: u20 :: u21 :: u22 :: u23 :: u24 :: u25 :: u26 :: u27 :: u28 :: u29 :: u30 :: u31 :: u32 :: u33 :: u34 :: u35 :: u36 :: u37 :: u38 :: u39 :: u40 :: u41 :: u42 :: u43 :: u44 :: u45 :: u46 :: u47 :: u48 :: u49 :: u50 :: u51 :: u52 :: u53 :: u54 :: u55 :: u56 :: u57 :: u58 :: u59 :: u60 :: u61 :: u62 :: u63 :: u64 :: u65 :: u66 :: u67 :: u68 :: u69 :: u70 :: u71 :: u72 :: u73 :: u74 :: u75 :: u76 :: u77 :: u78 :: u79 :: u80 :: u81 :: u82 :: u83 :: u84 :: u85 :: u86 :: u87 :: u88 :: u89 :: u90 :: u91 :: u92 :: u93 :: u94 :: u95 :: u96 :: u97 :: u98 :: u99 :: u100 :: u101 :: u102 :: u103 :: u104 :: u105 :: u106 :: u107 :: u108 :: u109 :: u110 :: u111 :: u112 :: u113 :: u114 :: u115 :: u116 :: u117 :: u118 :: u119 :: u120 :: u121 :: u122 :: u123 :: u124 :: u125 :: u126 :: u127 :: u128 :: u129 :: u130 :: u131 :: u132 :: u133 :: u134 :: u135 :: u136 :: u137 :: u138 :: u139 :: u140 :: u141 :: u142 :: u143 :: u144 :: u145 :: u146 :: u147 :: u148 :: u149 :: u150 :: u151 :: u152 :: u153 :: u154 :: u155 :: u156 :: u157 :: u158 :: u159 :: u160 :: u161 :: u162 :: u163 :: u164 :: u165 :: u166 :: u167 :: u168 :: u169 :: u170 :: u171 :: u172 :: u173 :: u174 :: u175 :: u176 :: (.bool bb : Value) :: u178 :: u179 :: u180 :: u181 :: u182 :: u183 :: u184 :: u185 :: u186 :: u187 :: u188 :: u189 :: u190 :: u191 :: u192 :: u193 :: u194 :: u195 :: u196 :: u197 :: u198 :: u199 :: u200 :: u201 :: u202 :: u203 :: u204 :: u205 :: u206 :: u207 :: u208 :: u209 :: u210 :: u211 :: u212 :: u213 :: u214 :: u215 :: u216 :: u217 :: u218 :: u219 :: u220 :: u221 :: u222 :: u223 :: u224 :: u225 :: u226 :: []).toArray, defers := ds } W := by
  unfold MpR.ops32
  have hro := wide_round HF
  cases bb with
  | false =>
    gi_wp2
    exact H.out _ _ _ _ _ _ ⟨by rw [xsB_no HBQ.out.symm]; exact HI.out⟩ ⟨keepsOthers_below (Below.refl _ _)⟩
  | true =>
    have HB := HI.out.hb
    gi_wp2_with (first
      | ((with_reducible refine gate_dstIn (N := 180) rfl ?_); refine ev_lit1In HB rfl rfl (.int .i64 (i : Int)) 3 ?hr ?_; (case hr => first | (go_simp; done) | (go_simp; rfl)); intro gl w11 G_gl B_gl HB11 K_gl KO11; have HIn := Aside0.mk (HI.out.below K_gl.out); clear HI HB; have HI := HIn; clear HIn)
      | ((with_reducible refine gate_dstIn (N := 181) rfl ?_); refine ev_append1In HB11 rfl _ _ 36 3 (.int .i64 0) 8 rfl Tryd.underlying36 (by kernel_rfl) rfl (by decide) _ (xsB bg i).length _ rfl HI.out.r6 gl (.int .i64 (i : Int)) rfl B_gl rfl HL6.out ?_; intro v1 w12 hrow12 HB12 K12 KO12 FV1; have HIn := Aside0.mk (HI.out.add6 hrow12 HB12 K12); clear HI; have HI := HIn; clear HIn))
    exact H.out _ _ _ _ _ _ ⟨by rw [xsB_yes HBQ.out.symm]; exact HI.out⟩ ⟨KO11.out.trans KO12.out⟩
def MpR.ops34 : Array Oper := #[{ dst := some 184, op := Go.Op.move (Go.Operand.tmp 7), type := 37, pos := "outright.go:67", after := #[], guard := none }, { dst := some 185, op := Go.Op.load 9 (Go.Operand.tmp 1), type := 9, pos := "outright.go:67", after := #[], guard := none }, { dst := some 186, op := Go.Op.move (Go.Operand.tmp 13), type := 3, pos := "outright.go:67", after := #[], guard := none }, { dst := some 187, op := Go.Op.index 9 (Go.Operand.tmp 185) (Go.Operand.tmp 186), type := 5, pos := "outright.go:67", after := #[{ on := 1, ground := Go.Ground.data }, { on := 2, ground := Go.Ground.data }], guard := none }, { dst := some 188, op := Go.Op.buildSlice 37 1 #[(0, Go.Operand.tmp 187)], type := 37, pos := "outright.go:67", after := #[{ on := 3, ground := Go.Ground.data }], guard := none }, { dst := some 189, op := Go.Op.call { callee := Go.Callee.builtin Go.Builtin.append, args := #[Go.Operand.tmp 184, Go.Operand.tmp 188], argTypes := #[37, 37] }, type := 37, pos := "outright.go:67", after := #[{ on := 0, ground := Go.Ground.data }, { on := 4, ground := Go.Ground.data }], guard := none }, { dst := some 7, op := Go.Op.assign (Go.Operand.tmp 189), type := 37, pos := "outright.go:67", after := #[{ on := 5, ground := Go.Ground.data }, { on := 5, ground := Go.Ground.chain }, { on := 0, ground := Go.Ground.phase }, { on := 1, ground := Go.Ground.phase }, { on := 2, ground := Go.Ground.phase }, { on := 3, ground := Go.Ground.phase }, { on := 4, ground := Go.Ground.phase }, { on := 5, ground := Go.Ground.phase }], guard := none }]
set_option maxHeartbeats 8000000 in
set_option maxRecDepth 100000 in
theorem MpR.reg34 {F : Fence} (HF : Aside0 (F = Fence.wide)) {u0 u2 u3 u4 u5 u6 u8 u9 u10 u11 u12 u14 u15 u16 u17 u18 u19 u20 u21 u22 u23 u24 u25 u26 u27 u28 u29 u30 u31 u32 u33 u34 u35 u36 u37 u38 u39 u40 u41 u42 u43 u44 u45 u46 u47 u48 u49 u50 u51 u52 u53 u54 u55 u56 u57 u58 u59 u60 u61 u62 u63 u64 u65 u66 u67 u68 u69 u70 u71 u72 u73 u74 u75 u76 u77 u78 u79 u80 u81 u82 u83 u84 u85 u86 u87 u88 u89 u90 u91 u92 u93 u94 u95 u96 u97 u98 u99 u100 u101 u102 u103 u104 u105 u106 u107 u108 u109 u110 u111 u112 u113 u114 u115 u116 u117 u118 u119 u120 u121 u122 u123 u124 u125 u126 u127 u128 u129 u130 u131 u132 u133 u134 u135 u136 u137 u138 u139 u140 u141 u142 u143 u144 u145 u146 u147 u148 u149 u150 u151 u152 u153 u154 u155 u156 u157 u158 u159 u160 u161 u162 u163 u164 u165 u166 u167 u168 u169 u170 u171 u172 u173 u174 u175 u176 u177 u178 u179 u180 u181 u182 u184 u185 u186 u187 u188 u189 u190 u191 u192 u193 u194 u195 u196 u197 u198 u199 u200 u201 u202 u203 u204 u205 u206 u207 u208 u209 u210 u211 u212 u213 u214 u215 u216 u217 u218 u219 u220 u221 u222 u223 u224 u225 u226 : Value} {ds : List Deferred} (s : ByteArray) (i : Nat) (cz : Int) (bb kk : Bool) {g1 gc g9 : Nat} {W3 : World} (wq kb : Nat → Bool) {v6 v7 : Value} {xs : List Value}
    (Q : Exit → Act → World → Prop) (W : World) (HNB : bb = !kk) (HBQ : Aside0 (kk = kb i)) (HCZ : Aside0 (cz = bt s (i : Int))) (hq2 : (0 : Int) ≤ (i : Int)) (hq1 : (i : Int) < (s.size : Int)) (hby : ∀ h : i < s.size, ((s[i]'h).toNat : Int) = cz) (B1 : Blk W g1 #[.string s] 9) (HL7 : Aside0 (((ysB s kb i).length + 1) * 1 ≤ 140737488355328)) (HI : Aside0 (MpI s W3 gc g9 wq v6 v7 xs (ysB s kb i) W))
    (H : Aside0 (∀ (x184 x185 x186 x187 x188 x189 v' : Value) (W' : World), Aside0 (MpI s W3 gc g9 wq v6 v' xs (ysB s kb (i + 1)) W') → Aside0 (KeepsOthers W W') → Q .normal { tmps := (u0 :: (.pointer (some ⟨g1, 0, none⟩) : Value) :: u2 :: u3 :: u4 :: u5 :: u6 :: (v' : Value) :: u8 :: u9 :: u10 :: u11 :: u12 :: (.int .i64 (i : Int) : Value) :: u14 :: u15 :: u16 :: u17 :: u18 :: u19 :: u20 :: u21 :: u22 :: u23 :: u24 :: u25 :: u26 :: u27 :: u28 :: u29 :: u30 :: u31 :: u32 :: u33 :: u34 :: u35 :: u36 :: u37 :: u38 :: u39 :: u40 :: u41 :: u42 :: u43 :: u44 :: u45 :: u46 :: u47 :: u48 :: u49 :: u50 :: u51 :: u52 :: u53 :: u54 :: u55 :: u56 :: u57 :: u58 :: u59 :: u60 :: u61 :: u62 :: u63 :: u64 :: u65 :: u66 :: u67 :: u68 :: u69 :: u70 :: u71 :: u72 :: u73 :: u74 :: u75 :: u76 :: u77 :: u78 :: u79 :: u80 :: u81 :: u82 :: u83 :: u84 :: u85 :: u86 :: u87 :: u88 :: u89 :: u90 :: u91 :: u92 :: u93 :: u94 :: u95 :: u96 :: u97 :: u98 :: u99 :: u100 :: u101 :: u102 :: u103 :: u104 :: u105 :: u106 :: u107 :: u108 :: u109 :: u110 :: u111 :: u112 :: u113 :: u114 :: u115 :: u116 :: u117 :: u118 :: u119 :: u120 :: u121 :: u122 :: u123 :: u124 :: u125 :: u126 :: u127 :: u128 :: u129 :: u130 :: u131 :: u132 :: u133 :: u134 :: u135 :: u136 :: u137 :: u138 :: u139 :: u140 :: u141 :: u142 :: u143 :: u144 :: u145 :: u146 :: u147 :: u148 :: u149 :: u150 :: u151 :: u152 :: u153 :: u154 :: u155 :: u156 :: u157 :: u158 :: u159 :: u160 :: u161 :: u162 :: u163 :: u164 :: u165 :: u166 :: u167 :: u168 :: u169 :: u170 :: u171 :: u172 :: u173 :: u174 :: u175 :: u176 :: u177 :: u178 :: u179 :: u180 :: u181 :: u182 :: (.bool bb : Value) :: (x184 : Value) :: (x185 : Value) :: (x186 : Value) :: (x187 : Value) :: (x188 : Value) :: (x189 : Value) :: u190 :: u191 :: u192 :: u193 :: u194 :: u195 :: u196 :: u197 :: u198 :: u199 :: u200 :: u201 :: u202 :: u203 :: u204 :: u205 :: u206 :: u207 :: u208 :: u209 :: u210 :: u211 :: u212 :: u213 :: u214 :: u215 :: u216 :: u217 :: u218 :: u219 :: u220 :: u221 :: u222 :: u223 :: u224 :: u225 :: u226 :: []).toArray, defers := ds } W')) :
    (Code.cond (.tmp 183) (Code.region 34 MpR.ops34 false) Code.skip).wpIn F 9 Tryd.prog Q { tmps := (u0 :: (.pointer (some ⟨g1, 0, none⟩) : Value) :: u2 :: u3 :: u4 :: u5 :: u6 :: (v7 : Value) :: u8 :: u9 :: u10 :: u11 :: u12 :: (.int .i64 (i : Int) : Value) :: u14 :: u15 :: u16 :: u17 :: u18 :: u19 :: u20 :: u21 :: u22 :: u23 :: u24 :: u25 :: u26 :: u27 :: u28 :: u29 :: u30 :: u31 :: u32 :: u33 :: u34 :: u35 :: u36 :: u37 :: u38 :: u39 :: u40 :: u41 :: u42 :: u43 :: u44 :: u45 :: u46 :: u47 :: u48 :: u49 :: u50 :: u51 :: u52 :: u53 :: u54 :: u55 :: u56 :: u57 :: u58 :: u59 :: u60 :: u61 :: u62 :: u63 :: u64 :: u65 :: u66 :: u67 :: u68 :: u69 :: u70 :: u71 :: u72 :: u73 :: u74 :: u75 :: u76 :: u77 :: u78 :: u79 :: u80 :: u81 :: u82 :: u83 :: u84 :: u85 :: u86 :: u87 :: u88 :: u89 :: u90 :: u91 :: u92 :: u93 :: u94 :: u95 :: u96 :: u97 :: u98 :: u99 :: u100 :: u101 :: u102 :: u103 :: u104 :: u105 :: u106 :: u107 :: u108 :: u109 :: u110 :: u111 :: u112 :: u113 :: u114 :: u115 :: u116 :: u117 :: u118 :: u119 :: u120 :: u121 :: u122 :: u123 :: u124 :: u125 :: u126 :: u127 :: u128 :: u129 :: u130 :: u131 :: u132 :: u133 :: u134 :: u135 :: u136 :: u137 :: u138 :: u139 :: u140 :: u141 :: u142 :: u143 :: u144 :: u145 :: u146 :: u147 :: u148 :: u149 :: u150 :: u151 :: u152 :: u153 :: u154 :: u155 :: u156 :: u157 :: u158 :: u159 :: u160 :: u161 :: u162 :: u163 :: u164 :: u165 :: u166 :: u167 :: u168 :: u169 :: u170 :: u171 :: u172 :: u173 :: u174 :: u175 :: u176 :: u177 :: u178 :: u179 :: u180 :: u181 :: u182 :: (.bool bb : Value) :: u184 :: u185 :: u186 :: u187 :: u188 :: u189 :: u190 :: u191 :: u192 :: u193 :: u194 :: u195 :: u196 :: u197 :: u198 :: u199 :: u200 :: u201 :: u202 :: u203 :: u204 :: u205 :: u206 :: u207 :: u208 :: u209 :: u210 :: u211 :: u212 :: u213 :: u214 :: u215 :: u216 :: u217 :: u218 :: u219 :: u220 :: u221 :: u222 :: u223 :: u224 :: u225 :: u226 :: []).toArray, defers := ds } W := by
  unfold MpR.ops34
  have hro := wide_round HF
  subst HNB
  cases kk with
  | true =>
    simp only [Bool.not_true]
    gi_wp2
    exact H.out _ _ _ _ _ _ _ _ ⟨by rw [ysB_yes HBQ.out.symm]; exact HI.out⟩ ⟨keepsOthers_below (Below.refl _ _)⟩
  | false =>
    simp only [Bool.not_false]
    have HB := HI.out.hb
    have c1 := B1.cell (i := 0) rfl
    gi_wp2_with (first
      | ((with_reducible refine gate_dstIn (N := 188) rfl ?_); refine ev_lit1In HB rfl rfl (.int .u8 cz) 5 ?hr ?_; (case hr => first | (go_simp; done) | (go_simp; rfl)); intro gl w11 G_gl B_gl HB11 K_gl KO11; have HIn := Aside0.mk (HI.out.below K_gl.out); clear HI HB c1; have HI := HIn; clear HIn)
      | ((with_reducible refine gate_dstIn (N := 189) rfl ?_); refine ev_append1In HB11 rfl _ _ 37 5 (.int .u8 0) 1 rfl Tryd.underlying37 (by kernel_rfl) rfl (by decide) _ (ysB s kb i).length _ rfl HI.out.r7 gl (.int .u8 cz) rfl B_gl rfl HL7.out ?_; intro v1 w12 hrow12 HB12 K12 KO12 FV1; have HIn := Aside0.mk (HI.out.add7 hrow12 HB12 K12); clear HI; have HI := HIn; clear HIn))
    exact H.out _ _ _ _ _ _ _ _ ⟨by rw [ysB_no HBQ.out.symm, ← HCZ.out]; exact HI.out⟩ ⟨KO11.out.trans KO12.out⟩
end Go.Proofs.YtgddljealeklkaaDoorM
end
-- PMx0
section
namespace Go.Proofs.YtgddljealeklkaaDoor.PM
open Go.RowKit Go.Proofs.YtgddljealeklkaaDoorW.PrintWords Go.Proofs.YtgddljealeklkaaDoorW.PrintLast Go.Proofs.YtgddljealeklkaaDoorW.PrintMore
attribute [local go_sem] max2_int min2_int max_two min_two max_three min_three max_four min_four   -- for this text's walks alone
set_option linter.unusedVariables false
set_option linter.unusedSimpArgs false



def errW : Option Int → Value
  | none => .nilIface
  | some c => .iface 0 (.int .i64 c)
theorem errW_none : errW none = .nilIface := rfl
theorem errW_some (c : Int) : errW (some c) = .iface 0 (.int .i64 c) := rfl

theorem info75 : (Tryd.prog.info? 75).map (fun i => (i.zero, i.size, i.bytes)) = some (some (.int .u64 0), 1, 8) := by kernel_rfl
structure S34 where
  f0 : Int
  f1 : (List Int)
structure S77 where
  f0 : Int
  f1 : Int
  f2 : Int
  f3 : Int
def z77 : S77 := ⟨(0 : Int), (0 : Int), (0 : Int), (0 : Int)⟩
def k77 : Kd S77 := Kd.iso (Kd.pair (Kd.int .u64) (Kd.pair (Kd.int .u64) (Kd.pair (Kd.int .u64) (Kd.int .u64)))) (fun x : S77 => (x.f0, x.f1, x.f2, x.f3))
theorem k77_open {w : World} {x : S77} {cs : List Value} (h : k77.K w x cs) : cs = [.int .u64 x.f0, .int .u64 x.f1, .int .u64 x.f2, .int .u64 x.f3] := by
  obtain ⟨_, _, rfl, rfl, ⟨_, _, rfl, rfl, ⟨_, _, rfl, rfl, rfl⟩⟩⟩ := h
  exact rfl
theorem k77_mkM (w : World) (base : Nat) (ok : Nat → Prop) (x : S77)  : k77.M w base ok x [.int .u64 x.f0, .int .u64 x.f1, .int .u64 x.f2, .int .u64 x.f3] := ⟨[.int .u64 x.f0], [.int .u64 x.f1, .int .u64 x.f2, .int .u64 x.f3], rfl, rfl, ⟨[.int .u64 x.f1], [.int .u64 x.f2, .int .u64 x.f3], rfl, rfl, ⟨[.int .u64 x.f2], [.int .u64 x.f3], rfl, rfl, rfl⟩⟩⟩
def rd_T77 (xs : List S77) (i : Int) : S77 := xs.getD i.toNat z77
theorem at_T77 {w : World} {A : Option Addr} {n : Nat} {xs : List S77} (h : Kd.C k77 w A n xs) (i : Int) (h0 : 0 ≤ i) (h1 : i < n) : ∃ ad , A = some ad ∧ w.cell? (ad.add (i.toNat * 4)) = some (.int .u64 (rd_T77 xs i).f0) ∧ w.cell? ⟨(ad.add (i.toNat * 4)).block, (ad.add (i.toNat * 4)).off + 1, none⟩ = some (.int .u64 (rd_T77 xs i).f1) ∧ w.cell? ⟨(ad.add (i.toNat * 4)).block, (ad.add (i.toNat * 4)).off + 2, none⟩ = some (.int .u64 (rd_T77 xs i).f2) ∧ w.cell? ⟨(ad.add (i.toNat * 4)).block, (ad.add (i.toNat * 4)).off + 3, none⟩ = some (.int .u64 (rd_T77 xs i).f3) := by
  obtain ⟨ad, c, e, _, hK, hc0⟩ := Kd.C_get h z77 i h0 h1
  have hc : ∀ j u, c[j]? = some u → w.cell? (ad.add (i.toNat * 4 + j)) = some u := hc0
  obtain rfl := k77_open hK
  exact ⟨ad, e, hc 0 _ rfl, by rw [← add_field _ _ 1 (by omega)]; exact hc 1 _ rfl, by rw [← add_field _ _ 2 (by omega)]; exact hc 2 _ rfl, by rw [← add_field _ _ 3 (by omega)]; exact hc 3 _ rfl⟩

end Go.Proofs.YtgddljealeklkaaDoor.PM
end
